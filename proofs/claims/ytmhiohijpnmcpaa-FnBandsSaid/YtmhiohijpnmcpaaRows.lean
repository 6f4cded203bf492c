/-
  No cell of these rows narrows 'for every input' (looked for: loops, veiled, ifaces, maps, wideKeys, modest, calm, conditions, laid).
  DERIVED. THE GIVEN ROWS OF THIS SEAT. 11 by the template 'for every input the law returns true; each argument reads behind the call as it read before'; 0 by the template 'total and deterministic' (their statements: YtmhiohijpnmcpaaTotals.lean).
  GIVEN WITH THE SEED: the statements are not yours to turn. If you find one false, say at which input.
  Laid BY PROGRAM, IN A SANDBOX (cutbox-rows.mjs): the forced cells as the released guide's own fill.sh prints them over the translation 575b19ae68f1b4fb… (all of the seat's roots in one cut). By AI agents, Wed Nov 11 2026. No macro, syntax, notation, axiom, sorry.
-/
import Derived.Test.YtmhiohijpnmcpaaChecked
import GoSem.Claim
import GoSem.ClaimJoined
import GoSem.ClaimMapViews
import Derived.JoinedTies
import Derived.KernelRfl
namespace Go.Proofs.Ytmhiohijpnmcpaa
/- THE CELL 'sum', in the pinned program and in every row, IS THE sha256 OF THE DUMP (.gsa) THAT YtmhiohijpnmcpaaProg.lean LOADS. Nothing in Lean hashes anything: it is a label: what it is worth is what the hold of that sum in a sandbox is worth. -/
noncomputable def Try.pinned : Pinned := { name := "ytmhiohijpnmcpaa", sum := "575b19ae68f1b4fba3f62f08d1853b951e891f0111b22a90f138621d4fd645ed", checked := Try.checked }
namespace Rows
def none {H : Type} : Left H := { results := [], args := [] }

/-- 'laws.FnExactForecastOk': WHATEVER THE INPUT: true; the input reads as it did. -/
def fnExactForecastOkSpec : ChangeSpec := { name := "fnExactForecastOk", fn := fun _ => fun
  | [d] => { results := [.lit (.bool true)], args := [d] }
  | _ => none }
def fnExactForecastOkRow : OpenClaim := { program := "ytmhiohijpnmcpaa", sum := "575b19ae68f1b4fba3f62f08d1853b951e891f0111b22a90f138621d4fd645ed", func := "loop.example/g00831/laws.FnExactForecastOk", spec := "fnExactForecastOk", apart := false }
def FnExactForecastOkSaid : Prop := fnExactForecastOkRow.holds Try.pinned (OpenSpec.ofChange fnExactForecastOkSpec)

/-- ITS FALSE NEIGHBOUR: 'it returns false'. Refute it at one input. -/
def fnExactForecastOkWrong : ChangeSpec := { name := "fnExactForecastOk", fn := fun _ => fun
  | [d] => { results := [.lit (.bool false)], args := [d] }
  | _ => none }
def FnExactForecastOkWrongFalsely : Prop := fnExactForecastOkRow.holds Try.pinned (OpenSpec.ofChange fnExactForecastOkWrong)

/-- 'laws.FnExactSurgeAt': WHATEVER THE INPUT: true; the input reads as it did. -/
def fnExactSurgeAtSpec : ChangeSpec := { name := "fnExactSurgeAt", fn := fun _ => fun
  | [d1, d2] => { results := [.lit (.bool true)], args := [d1, d2] }
  | _ => none }
def fnExactSurgeAtRow : OpenClaim := { program := "ytmhiohijpnmcpaa", sum := "575b19ae68f1b4fba3f62f08d1853b951e891f0111b22a90f138621d4fd645ed", func := "loop.example/g00831/laws.FnExactSurgeAt", spec := "fnExactSurgeAt", apart := false }
def FnExactSurgeAtSaid : Prop := fnExactSurgeAtRow.holds Try.pinned (OpenSpec.ofChange fnExactSurgeAtSpec)

/-- ITS FALSE NEIGHBOUR: 'it returns false'. Refute it at one input. -/
def fnExactSurgeAtWrong : ChangeSpec := { name := "fnExactSurgeAt", fn := fun _ => fun
  | [d1, d2] => { results := [.lit (.bool false)], args := [d1, d2] }
  | _ => none }
def FnExactSurgeAtWrongFalsely : Prop := fnExactSurgeAtRow.holds Try.pinned (OpenSpec.ofChange fnExactSurgeAtWrong)

/-- 'laws.FnExactLowAt': WHATEVER THE INPUT: true; the input reads as it did. -/
def fnExactLowAtSpec : ChangeSpec := { name := "fnExactLowAt", fn := fun _ => fun
  | [d1, d2] => { results := [.lit (.bool true)], args := [d1, d2] }
  | _ => none }
def fnExactLowAtRow : OpenClaim := { program := "ytmhiohijpnmcpaa", sum := "575b19ae68f1b4fba3f62f08d1853b951e891f0111b22a90f138621d4fd645ed", func := "loop.example/g00831/laws.FnExactLowAt", spec := "fnExactLowAt", apart := false }
def FnExactLowAtSaid : Prop := fnExactLowAtRow.holds Try.pinned (OpenSpec.ofChange fnExactLowAtSpec)

/-- ITS FALSE NEIGHBOUR: 'it returns false'. Refute it at one input. -/
def fnExactLowAtWrong : ChangeSpec := { name := "fnExactLowAt", fn := fun _ => fun
  | [d1, d2] => { results := [.lit (.bool false)], args := [d1, d2] }
  | _ => none }
def FnExactLowAtWrongFalsely : Prop := fnExactLowAtRow.holds Try.pinned (OpenSpec.ofChange fnExactLowAtWrong)

/-- 'laws.FnExactHighAt': WHATEVER THE INPUT: true; the input reads as it did. -/
def fnExactHighAtSpec : ChangeSpec := { name := "fnExactHighAt", fn := fun _ => fun
  | [d1, d2] => { results := [.lit (.bool true)], args := [d1, d2] }
  | _ => none }
def fnExactHighAtRow : OpenClaim := { program := "ytmhiohijpnmcpaa", sum := "575b19ae68f1b4fba3f62f08d1853b951e891f0111b22a90f138621d4fd645ed", func := "loop.example/g00831/laws.FnExactHighAt", spec := "fnExactHighAt", apart := false }
def FnExactHighAtSaid : Prop := fnExactHighAtRow.holds Try.pinned (OpenSpec.ofChange fnExactHighAtSpec)

/-- ITS FALSE NEIGHBOUR: 'it returns false'. Refute it at one input. -/
def fnExactHighAtWrong : ChangeSpec := { name := "fnExactHighAt", fn := fun _ => fun
  | [d1, d2] => { results := [.lit (.bool false)], args := [d1, d2] }
  | _ => none }
def FnExactHighAtWrongFalsely : Prop := fnExactHighAtRow.holds Try.pinned (OpenSpec.ofChange fnExactHighAtWrong)

/-- 'laws.FnExactInBand': WHATEVER THE INPUT: true; the input reads as it did. -/
def fnExactInBandSpec : ChangeSpec := { name := "fnExactInBand", fn := fun _ => fun
  | [d1, d2, d3] => { results := [.lit (.bool true)], args := [d1, d2, d3] }
  | _ => none }
def fnExactInBandRow : OpenClaim := { program := "ytmhiohijpnmcpaa", sum := "575b19ae68f1b4fba3f62f08d1853b951e891f0111b22a90f138621d4fd645ed", func := "loop.example/g00831/laws.FnExactInBand", spec := "fnExactInBand", apart := false }
def FnExactInBandSaid : Prop := fnExactInBandRow.holds Try.pinned (OpenSpec.ofChange fnExactInBandSpec)

/-- ITS FALSE NEIGHBOUR: 'it returns false'. Refute it at one input. -/
def fnExactInBandWrong : ChangeSpec := { name := "fnExactInBand", fn := fun _ => fun
  | [d1, d2, d3] => { results := [.lit (.bool false)], args := [d1, d2, d3] }
  | _ => none }
def FnExactInBandWrongFalsely : Prop := fnExactInBandRow.holds Try.pinned (OpenSpec.ofChange fnExactInBandWrong)

/-- 'laws.FnExactReviseBand': WHATEVER THE INPUT: true; the input reads as it did. -/
def fnExactReviseBandSpec : ChangeSpec := { name := "fnExactReviseBand", fn := fun _ => fun
  | [d1, d2, d3, d4] => { results := [.lit (.bool true)], args := [d1, d2, d3, d4] }
  | _ => none }
def fnExactReviseBandRow : OpenClaim := { program := "ytmhiohijpnmcpaa", sum := "575b19ae68f1b4fba3f62f08d1853b951e891f0111b22a90f138621d4fd645ed", func := "loop.example/g00831/laws.FnExactReviseBand", spec := "fnExactReviseBand", apart := false }
def FnExactReviseBandSaid : Prop := fnExactReviseBandRow.holds Try.pinned (OpenSpec.ofChange fnExactReviseBandSpec)

/-- ITS FALSE NEIGHBOUR: 'it returns false'. Refute it at one input. -/
def fnExactReviseBandWrong : ChangeSpec := { name := "fnExactReviseBand", fn := fun _ => fun
  | [d1, d2, d3, d4] => { results := [.lit (.bool false)], args := [d1, d2, d3, d4] }
  | _ => none }
def FnExactReviseBandWrongFalsely : Prop := fnExactReviseBandRow.holds Try.pinned (OpenSpec.ofChange fnExactReviseBandWrong)

/-- 'laws.FnExactNarrowerBand': WHATEVER THE INPUT: true; the input reads as it did. -/
def fnExactNarrowerBandSpec : ChangeSpec := { name := "fnExactNarrowerBand", fn := fun _ => fun
  | [d1, d2] => { results := [.lit (.bool true)], args := [d1, d2] }
  | _ => none }
def fnExactNarrowerBandRow : OpenClaim := { program := "ytmhiohijpnmcpaa", sum := "575b19ae68f1b4fba3f62f08d1853b951e891f0111b22a90f138621d4fd645ed", func := "loop.example/g00831/laws.FnExactNarrowerBand", spec := "fnExactNarrowerBand", apart := false }
def FnExactNarrowerBandSaid : Prop := fnExactNarrowerBandRow.holds Try.pinned (OpenSpec.ofChange fnExactNarrowerBandSpec)

/-- ITS FALSE NEIGHBOUR: 'it returns false'. Refute it at one input. -/
def fnExactNarrowerBandWrong : ChangeSpec := { name := "fnExactNarrowerBand", fn := fun _ => fun
  | [d1, d2] => { results := [.lit (.bool false)], args := [d1, d2] }
  | _ => none }
def FnExactNarrowerBandWrongFalsely : Prop := fnExactNarrowerBandRow.holds Try.pinned (OpenSpec.ofChange fnExactNarrowerBandWrong)

/-- 'laws.FnExactHighWindows': WHATEVER THE INPUT: true; the input reads as it did. -/
def fnExactHighWindowsSpec : ChangeSpec := { name := "fnExactHighWindows", fn := fun _ => fun
  | [d1, d2] => { results := [.lit (.bool true)], args := [d1, d2] }
  | _ => none }
def fnExactHighWindowsRow : OpenClaim := { program := "ytmhiohijpnmcpaa", sum := "575b19ae68f1b4fba3f62f08d1853b951e891f0111b22a90f138621d4fd645ed", func := "loop.example/g00831/laws.FnExactHighWindows", spec := "fnExactHighWindows", unfollowed := true, recurses := true, apart := false }
def FnExactHighWindowsSaid : Prop := fnExactHighWindowsRow.holds Try.pinned (OpenSpec.ofChange fnExactHighWindowsSpec)

/-- ITS FALSE NEIGHBOUR: 'it returns false'. Refute it at one input. -/
def fnExactHighWindowsWrong : ChangeSpec := { name := "fnExactHighWindows", fn := fun _ => fun
  | [d1, d2] => { results := [.lit (.bool false)], args := [d1, d2] }
  | _ => none }
def FnExactHighWindowsWrongFalsely : Prop := fnExactHighWindowsRow.holds Try.pinned (OpenSpec.ofChange fnExactHighWindowsWrong)

/-- 'laws.FnExactLowWindows': WHATEVER THE INPUT: true; the input reads as it did. -/
def fnExactLowWindowsSpec : ChangeSpec := { name := "fnExactLowWindows", fn := fun _ => fun
  | [d1, d2] => { results := [.lit (.bool true)], args := [d1, d2] }
  | _ => none }
def fnExactLowWindowsRow : OpenClaim := { program := "ytmhiohijpnmcpaa", sum := "575b19ae68f1b4fba3f62f08d1853b951e891f0111b22a90f138621d4fd645ed", func := "loop.example/g00831/laws.FnExactLowWindows", spec := "fnExactLowWindows", unfollowed := true, recurses := true, apart := false }
def FnExactLowWindowsSaid : Prop := fnExactLowWindowsRow.holds Try.pinned (OpenSpec.ofChange fnExactLowWindowsSpec)

/-- ITS FALSE NEIGHBOUR: 'it returns false'. Refute it at one input. -/
def fnExactLowWindowsWrong : ChangeSpec := { name := "fnExactLowWindows", fn := fun _ => fun
  | [d1, d2] => { results := [.lit (.bool false)], args := [d1, d2] }
  | _ => none }
def FnExactLowWindowsWrongFalsely : Prop := fnExactLowWindowsRow.holds Try.pinned (OpenSpec.ofChange fnExactLowWindowsWrong)

/-- 'laws.FnBands': WHATEVER THE INPUT: true; the input reads as it did. -/
def fnBandsSpec : ChangeSpec := { name := "fnBands", fn := fun _ => fun
  | [d] => { results := [.lit (.bool true)], args := [d] }
  | _ => none }
def fnBandsRow : OpenClaim := { program := "ytmhiohijpnmcpaa", sum := "575b19ae68f1b4fba3f62f08d1853b951e891f0111b22a90f138621d4fd645ed", func := "loop.example/g00831/laws.FnBands", spec := "fnBands", apart := false }
def FnBandsSaid : Prop := fnBandsRow.holds Try.pinned (OpenSpec.ofChange fnBandsSpec)

/-- ITS FALSE NEIGHBOUR: 'it returns false'. Refute it at one input. -/
def fnBandsWrong : ChangeSpec := { name := "fnBands", fn := fun _ => fun
  | [d] => { results := [.lit (.bool false)], args := [d] }
  | _ => none }
def FnBandsWrongFalsely : Prop := fnBandsRow.holds Try.pinned (OpenSpec.ofChange fnBandsWrong)

/-- 'laws.FnWet': WHATEVER THE INPUT: true; the input reads as it did. -/
def fnWetSpec : ChangeSpec := { name := "fnWet", fn := fun _ => fun
  | [d] => { results := [.lit (.bool true)], args := [d] }
  | _ => none }
def fnWetRow : OpenClaim := { program := "ytmhiohijpnmcpaa", sum := "575b19ae68f1b4fba3f62f08d1853b951e891f0111b22a90f138621d4fd645ed", func := "loop.example/g00831/laws.FnWet", spec := "fnWet", unfollowed := true, recurses := true, apart := false }
def FnWetSaid : Prop := fnWetRow.holds Try.pinned (OpenSpec.ofChange fnWetSpec)

/-- ITS FALSE NEIGHBOUR: 'it returns false'. Refute it at one input. -/
def fnWetWrong : ChangeSpec := { name := "fnWet", fn := fun _ => fun
  | [d] => { results := [.lit (.bool false)], args := [d] }
  | _ => none }
def FnWetWrongFalsely : Prop := fnWetRow.holds Try.pinned (OpenSpec.ofChange fnWetWrong)

/- THE SECOND FORM. 'bulk': how many values and letters a reading holds, each counted each time it is reached (what is shared counts as often as it is met; a slice's spare places count too). A statement '..UptoSaid' is the law's where the arguments, and the package variables that the reading takes, are together of bulk at most 1048576: NARROWER than '..Said'. Prove '..Said' where nothing that the law and all that it calls make is longer than what came in: it says more and counts as full. Else prove '..UptoSaid'. A law counts once. -/
mutual
def uptoBulk {H : Type} : DataW H → Nat
  | .lit (.string bytes) => bytes.length + 1
  | .lit _ => 1
  | .nil => 1
  | .ptr d => uptoBulk d + 1
  | .slice elems spare => uptoBulkAll elems + uptoBulkAll spare + 1
  | .agg parts => uptoBulkAll parts + 1
  | .iface _ d => uptoBulk d + 1
  | .map entries => uptoBulkEntries entries + 1
  | .held _ => 1
def uptoBulkAll {H : Type} : List (DataW H) → Nat
  | [] => 0
  | d :: r => uptoBulk d + uptoBulkAll r
def uptoBulkEntries {H : Type} : List (Lit × DataW H) → Nat
  | [] => 0
  | x :: r => uptoBulkEntry x + uptoBulkEntries r
def uptoBulkEntry {H : Type} : Lit × DataW H → Nat
  | (.string bytes, d) => bytes.length + uptoBulk d + 1
  | (_, d) => uptoBulk d + 1
 end
def uptoSmall : (H : Type) → List (DataW H) → Bool := fun _ ds => decide (uptoBulkAll ds ≤ 1048576)
def OpenSpec.upto (s : _root_.Go.ChangeSpec) : _root_.Go.OpenSpec := { _root_.Go.OpenSpec.ofChange s with cond := some uptoSmall }

/-- 'laws.FnExactForecastOk', WHERE WHAT IT READS IS OF BULK AT MOST 1048576: true; the input reads as it did. -/
def fnExactForecastOkUptoRow : OpenClaim := { program := "ytmhiohijpnmcpaa", sum := "575b19ae68f1b4fba3f62f08d1853b951e891f0111b22a90f138621d4fd645ed", func := "loop.example/g00831/laws.FnExactForecastOk", spec := "fnExactForecastOk", apart := false, narrowed := true }
def FnExactForecastOkUptoSaid : Prop := fnExactForecastOkUptoRow.holds Try.pinned (OpenSpec.upto fnExactForecastOkSpec)

/-- 'laws.FnExactSurgeAt', WHERE WHAT IT READS IS OF BULK AT MOST 1048576: true; the input reads as it did. -/
def fnExactSurgeAtUptoRow : OpenClaim := { program := "ytmhiohijpnmcpaa", sum := "575b19ae68f1b4fba3f62f08d1853b951e891f0111b22a90f138621d4fd645ed", func := "loop.example/g00831/laws.FnExactSurgeAt", spec := "fnExactSurgeAt", apart := false, narrowed := true }
def FnExactSurgeAtUptoSaid : Prop := fnExactSurgeAtUptoRow.holds Try.pinned (OpenSpec.upto fnExactSurgeAtSpec)

/-- 'laws.FnExactLowAt', WHERE WHAT IT READS IS OF BULK AT MOST 1048576: true; the input reads as it did. -/
def fnExactLowAtUptoRow : OpenClaim := { program := "ytmhiohijpnmcpaa", sum := "575b19ae68f1b4fba3f62f08d1853b951e891f0111b22a90f138621d4fd645ed", func := "loop.example/g00831/laws.FnExactLowAt", spec := "fnExactLowAt", apart := false, narrowed := true }
def FnExactLowAtUptoSaid : Prop := fnExactLowAtUptoRow.holds Try.pinned (OpenSpec.upto fnExactLowAtSpec)

/-- 'laws.FnExactHighAt', WHERE WHAT IT READS IS OF BULK AT MOST 1048576: true; the input reads as it did. -/
def fnExactHighAtUptoRow : OpenClaim := { program := "ytmhiohijpnmcpaa", sum := "575b19ae68f1b4fba3f62f08d1853b951e891f0111b22a90f138621d4fd645ed", func := "loop.example/g00831/laws.FnExactHighAt", spec := "fnExactHighAt", apart := false, narrowed := true }
def FnExactHighAtUptoSaid : Prop := fnExactHighAtUptoRow.holds Try.pinned (OpenSpec.upto fnExactHighAtSpec)

/-- 'laws.FnExactInBand', WHERE WHAT IT READS IS OF BULK AT MOST 1048576: true; the input reads as it did. -/
def fnExactInBandUptoRow : OpenClaim := { program := "ytmhiohijpnmcpaa", sum := "575b19ae68f1b4fba3f62f08d1853b951e891f0111b22a90f138621d4fd645ed", func := "loop.example/g00831/laws.FnExactInBand", spec := "fnExactInBand", apart := false, narrowed := true }
def FnExactInBandUptoSaid : Prop := fnExactInBandUptoRow.holds Try.pinned (OpenSpec.upto fnExactInBandSpec)

/-- 'laws.FnExactReviseBand', WHERE WHAT IT READS IS OF BULK AT MOST 1048576: true; the input reads as it did. -/
def fnExactReviseBandUptoRow : OpenClaim := { program := "ytmhiohijpnmcpaa", sum := "575b19ae68f1b4fba3f62f08d1853b951e891f0111b22a90f138621d4fd645ed", func := "loop.example/g00831/laws.FnExactReviseBand", spec := "fnExactReviseBand", apart := false, narrowed := true }
def FnExactReviseBandUptoSaid : Prop := fnExactReviseBandUptoRow.holds Try.pinned (OpenSpec.upto fnExactReviseBandSpec)

/-- 'laws.FnExactNarrowerBand', WHERE WHAT IT READS IS OF BULK AT MOST 1048576: true; the input reads as it did. -/
def fnExactNarrowerBandUptoRow : OpenClaim := { program := "ytmhiohijpnmcpaa", sum := "575b19ae68f1b4fba3f62f08d1853b951e891f0111b22a90f138621d4fd645ed", func := "loop.example/g00831/laws.FnExactNarrowerBand", spec := "fnExactNarrowerBand", apart := false, narrowed := true }
def FnExactNarrowerBandUptoSaid : Prop := fnExactNarrowerBandUptoRow.holds Try.pinned (OpenSpec.upto fnExactNarrowerBandSpec)

/-- 'laws.FnExactHighWindows', WHERE WHAT IT READS IS OF BULK AT MOST 1048576: true; the input reads as it did. -/
def fnExactHighWindowsUptoRow : OpenClaim := { program := "ytmhiohijpnmcpaa", sum := "575b19ae68f1b4fba3f62f08d1853b951e891f0111b22a90f138621d4fd645ed", func := "loop.example/g00831/laws.FnExactHighWindows", spec := "fnExactHighWindows", unfollowed := true, recurses := true, apart := false, narrowed := true }
def FnExactHighWindowsUptoSaid : Prop := fnExactHighWindowsUptoRow.holds Try.pinned (OpenSpec.upto fnExactHighWindowsSpec)

/-- 'laws.FnExactLowWindows', WHERE WHAT IT READS IS OF BULK AT MOST 1048576: true; the input reads as it did. -/
def fnExactLowWindowsUptoRow : OpenClaim := { program := "ytmhiohijpnmcpaa", sum := "575b19ae68f1b4fba3f62f08d1853b951e891f0111b22a90f138621d4fd645ed", func := "loop.example/g00831/laws.FnExactLowWindows", spec := "fnExactLowWindows", unfollowed := true, recurses := true, apart := false, narrowed := true }
def FnExactLowWindowsUptoSaid : Prop := fnExactLowWindowsUptoRow.holds Try.pinned (OpenSpec.upto fnExactLowWindowsSpec)

/-- 'laws.FnBands', WHERE WHAT IT READS IS OF BULK AT MOST 1048576: true; the input reads as it did. -/
def fnBandsUptoRow : OpenClaim := { program := "ytmhiohijpnmcpaa", sum := "575b19ae68f1b4fba3f62f08d1853b951e891f0111b22a90f138621d4fd645ed", func := "loop.example/g00831/laws.FnBands", spec := "fnBands", apart := false, narrowed := true }
def FnBandsUptoSaid : Prop := fnBandsUptoRow.holds Try.pinned (OpenSpec.upto fnBandsSpec)

/-- 'laws.FnWet', WHERE WHAT IT READS IS OF BULK AT MOST 1048576: true; the input reads as it did. -/
def fnWetUptoRow : OpenClaim := { program := "ytmhiohijpnmcpaa", sum := "575b19ae68f1b4fba3f62f08d1853b951e891f0111b22a90f138621d4fd645ed", func := "loop.example/g00831/laws.FnWet", spec := "fnWet", unfollowed := true, recurses := true, apart := false, narrowed := true }
def FnWetUptoSaid : Prop := fnWetUptoRow.holds Try.pinned (OpenSpec.upto fnWetSpec)

end Rows
end Go.Proofs.Ytmhiohijpnmcpaa
