/-
  No cell of these rows narrows 'for every input' (looked for: loops, veiled, ifaces, maps, wideKeys, modest, calm, conditions, laid).
  DERIVED. THE GIVEN ROWS OF THIS SEAT. 10 by the template 'for every input the law returns true; each argument reads behind the call as it read before'; 0 by the template 'total and deterministic' (their statements: YtfcdnaaecfhddaaTotals.lean).
  GIVEN WITH THE SEED: the statements are not yours to turn. If you find one false, say at which input.
  Laid BY PROGRAM, IN A SANDBOX (cutbox-rows.mjs): the forced cells as the released guide's own fill.sh prints them over the translation 508e0fba74df999c… (all of the seat's roots in one cut). By AI agents, Wed Nov 11 2026. No macro, syntax, notation, axiom, sorry.
-/
import Derived.Test.YtfcdnaaecfhddaaChecked
import GoSem.Claim
import GoSem.ClaimJoined
import GoSem.ClaimMapViews
import Derived.JoinedTies
import Derived.KernelRfl
namespace Go.Proofs.Ytfcdnaaecfhddaa
/- THE CELL 'sum', in the pinned program and in every row, IS THE sha256 OF THE DUMP (.gsa) THAT YtfcdnaaecfhddaaProg.lean LOADS. Nothing in Lean hashes anything: it is a label: what it is worth is what the hold of that sum in a sandbox is worth. -/
noncomputable def Try.pinned : Pinned := { name := "ytfcdnaaecfhddaa", sum := "508e0fba74df999c071c64310118204cf237c9ea717900c74a356fde8d542034", checked := Try.checked }
namespace Rows
def none {H : Type} : Left H := { results := [], args := [] }

/-- 'laws.FnExactWindowsOk': WHATEVER THE INPUT: true; the input reads as it did. -/
def fnExactWindowsOkSpec : ChangeSpec := { name := "fnExactWindowsOk", fn := fun _ => fun
  | [d] => { results := [.lit (.bool true)], args := [d] }
  | _ => none }
def fnExactWindowsOkRow : OpenClaim := { program := "ytfcdnaaecfhddaa", sum := "508e0fba74df999c071c64310118204cf237c9ea717900c74a356fde8d542034", func := "loop.example/g00831/laws.FnExactWindowsOk", spec := "fnExactWindowsOk", apart := false }
def FnExactWindowsOkSaid : Prop := fnExactWindowsOkRow.holds Try.pinned (OpenSpec.ofChange fnExactWindowsOkSpec)

/-- ITS FALSE NEIGHBOUR: 'it returns false'. Refute it at one input. -/
def fnExactWindowsOkWrong : ChangeSpec := { name := "fnExactWindowsOk", fn := fun _ => fun
  | [d] => { results := [.lit (.bool false)], args := [d] }
  | _ => none }
def FnExactWindowsOkWrongFalsely : Prop := fnExactWindowsOkRow.holds Try.pinned (OpenSpec.ofChange fnExactWindowsOkWrong)

/-- 'laws.FnExactHasMinute': WHATEVER THE INPUT: true; the input reads as it did. -/
def fnExactHasMinuteSpec : ChangeSpec := { name := "fnExactHasMinute", fn := fun _ => fun
  | [d1, d2] => { results := [.lit (.bool true)], args := [d1, d2] }
  | _ => none }
def fnExactHasMinuteRow : OpenClaim := { program := "ytfcdnaaecfhddaa", sum := "508e0fba74df999c071c64310118204cf237c9ea717900c74a356fde8d542034", func := "loop.example/g00831/laws.FnExactHasMinute", spec := "fnExactHasMinute", apart := false }
def FnExactHasMinuteSaid : Prop := fnExactHasMinuteRow.holds Try.pinned (OpenSpec.ofChange fnExactHasMinuteSpec)

/-- ITS FALSE NEIGHBOUR: 'it returns false'. Refute it at one input. -/
def fnExactHasMinuteWrong : ChangeSpec := { name := "fnExactHasMinute", fn := fun _ => fun
  | [d1, d2] => { results := [.lit (.bool false)], args := [d1, d2] }
  | _ => none }
def FnExactHasMinuteWrongFalsely : Prop := fnExactHasMinuteRow.holds Try.pinned (OpenSpec.ofChange fnExactHasMinuteWrong)

/-- 'laws.FnExactCountMinutes': WHATEVER THE INPUT: true; the input reads as it did. -/
def fnExactCountMinutesSpec : ChangeSpec := { name := "fnExactCountMinutes", fn := fun _ => fun
  | [d] => { results := [.lit (.bool true)], args := [d] }
  | _ => none }
def fnExactCountMinutesRow : OpenClaim := { program := "ytfcdnaaecfhddaa", sum := "508e0fba74df999c071c64310118204cf237c9ea717900c74a356fde8d542034", func := "loop.example/g00831/laws.FnExactCountMinutes", spec := "fnExactCountMinutes", apart := false }
def FnExactCountMinutesSaid : Prop := fnExactCountMinutesRow.holds Try.pinned (OpenSpec.ofChange fnExactCountMinutesSpec)

/-- ITS FALSE NEIGHBOUR: 'it returns false'. Refute it at one input. -/
def fnExactCountMinutesWrong : ChangeSpec := { name := "fnExactCountMinutes", fn := fun _ => fun
  | [d] => { results := [.lit (.bool false)], args := [d] }
  | _ => none }
def FnExactCountMinutesWrongFalsely : Prop := fnExactCountMinutesRow.holds Try.pinned (OpenSpec.ofChange fnExactCountMinutesWrong)

/-- 'laws.FnExactNextMinute': WHATEVER THE INPUT: true; the input reads as it did. -/
def fnExactNextMinuteSpec : ChangeSpec := { name := "fnExactNextMinute", fn := fun _ => fun
  | [d1, d2] => { results := [.lit (.bool true)], args := [d1, d2] }
  | _ => none }
def fnExactNextMinuteRow : OpenClaim := { program := "ytfcdnaaecfhddaa", sum := "508e0fba74df999c071c64310118204cf237c9ea717900c74a356fde8d542034", func := "loop.example/g00831/laws.FnExactNextMinute", spec := "fnExactNextMinute", apart := false }
def FnExactNextMinuteSaid : Prop := fnExactNextMinuteRow.holds Try.pinned (OpenSpec.ofChange fnExactNextMinuteSpec)

/-- ITS FALSE NEIGHBOUR: 'it returns false'. Refute it at one input. -/
def fnExactNextMinuteWrong : ChangeSpec := { name := "fnExactNextMinute", fn := fun _ => fun
  | [d1, d2] => { results := [.lit (.bool false)], args := [d1, d2] }
  | _ => none }
def FnExactNextMinuteWrongFalsely : Prop := fnExactNextMinuteRow.holds Try.pinned (OpenSpec.ofChange fnExactNextMinuteWrong)

/-- 'laws.FnExactShrinkWindows': WHATEVER THE INPUT: true; the input reads as it did. -/
def fnExactShrinkWindowsSpec : ChangeSpec := { name := "fnExactShrinkWindows", fn := fun _ => fun
  | [d1, d2] => { results := [.lit (.bool true)], args := [d1, d2] }
  | _ => none }
def fnExactShrinkWindowsRow : OpenClaim := { program := "ytfcdnaaecfhddaa", sum := "508e0fba74df999c071c64310118204cf237c9ea717900c74a356fde8d542034", func := "loop.example/g00831/laws.FnExactShrinkWindows", spec := "fnExactShrinkWindows", apart := false }
def FnExactShrinkWindowsSaid : Prop := fnExactShrinkWindowsRow.holds Try.pinned (OpenSpec.ofChange fnExactShrinkWindowsSpec)

/-- ITS FALSE NEIGHBOUR: 'it returns false'. Refute it at one input. -/
def fnExactShrinkWindowsWrong : ChangeSpec := { name := "fnExactShrinkWindows", fn := fun _ => fun
  | [d1, d2] => { results := [.lit (.bool false)], args := [d1, d2] }
  | _ => none }
def FnExactShrinkWindowsWrongFalsely : Prop := fnExactShrinkWindowsRow.holds Try.pinned (OpenSpec.ofChange fnExactShrinkWindowsWrong)

/-- 'laws.FnExactOtherWindows': WHATEVER THE INPUT: true; the input reads as it did. -/
def fnExactOtherWindowsSpec : ChangeSpec := { name := "fnExactOtherWindows", fn := fun _ => fun
  | [d] => { results := [.lit (.bool true)], args := [d] }
  | _ => none }
def fnExactOtherWindowsRow : OpenClaim := { program := "ytfcdnaaecfhddaa", sum := "508e0fba74df999c071c64310118204cf237c9ea717900c74a356fde8d542034", func := "loop.example/g00831/laws.FnExactOtherWindows", spec := "fnExactOtherWindows", apart := false }
def FnExactOtherWindowsSaid : Prop := fnExactOtherWindowsRow.holds Try.pinned (OpenSpec.ofChange fnExactOtherWindowsSpec)

/-- ITS FALSE NEIGHBOUR: 'it returns false'. Refute it at one input. -/
def fnExactOtherWindowsWrong : ChangeSpec := { name := "fnExactOtherWindows", fn := fun _ => fun
  | [d] => { results := [.lit (.bool false)], args := [d] }
  | _ => none }
def FnExactOtherWindowsWrongFalsely : Prop := fnExactOtherWindowsRow.holds Try.pinned (OpenSpec.ofChange fnExactOtherWindowsWrong)

/-- 'laws.FnExactCommonWindows': WHATEVER THE INPUT: true; the input reads as it did. -/
def fnExactCommonWindowsSpec : ChangeSpec := { name := "fnExactCommonWindows", fn := fun _ => fun
  | [d1, d2] => { results := [.lit (.bool true)], args := [d1, d2] }
  | _ => none }
def fnExactCommonWindowsRow : OpenClaim := { program := "ytfcdnaaecfhddaa", sum := "508e0fba74df999c071c64310118204cf237c9ea717900c74a356fde8d542034", func := "loop.example/g00831/laws.FnExactCommonWindows", spec := "fnExactCommonWindows", apart := false }
def FnExactCommonWindowsSaid : Prop := fnExactCommonWindowsRow.holds Try.pinned (OpenSpec.ofChange fnExactCommonWindowsSpec)

/-- ITS FALSE NEIGHBOUR: 'it returns false'. Refute it at one input. -/
def fnExactCommonWindowsWrong : ChangeSpec := { name := "fnExactCommonWindows", fn := fun _ => fun
  | [d1, d2] => { results := [.lit (.bool false)], args := [d1, d2] }
  | _ => none }
def FnExactCommonWindowsWrongFalsely : Prop := fnExactCommonWindowsRow.holds Try.pinned (OpenSpec.ofChange fnExactCommonWindowsWrong)

/-- 'laws.FnExactGatherWindows': WHATEVER THE INPUT: true; the input reads as it did. -/
def fnExactGatherWindowsSpec : ChangeSpec := { name := "fnExactGatherWindows", fn := fun _ => fun
  | [d] => { results := [.lit (.bool true)], args := [d] }
  | _ => none }
def fnExactGatherWindowsRow : OpenClaim := { program := "ytfcdnaaecfhddaa", sum := "508e0fba74df999c071c64310118204cf237c9ea717900c74a356fde8d542034", func := "loop.example/g00831/laws.FnExactGatherWindows", spec := "fnExactGatherWindows", unfollowed := true, recurses := true, apart := false }
def FnExactGatherWindowsSaid : Prop := fnExactGatherWindowsRow.holds Try.pinned (OpenSpec.ofChange fnExactGatherWindowsSpec)

/-- ITS FALSE NEIGHBOUR: 'it returns false'. Refute it at one input. -/
def fnExactGatherWindowsWrong : ChangeSpec := { name := "fnExactGatherWindows", fn := fun _ => fun
  | [d] => { results := [.lit (.bool false)], args := [d] }
  | _ => none }
def FnExactGatherWindowsWrongFalsely : Prop := fnExactGatherWindowsRow.holds Try.pinned (OpenSpec.ofChange fnExactGatherWindowsWrong)

/-- 'laws.FnShrunk': WHATEVER THE INPUT: true; the input reads as it did. -/
def fnShrunkSpec : ChangeSpec := { name := "fnShrunk", fn := fun _ => fun
  | [d] => { results := [.lit (.bool true)], args := [d] }
  | _ => none }
def fnShrunkRow : OpenClaim := { program := "ytfcdnaaecfhddaa", sum := "508e0fba74df999c071c64310118204cf237c9ea717900c74a356fde8d542034", func := "loop.example/g00831/laws.FnShrunk", spec := "fnShrunk", apart := false }
def FnShrunkSaid : Prop := fnShrunkRow.holds Try.pinned (OpenSpec.ofChange fnShrunkSpec)

/-- ITS FALSE NEIGHBOUR: 'it returns false'. Refute it at one input. -/
def fnShrunkWrong : ChangeSpec := { name := "fnShrunk", fn := fun _ => fun
  | [d] => { results := [.lit (.bool false)], args := [d] }
  | _ => none }
def FnShrunkWrongFalsely : Prop := fnShrunkRow.holds Try.pinned (OpenSpec.ofChange fnShrunkWrong)

/-- 'laws.FnGathered': WHATEVER THE INPUT: true; the input reads as it did. -/
def fnGatheredSpec : ChangeSpec := { name := "fnGathered", fn := fun _ => fun
  | [d] => { results := [.lit (.bool true)], args := [d] }
  | _ => none }
def fnGatheredRow : OpenClaim := { program := "ytfcdnaaecfhddaa", sum := "508e0fba74df999c071c64310118204cf237c9ea717900c74a356fde8d542034", func := "loop.example/g00831/laws.FnGathered", spec := "fnGathered", unfollowed := true, recurses := true, apart := false }
def FnGatheredSaid : Prop := fnGatheredRow.holds Try.pinned (OpenSpec.ofChange fnGatheredSpec)

/-- ITS FALSE NEIGHBOUR: 'it returns false'. Refute it at one input. -/
def fnGatheredWrong : ChangeSpec := { name := "fnGathered", fn := fun _ => fun
  | [d] => { results := [.lit (.bool false)], args := [d] }
  | _ => none }
def FnGatheredWrongFalsely : Prop := fnGatheredRow.holds Try.pinned (OpenSpec.ofChange fnGatheredWrong)

/- THE SECOND FORM. 'bulk': how many values and letters a reading holds, each counted each time it is reached (what is shared counts as often as it is met; a slice's spare places count too). A statement '..UptoSaid' is the law's where the arguments, and the package variables that the reading takes, are together of bulk at most 1048576: NARROWER than '..Said'. Prove '..Said' where nothing that the law and all that it calls make is longer than what came in: it says more and counts as full. Else prove '..UptoSaid'. A law counts once. -/
mutual
def uptoBulk {H : Type} : DataW H → Nat
  | .lit (.string bytes) => bytes.length + 1
  | .lit _ => 1
  | .nil => 1
  | .ptr d => uptoBulk d + 1
  | .slice elems spare => uptoBulkAll elems + uptoBulkAll spare + 1
  | .agg parts => uptoBulkAll parts + 1
  | .iface _ d => uptoBulk d + 1
  | .map entries => uptoBulkEntries entries + 1
  | .held _ => 1
def uptoBulkAll {H : Type} : List (DataW H) → Nat
  | [] => 0
  | d :: r => uptoBulk d + uptoBulkAll r
def uptoBulkEntries {H : Type} : List (Lit × DataW H) → Nat
  | [] => 0
  | x :: r => uptoBulkEntry x + uptoBulkEntries r
def uptoBulkEntry {H : Type} : Lit × DataW H → Nat
  | (.string bytes, d) => bytes.length + uptoBulk d + 1
  | (_, d) => uptoBulk d + 1
 end
def uptoSmall : (H : Type) → List (DataW H) → Bool := fun _ ds => decide (uptoBulkAll ds ≤ 1048576)
def OpenSpec.upto (s : _root_.Go.ChangeSpec) : _root_.Go.OpenSpec := { _root_.Go.OpenSpec.ofChange s with cond := some uptoSmall }

/-- 'laws.FnExactWindowsOk', WHERE WHAT IT READS IS OF BULK AT MOST 1048576: true; the input reads as it did. -/
def fnExactWindowsOkUptoRow : OpenClaim := { program := "ytfcdnaaecfhddaa", sum := "508e0fba74df999c071c64310118204cf237c9ea717900c74a356fde8d542034", func := "loop.example/g00831/laws.FnExactWindowsOk", spec := "fnExactWindowsOk", apart := false, narrowed := true }
def FnExactWindowsOkUptoSaid : Prop := fnExactWindowsOkUptoRow.holds Try.pinned (OpenSpec.upto fnExactWindowsOkSpec)

/-- 'laws.FnExactHasMinute', WHERE WHAT IT READS IS OF BULK AT MOST 1048576: true; the input reads as it did. -/
def fnExactHasMinuteUptoRow : OpenClaim := { program := "ytfcdnaaecfhddaa", sum := "508e0fba74df999c071c64310118204cf237c9ea717900c74a356fde8d542034", func := "loop.example/g00831/laws.FnExactHasMinute", spec := "fnExactHasMinute", apart := false, narrowed := true }
def FnExactHasMinuteUptoSaid : Prop := fnExactHasMinuteUptoRow.holds Try.pinned (OpenSpec.upto fnExactHasMinuteSpec)

/-- 'laws.FnExactCountMinutes', WHERE WHAT IT READS IS OF BULK AT MOST 1048576: true; the input reads as it did. -/
def fnExactCountMinutesUptoRow : OpenClaim := { program := "ytfcdnaaecfhddaa", sum := "508e0fba74df999c071c64310118204cf237c9ea717900c74a356fde8d542034", func := "loop.example/g00831/laws.FnExactCountMinutes", spec := "fnExactCountMinutes", apart := false, narrowed := true }
def FnExactCountMinutesUptoSaid : Prop := fnExactCountMinutesUptoRow.holds Try.pinned (OpenSpec.upto fnExactCountMinutesSpec)

/-- 'laws.FnExactNextMinute', WHERE WHAT IT READS IS OF BULK AT MOST 1048576: true; the input reads as it did. -/
def fnExactNextMinuteUptoRow : OpenClaim := { program := "ytfcdnaaecfhddaa", sum := "508e0fba74df999c071c64310118204cf237c9ea717900c74a356fde8d542034", func := "loop.example/g00831/laws.FnExactNextMinute", spec := "fnExactNextMinute", apart := false, narrowed := true }
def FnExactNextMinuteUptoSaid : Prop := fnExactNextMinuteUptoRow.holds Try.pinned (OpenSpec.upto fnExactNextMinuteSpec)

/-- 'laws.FnExactShrinkWindows', WHERE WHAT IT READS IS OF BULK AT MOST 1048576: true; the input reads as it did. -/
def fnExactShrinkWindowsUptoRow : OpenClaim := { program := "ytfcdnaaecfhddaa", sum := "508e0fba74df999c071c64310118204cf237c9ea717900c74a356fde8d542034", func := "loop.example/g00831/laws.FnExactShrinkWindows", spec := "fnExactShrinkWindows", apart := false, narrowed := true }
def FnExactShrinkWindowsUptoSaid : Prop := fnExactShrinkWindowsUptoRow.holds Try.pinned (OpenSpec.upto fnExactShrinkWindowsSpec)

/-- 'laws.FnExactOtherWindows', WHERE WHAT IT READS IS OF BULK AT MOST 1048576: true; the input reads as it did. -/
def fnExactOtherWindowsUptoRow : OpenClaim := { program := "ytfcdnaaecfhddaa", sum := "508e0fba74df999c071c64310118204cf237c9ea717900c74a356fde8d542034", func := "loop.example/g00831/laws.FnExactOtherWindows", spec := "fnExactOtherWindows", apart := false, narrowed := true }
def FnExactOtherWindowsUptoSaid : Prop := fnExactOtherWindowsUptoRow.holds Try.pinned (OpenSpec.upto fnExactOtherWindowsSpec)

/-- 'laws.FnExactCommonWindows', WHERE WHAT IT READS IS OF BULK AT MOST 1048576: true; the input reads as it did. -/
def fnExactCommonWindowsUptoRow : OpenClaim := { program := "ytfcdnaaecfhddaa", sum := "508e0fba74df999c071c64310118204cf237c9ea717900c74a356fde8d542034", func := "loop.example/g00831/laws.FnExactCommonWindows", spec := "fnExactCommonWindows", apart := false, narrowed := true }
def FnExactCommonWindowsUptoSaid : Prop := fnExactCommonWindowsUptoRow.holds Try.pinned (OpenSpec.upto fnExactCommonWindowsSpec)

/-- 'laws.FnExactGatherWindows', WHERE WHAT IT READS IS OF BULK AT MOST 1048576: true; the input reads as it did. -/
def fnExactGatherWindowsUptoRow : OpenClaim := { program := "ytfcdnaaecfhddaa", sum := "508e0fba74df999c071c64310118204cf237c9ea717900c74a356fde8d542034", func := "loop.example/g00831/laws.FnExactGatherWindows", spec := "fnExactGatherWindows", unfollowed := true, recurses := true, apart := false, narrowed := true }
def FnExactGatherWindowsUptoSaid : Prop := fnExactGatherWindowsUptoRow.holds Try.pinned (OpenSpec.upto fnExactGatherWindowsSpec)

/-- 'laws.FnShrunk', WHERE WHAT IT READS IS OF BULK AT MOST 1048576: true; the input reads as it did. -/
def fnShrunkUptoRow : OpenClaim := { program := "ytfcdnaaecfhddaa", sum := "508e0fba74df999c071c64310118204cf237c9ea717900c74a356fde8d542034", func := "loop.example/g00831/laws.FnShrunk", spec := "fnShrunk", apart := false, narrowed := true }
def FnShrunkUptoSaid : Prop := fnShrunkUptoRow.holds Try.pinned (OpenSpec.upto fnShrunkSpec)

/-- 'laws.FnGathered', WHERE WHAT IT READS IS OF BULK AT MOST 1048576: true; the input reads as it did. -/
def fnGatheredUptoRow : OpenClaim := { program := "ytfcdnaaecfhddaa", sum := "508e0fba74df999c071c64310118204cf237c9ea717900c74a356fde8d542034", func := "loop.example/g00831/laws.FnGathered", spec := "fnGathered", unfollowed := true, recurses := true, apart := false, narrowed := true }
def FnGatheredUptoSaid : Prop := fnGatheredUptoRow.holds Try.pinned (OpenSpec.upto fnGatheredSpec)

end Rows
end Go.Proofs.Ytfcdnaaecfhddaa
