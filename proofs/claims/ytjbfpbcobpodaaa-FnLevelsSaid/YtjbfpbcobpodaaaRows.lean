/-
  No cell of these rows narrows 'for every input' (looked for: loops, veiled, ifaces, maps, wideKeys, modest, calm, conditions, laid).
  DERIVED. THE GIVEN ROWS OF THIS SEAT. 11 by the template 'for every input the law returns true; each argument reads behind the call as it read before'; 0 by the template 'total and deterministic' (their statements: YtjbfpbcobpodaaaTotals.lean).
  GIVEN WITH THE SEED: the statements are not yours to turn. If you find one false, say at which input.
  Laid BY PROGRAM, IN A SANDBOX (cutbox-rows.mjs): the forced cells as the released guide's own fill.sh prints them over the translation 22b3ab460bab4a89… (all of the seat's roots in one cut). By AI agents, Wed Nov 11 2026. No macro, syntax, notation, axiom, sorry.
-/
import Derived.Test.YtjbfpbcobpodaaaChecked
import GoSem.Claim
import GoSem.ClaimJoined
import GoSem.ClaimMapViews
import Derived.JoinedTies
import Derived.KernelRfl
namespace Go.Proofs.Ytjbfpbcobpodaaa
/- THE CELL 'sum', in the pinned program and in every row, IS THE sha256 OF THE DUMP (.gsa) THAT YtjbfpbcobpodaaaProg.lean LOADS. Nothing in Lean hashes anything: it is a label: what it is worth is what the hold of that sum in a sandbox is worth. -/
noncomputable def Try.pinned : Pinned := { name := "ytjbfpbcobpodaaa", sum := "22b3ab460bab4a892f8b18516370bbdd49f308d6bcbbbf10bb03fb564e422089", checked := Try.checked }
namespace Rows
def none {H : Type} : Left H := { results := [], args := [] }

/-- 'laws.FnExactPartOk': WHATEVER THE INPUT: true; the input reads as it did. -/
def fnExactPartOkSpec : ChangeSpec := { name := "fnExactPartOk", fn := fun _ => fun
  | [d] => { results := [.lit (.bool true)], args := [d] }
  | _ => none }
def fnExactPartOkRow : OpenClaim := { program := "ytjbfpbcobpodaaa", sum := "22b3ab460bab4a892f8b18516370bbdd49f308d6bcbbbf10bb03fb564e422089", func := "loop.example/g00831/laws.FnExactPartOk", spec := "fnExactPartOk", apart := false }
def FnExactPartOkSaid : Prop := fnExactPartOkRow.holds Try.pinned (OpenSpec.ofChange fnExactPartOkSpec)

/-- ITS FALSE NEIGHBOUR: 'it returns false'. Refute it at one input. -/
def fnExactPartOkWrong : ChangeSpec := { name := "fnExactPartOk", fn := fun _ => fun
  | [d] => { results := [.lit (.bool false)], args := [d] }
  | _ => none }
def FnExactPartOkWrongFalsely : Prop := fnExactPartOkRow.holds Try.pinned (OpenSpec.ofChange fnExactPartOkWrong)

/-- 'laws.FnExactSurgeOk': WHATEVER THE INPUT: true; the input reads as it did. -/
def fnExactSurgeOkSpec : ChangeSpec := { name := "fnExactSurgeOk", fn := fun _ => fun
  | [d] => { results := [.lit (.bool true)], args := [d] }
  | _ => none }
def fnExactSurgeOkRow : OpenClaim := { program := "ytjbfpbcobpodaaa", sum := "22b3ab460bab4a892f8b18516370bbdd49f308d6bcbbbf10bb03fb564e422089", func := "loop.example/g00831/laws.FnExactSurgeOk", spec := "fnExactSurgeOk", apart := false }
def FnExactSurgeOkSaid : Prop := fnExactSurgeOkRow.holds Try.pinned (OpenSpec.ofChange fnExactSurgeOkSpec)

/-- ITS FALSE NEIGHBOUR: 'it returns false'. Refute it at one input. -/
def fnExactSurgeOkWrong : ChangeSpec := { name := "fnExactSurgeOk", fn := fun _ => fun
  | [d] => { results := [.lit (.bool false)], args := [d] }
  | _ => none }
def FnExactSurgeOkWrongFalsely : Prop := fnExactSurgeOkRow.holds Try.pinned (OpenSpec.ofChange fnExactSurgeOkWrong)

/-- 'laws.FnExactWave': WHATEVER THE INPUT: true; the input reads as it did. -/
def fnExactWaveSpec : ChangeSpec := { name := "fnExactWave", fn := fun _ => fun
  | [d1, d2] => { results := [.lit (.bool true)], args := [d1, d2] }
  | _ => none }
def fnExactWaveRow : OpenClaim := { program := "ytjbfpbcobpodaaa", sum := "22b3ab460bab4a892f8b18516370bbdd49f308d6bcbbbf10bb03fb564e422089", func := "loop.example/g00831/laws.FnExactWave", spec := "fnExactWave", apart := false }
def FnExactWaveSaid : Prop := fnExactWaveRow.holds Try.pinned (OpenSpec.ofChange fnExactWaveSpec)

/-- ITS FALSE NEIGHBOUR: 'it returns false'. Refute it at one input. -/
def fnExactWaveWrong : ChangeSpec := { name := "fnExactWave", fn := fun _ => fun
  | [d1, d2] => { results := [.lit (.bool false)], args := [d1, d2] }
  | _ => none }
def FnExactWaveWrongFalsely : Prop := fnExactWaveRow.holds Try.pinned (OpenSpec.ofChange fnExactWaveWrong)

/-- 'laws.FnWaves': WHATEVER THE INPUT: true; the input reads as it did. -/
def fnWavesSpec : ChangeSpec := { name := "fnWaves", fn := fun _ => fun
  | [d] => { results := [.lit (.bool true)], args := [d] }
  | _ => none }
def fnWavesRow : OpenClaim := { program := "ytjbfpbcobpodaaa", sum := "22b3ab460bab4a892f8b18516370bbdd49f308d6bcbbbf10bb03fb564e422089", func := "loop.example/g00831/laws.FnWaves", spec := "fnWaves", apart := false }
def FnWavesSaid : Prop := fnWavesRow.holds Try.pinned (OpenSpec.ofChange fnWavesSpec)

/-- ITS FALSE NEIGHBOUR: 'it returns false'. Refute it at one input. -/
def fnWavesWrong : ChangeSpec := { name := "fnWaves", fn := fun _ => fun
  | [d] => { results := [.lit (.bool false)], args := [d] }
  | _ => none }
def FnWavesWrongFalsely : Prop := fnWavesRow.holds Try.pinned (OpenSpec.ofChange fnWavesWrong)

/-- 'laws.FnExactTideOk': WHATEVER THE INPUT: true; the input reads as it did. -/
def fnExactTideOkSpec : ChangeSpec := { name := "fnExactTideOk", fn := fun _ => fun
  | [d] => { results := [.lit (.bool true)], args := [d] }
  | _ => none }
def fnExactTideOkRow : OpenClaim := { program := "ytjbfpbcobpodaaa", sum := "22b3ab460bab4a892f8b18516370bbdd49f308d6bcbbbf10bb03fb564e422089", func := "loop.example/g00831/laws.FnExactTideOk", spec := "fnExactTideOk", apart := false }
def FnExactTideOkSaid : Prop := fnExactTideOkRow.holds Try.pinned (OpenSpec.ofChange fnExactTideOkSpec)

/-- ITS FALSE NEIGHBOUR: 'it returns false'. Refute it at one input. -/
def fnExactTideOkWrong : ChangeSpec := { name := "fnExactTideOk", fn := fun _ => fun
  | [d] => { results := [.lit (.bool false)], args := [d] }
  | _ => none }
def FnExactTideOkWrongFalsely : Prop := fnExactTideOkRow.holds Try.pinned (OpenSpec.ofChange fnExactTideOkWrong)

/-- 'laws.FnExactSameTides': WHATEVER THE INPUT: true; the input reads as it did. -/
def fnExactSameTidesSpec : ChangeSpec := { name := "fnExactSameTides", fn := fun _ => fun
  | [d1, d2] => { results := [.lit (.bool true)], args := [d1, d2] }
  | _ => none }
def fnExactSameTidesRow : OpenClaim := { program := "ytjbfpbcobpodaaa", sum := "22b3ab460bab4a892f8b18516370bbdd49f308d6bcbbbf10bb03fb564e422089", func := "loop.example/g00831/laws.FnExactSameTides", spec := "fnExactSameTides", apart := false }
def FnExactSameTidesSaid : Prop := fnExactSameTidesRow.holds Try.pinned (OpenSpec.ofChange fnExactSameTidesSpec)

/-- ITS FALSE NEIGHBOUR: 'it returns false'. Refute it at one input. -/
def fnExactSameTidesWrong : ChangeSpec := { name := "fnExactSameTides", fn := fun _ => fun
  | [d1, d2] => { results := [.lit (.bool false)], args := [d1, d2] }
  | _ => none }
def FnExactSameTidesWrongFalsely : Prop := fnExactSameTidesRow.holds Try.pinned (OpenSpec.ofChange fnExactSameTidesWrong)

/-- 'laws.FnExactAmplitudeOf': WHATEVER THE INPUT: true; the input reads as it did. -/
def fnExactAmplitudeOfSpec : ChangeSpec := { name := "fnExactAmplitudeOf", fn := fun _ => fun
  | [d] => { results := [.lit (.bool true)], args := [d] }
  | _ => none }
def fnExactAmplitudeOfRow : OpenClaim := { program := "ytjbfpbcobpodaaa", sum := "22b3ab460bab4a892f8b18516370bbdd49f308d6bcbbbf10bb03fb564e422089", func := "loop.example/g00831/laws.FnExactAmplitudeOf", spec := "fnExactAmplitudeOf", apart := false }
def FnExactAmplitudeOfSaid : Prop := fnExactAmplitudeOfRow.holds Try.pinned (OpenSpec.ofChange fnExactAmplitudeOfSpec)

/-- ITS FALSE NEIGHBOUR: 'it returns false'. Refute it at one input. -/
def fnExactAmplitudeOfWrong : ChangeSpec := { name := "fnExactAmplitudeOf", fn := fun _ => fun
  | [d] => { results := [.lit (.bool false)], args := [d] }
  | _ => none }
def FnExactAmplitudeOfWrongFalsely : Prop := fnExactAmplitudeOfRow.holds Try.pinned (OpenSpec.ofChange fnExactAmplitudeOfWrong)

/-- 'laws.FnExactLevelAt': WHATEVER THE INPUT: true; the input reads as it did. -/
def fnExactLevelAtSpec : ChangeSpec := { name := "fnExactLevelAt", fn := fun _ => fun
  | [d1, d2] => { results := [.lit (.bool true)], args := [d1, d2] }
  | _ => none }
def fnExactLevelAtRow : OpenClaim := { program := "ytjbfpbcobpodaaa", sum := "22b3ab460bab4a892f8b18516370bbdd49f308d6bcbbbf10bb03fb564e422089", func := "loop.example/g00831/laws.FnExactLevelAt", spec := "fnExactLevelAt", apart := false }
def FnExactLevelAtSaid : Prop := fnExactLevelAtRow.holds Try.pinned (OpenSpec.ofChange fnExactLevelAtSpec)

/-- ITS FALSE NEIGHBOUR: 'it returns false'. Refute it at one input. -/
def fnExactLevelAtWrong : ChangeSpec := { name := "fnExactLevelAt", fn := fun _ => fun
  | [d1, d2] => { results := [.lit (.bool false)], args := [d1, d2] }
  | _ => none }
def FnExactLevelAtWrongFalsely : Prop := fnExactLevelAtRow.holds Try.pinned (OpenSpec.ofChange fnExactLevelAtWrong)

/-- 'laws.FnExactHighestLevel': WHATEVER THE INPUT: true; the input reads as it did. -/
def fnExactHighestLevelSpec : ChangeSpec := { name := "fnExactHighestLevel", fn := fun _ => fun
  | [d1, d2, d3] => { results := [.lit (.bool true)], args := [d1, d2, d3] }
  | _ => none }
def fnExactHighestLevelRow : OpenClaim := { program := "ytjbfpbcobpodaaa", sum := "22b3ab460bab4a892f8b18516370bbdd49f308d6bcbbbf10bb03fb564e422089", func := "loop.example/g00831/laws.FnExactHighestLevel", spec := "fnExactHighestLevel", unfollowed := true, recurses := true, apart := false }
def FnExactHighestLevelSaid : Prop := fnExactHighestLevelRow.holds Try.pinned (OpenSpec.ofChange fnExactHighestLevelSpec)

/-- ITS FALSE NEIGHBOUR: 'it returns false'. Refute it at one input. -/
def fnExactHighestLevelWrong : ChangeSpec := { name := "fnExactHighestLevel", fn := fun _ => fun
  | [d1, d2, d3] => { results := [.lit (.bool false)], args := [d1, d2, d3] }
  | _ => none }
def FnExactHighestLevelWrongFalsely : Prop := fnExactHighestLevelRow.holds Try.pinned (OpenSpec.ofChange fnExactHighestLevelWrong)

/-- 'laws.FnExactLowestLevel': WHATEVER THE INPUT: true; the input reads as it did. -/
def fnExactLowestLevelSpec : ChangeSpec := { name := "fnExactLowestLevel", fn := fun _ => fun
  | [d1, d2, d3] => { results := [.lit (.bool true)], args := [d1, d2, d3] }
  | _ => none }
def fnExactLowestLevelRow : OpenClaim := { program := "ytjbfpbcobpodaaa", sum := "22b3ab460bab4a892f8b18516370bbdd49f308d6bcbbbf10bb03fb564e422089", func := "loop.example/g00831/laws.FnExactLowestLevel", spec := "fnExactLowestLevel", unfollowed := true, recurses := true, apart := false }
def FnExactLowestLevelSaid : Prop := fnExactLowestLevelRow.holds Try.pinned (OpenSpec.ofChange fnExactLowestLevelSpec)

/-- ITS FALSE NEIGHBOUR: 'it returns false'. Refute it at one input. -/
def fnExactLowestLevelWrong : ChangeSpec := { name := "fnExactLowestLevel", fn := fun _ => fun
  | [d1, d2, d3] => { results := [.lit (.bool false)], args := [d1, d2, d3] }
  | _ => none }
def FnExactLowestLevelWrongFalsely : Prop := fnExactLowestLevelRow.holds Try.pinned (OpenSpec.ofChange fnExactLowestLevelWrong)

/-- 'laws.FnLevels': WHATEVER THE INPUT: true; the input reads as it did. -/
def fnLevelsSpec : ChangeSpec := { name := "fnLevels", fn := fun _ => fun
  | [d] => { results := [.lit (.bool true)], args := [d] }
  | _ => none }
def fnLevelsRow : OpenClaim := { program := "ytjbfpbcobpodaaa", sum := "22b3ab460bab4a892f8b18516370bbdd49f308d6bcbbbf10bb03fb564e422089", func := "loop.example/g00831/laws.FnLevels", spec := "fnLevels", unfollowed := true, recurses := true, apart := false }
def FnLevelsSaid : Prop := fnLevelsRow.holds Try.pinned (OpenSpec.ofChange fnLevelsSpec)

/-- ITS FALSE NEIGHBOUR: 'it returns false'. Refute it at one input. -/
def fnLevelsWrong : ChangeSpec := { name := "fnLevels", fn := fun _ => fun
  | [d] => { results := [.lit (.bool false)], args := [d] }
  | _ => none }
def FnLevelsWrongFalsely : Prop := fnLevelsRow.holds Try.pinned (OpenSpec.ofChange fnLevelsWrong)

/- THE SECOND FORM. 'bulk': how many values and letters a reading holds, each counted each time it is reached (what is shared counts as often as it is met; a slice's spare places count too). A statement '..UptoSaid' is the law's where the arguments, and the package variables that the reading takes, are together of bulk at most 1048576: NARROWER than '..Said'. Prove '..Said' where nothing that the law and all that it calls make is longer than what came in: it says more and counts as full. Else prove '..UptoSaid'. A law counts once. -/
mutual
def uptoBulk {H : Type} : DataW H → Nat
  | .lit (.string bytes) => bytes.length + 1
  | .lit _ => 1
  | .nil => 1
  | .ptr d => uptoBulk d + 1
  | .slice elems spare => uptoBulkAll elems + uptoBulkAll spare + 1
  | .agg parts => uptoBulkAll parts + 1
  | .iface _ d => uptoBulk d + 1
  | .map entries => uptoBulkEntries entries + 1
  | .held _ => 1
def uptoBulkAll {H : Type} : List (DataW H) → Nat
  | [] => 0
  | d :: r => uptoBulk d + uptoBulkAll r
def uptoBulkEntries {H : Type} : List (Lit × DataW H) → Nat
  | [] => 0
  | x :: r => uptoBulkEntry x + uptoBulkEntries r
def uptoBulkEntry {H : Type} : Lit × DataW H → Nat
  | (.string bytes, d) => bytes.length + uptoBulk d + 1
  | (_, d) => uptoBulk d + 1
 end
def uptoSmall : (H : Type) → List (DataW H) → Bool := fun _ ds => decide (uptoBulkAll ds ≤ 1048576)
def OpenSpec.upto (s : _root_.Go.ChangeSpec) : _root_.Go.OpenSpec := { _root_.Go.OpenSpec.ofChange s with cond := some uptoSmall }

/-- 'laws.FnExactPartOk', WHERE WHAT IT READS IS OF BULK AT MOST 1048576: true; the input reads as it did. -/
def fnExactPartOkUptoRow : OpenClaim := { program := "ytjbfpbcobpodaaa", sum := "22b3ab460bab4a892f8b18516370bbdd49f308d6bcbbbf10bb03fb564e422089", func := "loop.example/g00831/laws.FnExactPartOk", spec := "fnExactPartOk", apart := false, narrowed := true }
def FnExactPartOkUptoSaid : Prop := fnExactPartOkUptoRow.holds Try.pinned (OpenSpec.upto fnExactPartOkSpec)

/-- 'laws.FnExactSurgeOk', WHERE WHAT IT READS IS OF BULK AT MOST 1048576: true; the input reads as it did. -/
def fnExactSurgeOkUptoRow : OpenClaim := { program := "ytjbfpbcobpodaaa", sum := "22b3ab460bab4a892f8b18516370bbdd49f308d6bcbbbf10bb03fb564e422089", func := "loop.example/g00831/laws.FnExactSurgeOk", spec := "fnExactSurgeOk", apart := false, narrowed := true }
def FnExactSurgeOkUptoSaid : Prop := fnExactSurgeOkUptoRow.holds Try.pinned (OpenSpec.upto fnExactSurgeOkSpec)

/-- 'laws.FnExactWave', WHERE WHAT IT READS IS OF BULK AT MOST 1048576: true; the input reads as it did. -/
def fnExactWaveUptoRow : OpenClaim := { program := "ytjbfpbcobpodaaa", sum := "22b3ab460bab4a892f8b18516370bbdd49f308d6bcbbbf10bb03fb564e422089", func := "loop.example/g00831/laws.FnExactWave", spec := "fnExactWave", apart := false, narrowed := true }
def FnExactWaveUptoSaid : Prop := fnExactWaveUptoRow.holds Try.pinned (OpenSpec.upto fnExactWaveSpec)

/-- 'laws.FnWaves', WHERE WHAT IT READS IS OF BULK AT MOST 1048576: true; the input reads as it did. -/
def fnWavesUptoRow : OpenClaim := { program := "ytjbfpbcobpodaaa", sum := "22b3ab460bab4a892f8b18516370bbdd49f308d6bcbbbf10bb03fb564e422089", func := "loop.example/g00831/laws.FnWaves", spec := "fnWaves", apart := false, narrowed := true }
def FnWavesUptoSaid : Prop := fnWavesUptoRow.holds Try.pinned (OpenSpec.upto fnWavesSpec)

/-- 'laws.FnExactTideOk', WHERE WHAT IT READS IS OF BULK AT MOST 1048576: true; the input reads as it did. -/
def fnExactTideOkUptoRow : OpenClaim := { program := "ytjbfpbcobpodaaa", sum := "22b3ab460bab4a892f8b18516370bbdd49f308d6bcbbbf10bb03fb564e422089", func := "loop.example/g00831/laws.FnExactTideOk", spec := "fnExactTideOk", apart := false, narrowed := true }
def FnExactTideOkUptoSaid : Prop := fnExactTideOkUptoRow.holds Try.pinned (OpenSpec.upto fnExactTideOkSpec)

/-- 'laws.FnExactSameTides', WHERE WHAT IT READS IS OF BULK AT MOST 1048576: true; the input reads as it did. -/
def fnExactSameTidesUptoRow : OpenClaim := { program := "ytjbfpbcobpodaaa", sum := "22b3ab460bab4a892f8b18516370bbdd49f308d6bcbbbf10bb03fb564e422089", func := "loop.example/g00831/laws.FnExactSameTides", spec := "fnExactSameTides", apart := false, narrowed := true }
def FnExactSameTidesUptoSaid : Prop := fnExactSameTidesUptoRow.holds Try.pinned (OpenSpec.upto fnExactSameTidesSpec)

/-- 'laws.FnExactAmplitudeOf', WHERE WHAT IT READS IS OF BULK AT MOST 1048576: true; the input reads as it did. -/
def fnExactAmplitudeOfUptoRow : OpenClaim := { program := "ytjbfpbcobpodaaa", sum := "22b3ab460bab4a892f8b18516370bbdd49f308d6bcbbbf10bb03fb564e422089", func := "loop.example/g00831/laws.FnExactAmplitudeOf", spec := "fnExactAmplitudeOf", apart := false, narrowed := true }
def FnExactAmplitudeOfUptoSaid : Prop := fnExactAmplitudeOfUptoRow.holds Try.pinned (OpenSpec.upto fnExactAmplitudeOfSpec)

/-- 'laws.FnExactLevelAt', WHERE WHAT IT READS IS OF BULK AT MOST 1048576: true; the input reads as it did. -/
def fnExactLevelAtUptoRow : OpenClaim := { program := "ytjbfpbcobpodaaa", sum := "22b3ab460bab4a892f8b18516370bbdd49f308d6bcbbbf10bb03fb564e422089", func := "loop.example/g00831/laws.FnExactLevelAt", spec := "fnExactLevelAt", apart := false, narrowed := true }
def FnExactLevelAtUptoSaid : Prop := fnExactLevelAtUptoRow.holds Try.pinned (OpenSpec.upto fnExactLevelAtSpec)

/-- 'laws.FnExactHighestLevel', WHERE WHAT IT READS IS OF BULK AT MOST 1048576: true; the input reads as it did. -/
def fnExactHighestLevelUptoRow : OpenClaim := { program := "ytjbfpbcobpodaaa", sum := "22b3ab460bab4a892f8b18516370bbdd49f308d6bcbbbf10bb03fb564e422089", func := "loop.example/g00831/laws.FnExactHighestLevel", spec := "fnExactHighestLevel", unfollowed := true, recurses := true, apart := false, narrowed := true }
def FnExactHighestLevelUptoSaid : Prop := fnExactHighestLevelUptoRow.holds Try.pinned (OpenSpec.upto fnExactHighestLevelSpec)

/-- 'laws.FnExactLowestLevel', WHERE WHAT IT READS IS OF BULK AT MOST 1048576: true; the input reads as it did. -/
def fnExactLowestLevelUptoRow : OpenClaim := { program := "ytjbfpbcobpodaaa", sum := "22b3ab460bab4a892f8b18516370bbdd49f308d6bcbbbf10bb03fb564e422089", func := "loop.example/g00831/laws.FnExactLowestLevel", spec := "fnExactLowestLevel", unfollowed := true, recurses := true, apart := false, narrowed := true }
def FnExactLowestLevelUptoSaid : Prop := fnExactLowestLevelUptoRow.holds Try.pinned (OpenSpec.upto fnExactLowestLevelSpec)

/-- 'laws.FnLevels', WHERE WHAT IT READS IS OF BULK AT MOST 1048576: true; the input reads as it did. -/
def fnLevelsUptoRow : OpenClaim := { program := "ytjbfpbcobpodaaa", sum := "22b3ab460bab4a892f8b18516370bbdd49f308d6bcbbbf10bb03fb564e422089", func := "loop.example/g00831/laws.FnLevels", spec := "fnLevels", unfollowed := true, recurses := true, apart := false, narrowed := true }
def FnLevelsUptoSaid : Prop := fnLevelsUptoRow.holds Try.pinned (OpenSpec.upto fnLevelsSpec)

end Rows
end Go.Proofs.Ytjbfpbcobpodaaa
