/-
  No cell of these rows narrows 'for every input' (looked for: loops, veiled, ifaces, maps, wideKeys, modest, calm, conditions, laid).
  DERIVED. THE GIVEN ROWS OF THIS SEAT. 10 by the template 'for every input the law returns true; each argument reads behind the call as it read before'; 0 by the template 'total and deterministic' (their statements: YtjmfgncakegjaaaTotals.lean).
  GIVEN WITH THE SEED: the statements are not yours to turn. If you find one false, say at which input.
  Laid BY PROGRAM, IN A SANDBOX (cutbox-rows.mjs): the forced cells as the released guide's own fill.sh prints them over the translation a4a43173cfa805b2… (all of the seat's roots in one cut). By AI agents, Wed Nov 11 2026. No macro, syntax, notation, axiom, sorry.
-/
import Derived.Test.YtjmfgncakegjaaaChecked
import GoSem.Claim
import GoSem.ClaimJoined
import GoSem.ClaimMapViews
import Derived.JoinedTies
import Derived.KernelRfl
namespace Go.Proofs.Ytjmfgncakegjaaa
/- THE CELL 'sum', in the pinned program and in every row, IS THE sha256 OF THE DUMP (.gsa) THAT YtjmfgncakegjaaaProg.lean LOADS. Nothing in Lean hashes anything: it is a label: what it is worth is what the hold of that sum in a sandbox is worth. -/
noncomputable def Try.pinned : Pinned := { name := "ytjmfgncakegjaaa", sum := "a4a43173cfa805b2cb9af23e525ef7e8f1124da5d27b2a9316c05e4257fc85cd", checked := Try.checked }
namespace Rows
def none {H : Type} : Left H := { results := [], args := [] }

/-- 'laws.FnExactPointNamed': WHATEVER THE INPUT: true; the input reads as it did. -/
def fnExactPointNamedSpec : ChangeSpec := { name := "fnExactPointNamed", fn := fun _ => fun
  | [d1, d2] => { results := [.lit (.bool true)], args := [d1, d2] }
  | _ => none }
def fnExactPointNamedRow : OpenClaim := { program := "ytjmfgncakegjaaa", sum := "a4a43173cfa805b2cb9af23e525ef7e8f1124da5d27b2a9316c05e4257fc85cd", func := "loop.example/g00831/laws.FnExactPointNamed", spec := "fnExactPointNamed", apart := false }
def FnExactPointNamedSaid : Prop := fnExactPointNamedRow.holds Try.pinned (OpenSpec.ofChange fnExactPointNamedSpec)

/-- ITS FALSE NEIGHBOUR: 'it returns false'. Refute it at one input. -/
def fnExactPointNamedWrong : ChangeSpec := { name := "fnExactPointNamed", fn := fun _ => fun
  | [d1, d2] => { results := [.lit (.bool false)], args := [d1, d2] }
  | _ => none }
def FnExactPointNamedWrongFalsely : Prop := fnExactPointNamedRow.holds Try.pinned (OpenSpec.ofChange fnExactPointNamedWrong)

/-- 'laws.FnExactChartOk': WHATEVER THE INPUT: true; the input reads as it did. -/
def fnExactChartOkSpec : ChangeSpec := { name := "fnExactChartOk", fn := fun _ => fun
  | [d] => { results := [.lit (.bool true)], args := [d] }
  | _ => none }
def fnExactChartOkRow : OpenClaim := { program := "ytjmfgncakegjaaa", sum := "a4a43173cfa805b2cb9af23e525ef7e8f1124da5d27b2a9316c05e4257fc85cd", func := "loop.example/g00831/laws.FnExactChartOk", spec := "fnExactChartOk", apart := false }
def FnExactChartOkSaid : Prop := fnExactChartOkRow.holds Try.pinned (OpenSpec.ofChange fnExactChartOkSpec)

/-- ITS FALSE NEIGHBOUR: 'it returns false'. Refute it at one input. -/
def fnExactChartOkWrong : ChangeSpec := { name := "fnExactChartOk", fn := fun _ => fun
  | [d] => { results := [.lit (.bool false)], args := [d] }
  | _ => none }
def FnExactChartOkWrongFalsely : Prop := fnExactChartOkRow.holds Try.pinned (OpenSpec.ofChange fnExactChartOkWrong)

/-- 'laws.FnExactSegmentOf': WHATEVER THE INPUT: true; the input reads as it did. -/
def fnExactSegmentOfSpec : ChangeSpec := { name := "fnExactSegmentOf", fn := fun _ => fun
  | [d1, d2, d3] => { results := [.lit (.bool true)], args := [d1, d2, d3] }
  | _ => none }
def fnExactSegmentOfRow : OpenClaim := { program := "ytjmfgncakegjaaa", sum := "a4a43173cfa805b2cb9af23e525ef7e8f1124da5d27b2a9316c05e4257fc85cd", func := "loop.example/g00831/laws.FnExactSegmentOf", spec := "fnExactSegmentOf", apart := false }
def FnExactSegmentOfSaid : Prop := fnExactSegmentOfRow.holds Try.pinned (OpenSpec.ofChange fnExactSegmentOfSpec)

/-- ITS FALSE NEIGHBOUR: 'it returns false'. Refute it at one input. -/
def fnExactSegmentOfWrong : ChangeSpec := { name := "fnExactSegmentOf", fn := fun _ => fun
  | [d1, d2, d3] => { results := [.lit (.bool false)], args := [d1, d2, d3] }
  | _ => none }
def FnExactSegmentOfWrongFalsely : Prop := fnExactSegmentOfRow.holds Try.pinned (OpenSpec.ofChange fnExactSegmentOfWrong)

/-- 'laws.FnExactOtherEnd': WHATEVER THE INPUT: true; the input reads as it did. -/
def fnExactOtherEndSpec : ChangeSpec := { name := "fnExactOtherEnd", fn := fun _ => fun
  | [d1, d2, d3] => { results := [.lit (.bool true)], args := [d1, d2, d3] }
  | _ => none }
def fnExactOtherEndRow : OpenClaim := { program := "ytjmfgncakegjaaa", sum := "a4a43173cfa805b2cb9af23e525ef7e8f1124da5d27b2a9316c05e4257fc85cd", func := "loop.example/g00831/laws.FnExactOtherEnd", spec := "fnExactOtherEnd", apart := false }
def FnExactOtherEndSaid : Prop := fnExactOtherEndRow.holds Try.pinned (OpenSpec.ofChange fnExactOtherEndSpec)

/-- ITS FALSE NEIGHBOUR: 'it returns false'. Refute it at one input. -/
def fnExactOtherEndWrong : ChangeSpec := { name := "fnExactOtherEnd", fn := fun _ => fun
  | [d1, d2, d3] => { results := [.lit (.bool false)], args := [d1, d2, d3] }
  | _ => none }
def FnExactOtherEndWrongFalsely : Prop := fnExactOtherEndRow.holds Try.pinned (OpenSpec.ofChange fnExactOtherEndWrong)

/-- 'laws.FnExactRouteMinutes': WHATEVER THE INPUT: true; the input reads as it did. -/
def fnExactRouteMinutesSpec : ChangeSpec := { name := "fnExactRouteMinutes", fn := fun _ => fun
  | [d1, d2] => { results := [.lit (.bool true)], args := [d1, d2] }
  | _ => none }
def fnExactRouteMinutesRow : OpenClaim := { program := "ytjmfgncakegjaaa", sum := "a4a43173cfa805b2cb9af23e525ef7e8f1124da5d27b2a9316c05e4257fc85cd", func := "loop.example/g00831/laws.FnExactRouteMinutes", spec := "fnExactRouteMinutes", apart := false }
def FnExactRouteMinutesSaid : Prop := fnExactRouteMinutesRow.holds Try.pinned (OpenSpec.ofChange fnExactRouteMinutesSpec)

/-- ITS FALSE NEIGHBOUR: 'it returns false'. Refute it at one input. -/
def fnExactRouteMinutesWrong : ChangeSpec := { name := "fnExactRouteMinutes", fn := fun _ => fun
  | [d1, d2] => { results := [.lit (.bool false)], args := [d1, d2] }
  | _ => none }
def FnExactRouteMinutesWrongFalsely : Prop := fnExactRouteMinutesRow.holds Try.pinned (OpenSpec.ofChange fnExactRouteMinutesWrong)

/-- 'laws.FnExactRouteOk': WHATEVER THE INPUT: true; the input reads as it did. -/
def fnExactRouteOkSpec : ChangeSpec := { name := "fnExactRouteOk", fn := fun _ => fun
  | [d1, d2, d3] => { results := [.lit (.bool true)], args := [d1, d2, d3] }
  | _ => none }
def fnExactRouteOkRow : OpenClaim := { program := "ytjmfgncakegjaaa", sum := "a4a43173cfa805b2cb9af23e525ef7e8f1124da5d27b2a9316c05e4257fc85cd", func := "loop.example/g00831/laws.FnExactRouteOk", spec := "fnExactRouteOk", apart := false }
def FnExactRouteOkSaid : Prop := fnExactRouteOkRow.holds Try.pinned (OpenSpec.ofChange fnExactRouteOkSpec)

/-- ITS FALSE NEIGHBOUR: 'it returns false'. Refute it at one input. -/
def fnExactRouteOkWrong : ChangeSpec := { name := "fnExactRouteOk", fn := fun _ => fun
  | [d1, d2, d3] => { results := [.lit (.bool false)], args := [d1, d2, d3] }
  | _ => none }
def FnExactRouteOkWrongFalsely : Prop := fnExactRouteOkRow.holds Try.pinned (OpenSpec.ofChange fnExactRouteOkWrong)

/-- 'laws.FnExactRoutePoints': WHATEVER THE INPUT: true; the input reads as it did. -/
def fnExactRoutePointsSpec : ChangeSpec := { name := "fnExactRoutePoints", fn := fun _ => fun
  | [d1, d2, d3] => { results := [.lit (.bool true)], args := [d1, d2, d3] }
  | _ => none }
def fnExactRoutePointsRow : OpenClaim := { program := "ytjmfgncakegjaaa", sum := "a4a43173cfa805b2cb9af23e525ef7e8f1124da5d27b2a9316c05e4257fc85cd", func := "loop.example/g00831/laws.FnExactRoutePoints", spec := "fnExactRoutePoints", apart := false }
def FnExactRoutePointsSaid : Prop := fnExactRoutePointsRow.holds Try.pinned (OpenSpec.ofChange fnExactRoutePointsSpec)

/-- ITS FALSE NEIGHBOUR: 'it returns false'. Refute it at one input. -/
def fnExactRoutePointsWrong : ChangeSpec := { name := "fnExactRoutePoints", fn := fun _ => fun
  | [d1, d2, d3] => { results := [.lit (.bool false)], args := [d1, d2, d3] }
  | _ => none }
def FnExactRoutePointsWrongFalsely : Prop := fnExactRoutePointsRow.holds Try.pinned (OpenSpec.ofChange fnExactRoutePointsWrong)

/-- 'laws.FnExactRoutesBetween': WHATEVER THE INPUT: true; the input reads as it did. -/
def fnExactRoutesBetweenSpec : ChangeSpec := { name := "fnExactRoutesBetween", fn := fun _ => fun
  | [d1, d2, d3] => { results := [.lit (.bool true)], args := [d1, d2, d3] }
  | _ => none }
def fnExactRoutesBetweenRow : OpenClaim := { program := "ytjmfgncakegjaaa", sum := "a4a43173cfa805b2cb9af23e525ef7e8f1124da5d27b2a9316c05e4257fc85cd", func := "loop.example/g00831/laws.FnExactRoutesBetween", spec := "fnExactRoutesBetween", recurses := true, apart := false }
def FnExactRoutesBetweenSaid : Prop := fnExactRoutesBetweenRow.holds Try.pinned (OpenSpec.ofChange fnExactRoutesBetweenSpec)

/-- ITS FALSE NEIGHBOUR: 'it returns false'. Refute it at one input. -/
def fnExactRoutesBetweenWrong : ChangeSpec := { name := "fnExactRoutesBetween", fn := fun _ => fun
  | [d1, d2, d3] => { results := [.lit (.bool false)], args := [d1, d2, d3] }
  | _ => none }
def FnExactRoutesBetweenWrongFalsely : Prop := fnExactRoutesBetweenRow.holds Try.pinned (OpenSpec.ofChange fnExactRoutesBetweenWrong)

/-- 'laws.FnExactBestRoute': WHATEVER THE INPUT: true; the input reads as it did. -/
def fnExactBestRouteSpec : ChangeSpec := { name := "fnExactBestRoute", fn := fun _ => fun
  | [d1, d2, d3] => { results := [.lit (.bool true)], args := [d1, d2, d3] }
  | _ => none }
def fnExactBestRouteRow : OpenClaim := { program := "ytjmfgncakegjaaa", sum := "a4a43173cfa805b2cb9af23e525ef7e8f1124da5d27b2a9316c05e4257fc85cd", func := "loop.example/g00831/laws.FnExactBestRoute", spec := "fnExactBestRoute", recurses := true, apart := false }
def FnExactBestRouteSaid : Prop := fnExactBestRouteRow.holds Try.pinned (OpenSpec.ofChange fnExactBestRouteSpec)

/-- ITS FALSE NEIGHBOUR: 'it returns false'. Refute it at one input. -/
def fnExactBestRouteWrong : ChangeSpec := { name := "fnExactBestRoute", fn := fun _ => fun
  | [d1, d2, d3] => { results := [.lit (.bool false)], args := [d1, d2, d3] }
  | _ => none }
def FnExactBestRouteWrongFalsely : Prop := fnExactBestRouteRow.holds Try.pinned (OpenSpec.ofChange fnExactBestRouteWrong)

/-- 'laws.FnRoutes': WHATEVER THE INPUT: true; the input reads as it did. -/
def fnRoutesSpec : ChangeSpec := { name := "fnRoutes", fn := fun _ => fun
  | [d] => { results := [.lit (.bool true)], args := [d] }
  | _ => none }
def fnRoutesRow : OpenClaim := { program := "ytjmfgncakegjaaa", sum := "a4a43173cfa805b2cb9af23e525ef7e8f1124da5d27b2a9316c05e4257fc85cd", func := "loop.example/g00831/laws.FnRoutes", spec := "fnRoutes", recurses := true, apart := false }
def FnRoutesSaid : Prop := fnRoutesRow.holds Try.pinned (OpenSpec.ofChange fnRoutesSpec)

/-- ITS FALSE NEIGHBOUR: 'it returns false'. Refute it at one input. -/
def fnRoutesWrong : ChangeSpec := { name := "fnRoutes", fn := fun _ => fun
  | [d] => { results := [.lit (.bool false)], args := [d] }
  | _ => none }
def FnRoutesWrongFalsely : Prop := fnRoutesRow.holds Try.pinned (OpenSpec.ofChange fnRoutesWrong)

/- THE SECOND FORM. 'bulk': how many values and letters a reading holds, each counted each time it is reached (what is shared counts as often as it is met; a slice's spare places count too). A statement '..UptoSaid' is the law's where the arguments, and the package variables that the reading takes, are together of bulk at most 1048576: NARROWER than '..Said'. Prove '..Said' where nothing that the law and all that it calls make is longer than what came in: it says more and counts as full. Else prove '..UptoSaid'. A law counts once. -/
mutual
def uptoBulk {H : Type} : DataW H → Nat
  | .lit (.string bytes) => bytes.length + 1
  | .lit _ => 1
  | .nil => 1
  | .ptr d => uptoBulk d + 1
  | .slice elems spare => uptoBulkAll elems + uptoBulkAll spare + 1
  | .agg parts => uptoBulkAll parts + 1
  | .iface _ d => uptoBulk d + 1
  | .map entries => uptoBulkEntries entries + 1
  | .held _ => 1
def uptoBulkAll {H : Type} : List (DataW H) → Nat
  | [] => 0
  | d :: r => uptoBulk d + uptoBulkAll r
def uptoBulkEntries {H : Type} : List (Lit × DataW H) → Nat
  | [] => 0
  | x :: r => uptoBulkEntry x + uptoBulkEntries r
def uptoBulkEntry {H : Type} : Lit × DataW H → Nat
  | (.string bytes, d) => bytes.length + uptoBulk d + 1
  | (_, d) => uptoBulk d + 1
 end
def uptoSmall : (H : Type) → List (DataW H) → Bool := fun _ ds => decide (uptoBulkAll ds ≤ 1048576)
def OpenSpec.upto (s : _root_.Go.ChangeSpec) : _root_.Go.OpenSpec := { _root_.Go.OpenSpec.ofChange s with cond := some uptoSmall }

/-- 'laws.FnExactPointNamed', WHERE WHAT IT READS IS OF BULK AT MOST 1048576: true; the input reads as it did. -/
def fnExactPointNamedUptoRow : OpenClaim := { program := "ytjmfgncakegjaaa", sum := "a4a43173cfa805b2cb9af23e525ef7e8f1124da5d27b2a9316c05e4257fc85cd", func := "loop.example/g00831/laws.FnExactPointNamed", spec := "fnExactPointNamed", apart := false, narrowed := true }
def FnExactPointNamedUptoSaid : Prop := fnExactPointNamedUptoRow.holds Try.pinned (OpenSpec.upto fnExactPointNamedSpec)

/-- 'laws.FnExactChartOk', WHERE WHAT IT READS IS OF BULK AT MOST 1048576: true; the input reads as it did. -/
def fnExactChartOkUptoRow : OpenClaim := { program := "ytjmfgncakegjaaa", sum := "a4a43173cfa805b2cb9af23e525ef7e8f1124da5d27b2a9316c05e4257fc85cd", func := "loop.example/g00831/laws.FnExactChartOk", spec := "fnExactChartOk", apart := false, narrowed := true }
def FnExactChartOkUptoSaid : Prop := fnExactChartOkUptoRow.holds Try.pinned (OpenSpec.upto fnExactChartOkSpec)

/-- 'laws.FnExactSegmentOf', WHERE WHAT IT READS IS OF BULK AT MOST 1048576: true; the input reads as it did. -/
def fnExactSegmentOfUptoRow : OpenClaim := { program := "ytjmfgncakegjaaa", sum := "a4a43173cfa805b2cb9af23e525ef7e8f1124da5d27b2a9316c05e4257fc85cd", func := "loop.example/g00831/laws.FnExactSegmentOf", spec := "fnExactSegmentOf", apart := false, narrowed := true }
def FnExactSegmentOfUptoSaid : Prop := fnExactSegmentOfUptoRow.holds Try.pinned (OpenSpec.upto fnExactSegmentOfSpec)

/-- 'laws.FnExactOtherEnd', WHERE WHAT IT READS IS OF BULK AT MOST 1048576: true; the input reads as it did. -/
def fnExactOtherEndUptoRow : OpenClaim := { program := "ytjmfgncakegjaaa", sum := "a4a43173cfa805b2cb9af23e525ef7e8f1124da5d27b2a9316c05e4257fc85cd", func := "loop.example/g00831/laws.FnExactOtherEnd", spec := "fnExactOtherEnd", apart := false, narrowed := true }
def FnExactOtherEndUptoSaid : Prop := fnExactOtherEndUptoRow.holds Try.pinned (OpenSpec.upto fnExactOtherEndSpec)

/-- 'laws.FnExactRouteMinutes', WHERE WHAT IT READS IS OF BULK AT MOST 1048576: true; the input reads as it did. -/
def fnExactRouteMinutesUptoRow : OpenClaim := { program := "ytjmfgncakegjaaa", sum := "a4a43173cfa805b2cb9af23e525ef7e8f1124da5d27b2a9316c05e4257fc85cd", func := "loop.example/g00831/laws.FnExactRouteMinutes", spec := "fnExactRouteMinutes", apart := false, narrowed := true }
def FnExactRouteMinutesUptoSaid : Prop := fnExactRouteMinutesUptoRow.holds Try.pinned (OpenSpec.upto fnExactRouteMinutesSpec)

/-- 'laws.FnExactRouteOk', WHERE WHAT IT READS IS OF BULK AT MOST 1048576: true; the input reads as it did. -/
def fnExactRouteOkUptoRow : OpenClaim := { program := "ytjmfgncakegjaaa", sum := "a4a43173cfa805b2cb9af23e525ef7e8f1124da5d27b2a9316c05e4257fc85cd", func := "loop.example/g00831/laws.FnExactRouteOk", spec := "fnExactRouteOk", apart := false, narrowed := true }
def FnExactRouteOkUptoSaid : Prop := fnExactRouteOkUptoRow.holds Try.pinned (OpenSpec.upto fnExactRouteOkSpec)

/-- 'laws.FnExactRoutePoints', WHERE WHAT IT READS IS OF BULK AT MOST 1048576: true; the input reads as it did. -/
def fnExactRoutePointsUptoRow : OpenClaim := { program := "ytjmfgncakegjaaa", sum := "a4a43173cfa805b2cb9af23e525ef7e8f1124da5d27b2a9316c05e4257fc85cd", func := "loop.example/g00831/laws.FnExactRoutePoints", spec := "fnExactRoutePoints", apart := false, narrowed := true }
def FnExactRoutePointsUptoSaid : Prop := fnExactRoutePointsUptoRow.holds Try.pinned (OpenSpec.upto fnExactRoutePointsSpec)

/-- 'laws.FnExactRoutesBetween', WHERE WHAT IT READS IS OF BULK AT MOST 1048576: true; the input reads as it did. -/
def fnExactRoutesBetweenUptoRow : OpenClaim := { program := "ytjmfgncakegjaaa", sum := "a4a43173cfa805b2cb9af23e525ef7e8f1124da5d27b2a9316c05e4257fc85cd", func := "loop.example/g00831/laws.FnExactRoutesBetween", spec := "fnExactRoutesBetween", recurses := true, apart := false, narrowed := true }
def FnExactRoutesBetweenUptoSaid : Prop := fnExactRoutesBetweenUptoRow.holds Try.pinned (OpenSpec.upto fnExactRoutesBetweenSpec)

/-- 'laws.FnExactBestRoute', WHERE WHAT IT READS IS OF BULK AT MOST 1048576: true; the input reads as it did. -/
def fnExactBestRouteUptoRow : OpenClaim := { program := "ytjmfgncakegjaaa", sum := "a4a43173cfa805b2cb9af23e525ef7e8f1124da5d27b2a9316c05e4257fc85cd", func := "loop.example/g00831/laws.FnExactBestRoute", spec := "fnExactBestRoute", recurses := true, apart := false, narrowed := true }
def FnExactBestRouteUptoSaid : Prop := fnExactBestRouteUptoRow.holds Try.pinned (OpenSpec.upto fnExactBestRouteSpec)

/-- 'laws.FnRoutes', WHERE WHAT IT READS IS OF BULK AT MOST 1048576: true; the input reads as it did. -/
def fnRoutesUptoRow : OpenClaim := { program := "ytjmfgncakegjaaa", sum := "a4a43173cfa805b2cb9af23e525ef7e8f1124da5d27b2a9316c05e4257fc85cd", func := "loop.example/g00831/laws.FnRoutes", spec := "fnRoutes", recurses := true, apart := false, narrowed := true }
def FnRoutesUptoSaid : Prop := fnRoutesUptoRow.holds Try.pinned (OpenSpec.upto fnRoutesSpec)

end Rows
end Go.Proofs.Ytjmfgncakegjaaa
