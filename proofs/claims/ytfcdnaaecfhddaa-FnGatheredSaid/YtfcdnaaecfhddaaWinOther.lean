/-
  The contracts of OtherWindows, the program's and the reference's.
-/
import Derived.Test.YtfcdnaaecfhddaaWinNum
import Derived.Test.YtfcdnaaecfhddaaTWindow
import Derived.Test.YtfcdnaaecfhddaaGrow
import Derived.Test.YtfcdnaaecfhddaaModelO
namespace Go.Proofs.Ytfcdnaaecfhddaa
open Go.RowKit

set_option maxHeartbeats 2000000 in
theorem cloneWindow_any (ad : Addr) (c : Nat) (ps : List Window) (w : World) (hr : Rd w w.heap.size Window.at_ 2 (some ad) ps) (hlen : ps.length ≤ 1048576) :
    Calls Try.prog 42 #[.slice (some ad) ps.length c] w fun e w' => ∃ v, e = .returned v ∧ w'.ownsRow w.heap.size 41 2 v ps.length (flat Window.at_ 2 ps) ∧ Below w.heap.size w w' := by
  obtain ⟨i0, hi, hz0, hz1, hz2⟩ := info_parts infoWindow
  have hmk := run_make_room (P := Try.prog) 25 41 i0 _ 2 16 Try.underlying25 hi hz0 hz1 hz2 ps.length (by omega) (by omega)
  have hown : (w.alloc (.cells (madeCells #[.int .i64 0, .int .i64 0] (ps.length * 2)) 41)).ownsRow w.heap.size 41 2 (.slice (some ⟨w.heap.size, 0, none⟩) 0 ps.length) 0 [] :=
    ownsRow_room (z := .agg #[.int .i64 0, .int .i64 0]) (by simp [maxLen]; omega)
  have hB0 : Below w.heap.size w (w.alloc (.cells (madeCells #[.int .i64 0, .int .i64 0] (ps.length * 2)) 41)) := (Below.refl _ _).alloc (Nat.le_refl _) _
  have hcell := (Rd.below hr hB0).flat (by omega)
  have hfl := flat_length Window.at_ 2 ps
  have h1c : ∀ u ∈ flat Window.at_ 2 ps, u.oneCell' = true := fun u hu => by
    obtain ⟨p, hp, hu⟩ := List.mem_flatMap.1 hu
    simp only [List.mem_map, List.mem_range] at hu
    obtain ⟨j, hj, rfl⟩ := hu
    unfold Window.at_
    split <;> rfl
  clear hr
  go_enter Try.func42, Try.ntmps42
  go_wp2_with (at_builtin; refine wpList_append_own _ rfl _ _ 25 rfl w.heap.size 41 i0 (.agg #[.int .i64 0, .int .i64 0]) 2 16 Try.underlying25 hi hz0 hz1 hz2 rfl (by decide) _ _ _ rfl hown ad ps.length c (flat Window.at_ 2 ps) rfl hfl hcell h1c ?c3 ?c4 ?c5 ?_)
  case c3 => unfold maxLen; omega
  case c4 => omega
  case c5 => simp
  intro v' w' hown' hgrow _
  have hbn := hB0.grown hgrow (by simp) (fun q hq => (hown.lt q hq).1)
  clear hgrow hown hB0 hcell hfl h1c hmk
  go_wp2_with fail
  go_ret
  exact ⟨v', rfl, hown', hbn⟩
end Go.Proofs.Ytfcdnaaecfhddaa
