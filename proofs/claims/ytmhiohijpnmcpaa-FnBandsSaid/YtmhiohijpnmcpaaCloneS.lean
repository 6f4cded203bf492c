/-
  The contract of clone of surges.
-/
import Derived.Test.YtmhiohijpnmcpaaTSurge
import Derived.Test.YtmhiohijpnmcpaaGrow
namespace Go.Proofs.Ytmhiohijpnmcpaa
open Go.RowKit

set_option maxHeartbeats 2000000 in
theorem cloneSurge_any (ad : Addr) (c : Nat) (ps : List Surge) (w : World) (hr : Rd w w.heap.size Surge.at_ 3 (some ad) ps) (hlen : ps.length ≤ 1048576) :
    Calls Try.prog 67 #[.slice (some ad) ps.length c] w fun e w' => ∃ v, e = .returned v ∧ w'.ownsRow w.heap.size 66 3 v ps.length (flat Surge.at_ 3 ps) ∧ Below w.heap.size w w' := by
  obtain ⟨i0, hi, hz0, hz1, hz2⟩ := info_parts infoSurge
  have hmk := run_make_room (P := Try.prog) 33 66 i0 _ 3 24 Try.underlying33 hi hz0 hz1 hz2 ps.length (by omega) (by omega)
  have hown : (w.alloc (.cells (madeCells #[.int .i64 0, .int .i64 0, .int .i64 0] (ps.length * 3)) 66)).ownsRow w.heap.size 66 3 (.slice (some ⟨w.heap.size, 0, none⟩) 0 ps.length) 0 [] :=
    ownsRow_room (z := .agg #[.int .i64 0, .int .i64 0, .int .i64 0]) (by simp [maxLen]; omega)
  have hB0 : Below w.heap.size w (w.alloc (.cells (madeCells #[.int .i64 0, .int .i64 0, .int .i64 0] (ps.length * 3)) 66)) := (Below.refl _ _).alloc (Nat.le_refl _) _
  have hcell := (Rd.below hr hB0).flat (by omega)
  have hfl := flat_length Surge.at_ 3 ps
  have h1c : ∀ u ∈ flat Surge.at_ 3 ps, u.oneCell' = true := fun u hu => by
    obtain ⟨p, hp, hu⟩ := List.mem_flatMap.1 hu
    simp only [List.mem_map, List.mem_range] at hu
    obtain ⟨j, hj, rfl⟩ := hu
    unfold Surge.at_
    split <;> rfl
  clear hr
  go_enter Try.func67, Try.ntmps67
  go_wp2_with (at_builtin; refine wpList_append_own _ rfl _ _ 33 rfl w.heap.size 66 i0 (.agg #[.int .i64 0, .int .i64 0, .int .i64 0]) 3 24 Try.underlying33 hi hz0 hz1 hz2 rfl (by decide) _ _ _ rfl hown ad ps.length c (flat Surge.at_ 3 ps) rfl hfl hcell h1c ?c3 ?c4 ?c5 ?_)
  case c3 => unfold maxLen; omega
  case c4 => omega
  case c5 => simp
  intro v' w' hown' hgrow _
  have hbn := hB0.grown hgrow (by simp) (fun q hq => (hown.lt q hq).1)
  clear hgrow hown hB0 hcell hfl h1c hmk
  go_wp2_with fail
  go_ret
  exact ⟨v', rfl, hown', hbn⟩
end Go.Proofs.Ytmhiohijpnmcpaa
