/-
  The contract of clone of ints, nil let in: a row of the call's own at a new block.
-/
import Derived.Test.YtjmfgncakegjaaaRtB
namespace Go.Proofs.Ytjmfgncakegjaaa
open Go.RowKit

set_option maxHeartbeats 2000000 in
theorem cloneInt_any (A : Option Addr) (c : Nat) (ps : List Int) (w : World) (hr : Rd w w.heap.size intAt 1 A ps) (hn : A = none → ps.length = 0) (hlen : ps.length ≤ 1048576) :
    Calls Try.prog 75 #[.slice A ps.length c] w fun e w' => ∃ v g, e = .returned v ∧ w'.ownsRow w.heap.size 3 1 v ps.length (flat intAt 1 ps) ∧ v.ownBlock = some g ∧ Below w.heap.size w w' := by
  obtain ⟨i0, hi, hz0, hz1, hz2⟩ := info_parts infoInt
  have hmk := run_make_room (P := Try.prog) 39 3 i0 _ 1 8 Try.underlying39 hi hz0 hz1 hz2 ps.length (by omega) (by omega)
  have hown : (w.alloc (.cells (madeCells #[.int .i64 0] ps.length) 3)).ownsRow w.heap.size 3 1 (.slice (some ⟨w.heap.size, 0, none⟩) 0 ps.length) 0 [] :=
    by
      have h := ownsRow_room (w := w) (e := 3) (size := 1) (z := .int .i64 0) (k := ps.length) (by simp [maxLen]; omega)
      rw [Nat.mul_one] at h
      exact h
  have hB0 : Below w.heap.size w (w.alloc (.cells (madeCells #[.int .i64 0] ps.length) 3)) := (Below.refl _ _).alloc (Nat.le_refl _) _
  have hcell := rd_src (Rd.below hr hB0) (by omega)
  have hfl := flat_length intAt 1 ps
  have h1c := ints_one ps
  clear hr
  go_enter Try.func75, Try.ntmps75
  go_wp2_with (at_builtin; refine wpList_append_any_at _ rfl _ _ 39 rfl w.heap.size 3 i0 (.int .i64 0) 1 8 Try.underlying39 hi hz0 hz1 hz2 rfl (by decide) _ _ _ rfl hown A ps.length c (flat intAt 1 ps) rfl hfl hn hcell h1c ?c3 ?c4 ?c5 ?_)
  case c3 => unfold maxLen; omega
  case c4 => omega
  case c5 => simp
  intro v' w' hown' hgrow hat
  have hbn := hB0.grown hgrow (by simp) (fun q hq => (hown.lt q hq).1)
  have hb : ∃ g, v'.ownBlock = some g := by
    rcases hat with h | h
    · exact ⟨w.heap.size, h⟩
    · exact ⟨_, h⟩
  clear hgrow hown hB0 hcell hfl h1c hmk hat
  go_wp2_with fail
  go_ret
  obtain ⟨g, hg⟩ := hb
  exact ⟨v', g, rfl, hown', hg, hbn⟩

end Go.Proofs.Ytjmfgncakegjaaa
