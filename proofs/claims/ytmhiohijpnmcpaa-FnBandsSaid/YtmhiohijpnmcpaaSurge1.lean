/-
  The contracts of the functions on one surge: toSurge, eqSurge, SurgeOk (the program's and the reference's).
-/
import Derived.Test.YtmhiohijpnmcpaaScal
import Derived.Test.YtmhiohijpnmcpaaModelB
namespace Go.Proofs.Ytmhiohijpnmcpaa
open Go.RowKit

set_option maxHeartbeats 400000 in
theorem toSurge_any (a b c : Int) (w : World) :
    Calls Try.prog 87 #[.agg #[.int .i64 a, .int .i64 b, .int .i64 c]] w fun e w' => e = .returned (.agg #[.int .i64 a, .int .i64 b, .int .i64 c]) ∧ Below w.heap.size w w' := by
  go_enter Try.func87, Try.ntmps87
  go_wp2
  refine bodyPost_ret (v := .agg #[.int .i64 a, .int .i64 b, .int .i64 c]) (by simp [results, Try.results87, go_sem]) rfl ⟨rfl, ?_⟩
  repeat (first | exact Below.refl _ _ | assumption | refine Below.alloc ?_ (by simp <;> omega) _ | refine Below.setCell ?_ (by simp <;> omega) _ | refine Below.drew ?_)

theorem surgeOk_by {a b c : Int} (h1 : inB a 0 2880 = true) : surgeOk ⟨a, b, c⟩ = decide (-500 ≤ b ∧ b ≤ c ∧ c ≤ 500) := by
  unfold surgeOk
  simp only [h1, Bool.true_and]
  by_cases h : -500 ≤ b ∧ b ≤ c ∧ c ≤ 500
  · rw [inB_mk (by omega), inB_mk (by omega), decide_eq_true h]
    rfl
  · rw [decide_eq_false h]
    by_cases h2 : -500 ≤ b ∧ b ≤ 500
    · rw [inB_mk h2, inB_no (by omega)]
      rfl
    · rw [inB_no (by omega)]
      rfl

set_option maxHeartbeats 1000000 in
theorem implSurgeOk_any (p : Surge) (w : World) :
    Calls Try.prog 55 #[.agg #[.int .i64 p.frm, .int .i64 p.low, .int .i64 p.high]] w fun e w' => e = .returned (.bool (surgeOk p)) ∧ Below w.heap.size w w' := by
  obtain ⟨a, b, c⟩ := p
  cases h1 : inB a 0 2880
  · go_enter Try.func55, Try.ntmps55
    go_wp2_with (go_at_call 59; refine (isMinute_any _ _).mono ?_; rintro e w' ⟨rfl, rfl⟩)
    go_ret
    refine ⟨ret_bool (by simp [surgeOk, h1]), ?_⟩
    repeat (first | exact Below.refl _ _ | assumption | refine Below.alloc ?_ (by simp <;> omega) _ | refine Below.setCell ?_ (by simp <;> omega) _ | refine Below.drew ?_)
  · by_cases h2 : -500 ≤ b
    · by_cases h3 : b ≤ c
      · by_cases h4 : c ≤ 500
        all_goals
          go_enter Try.func55, Try.ntmps55
          go_wp2_with (go_at_call 59; refine (isMinute_any _ _).mono ?_; rintro e w' ⟨rfl, rfl⟩)
          go_ret
          refine ⟨ret_bool (by rw [surgeOk_by h1, Bool.eq_iff_iff]; simp <;> omega), ?_⟩
          repeat (first | exact Below.refl _ _ | assumption | refine Below.alloc ?_ (by simp <;> omega) _ | refine Below.setCell ?_ (by simp <;> omega) _ | refine Below.drew ?_)
      · go_enter Try.func55, Try.ntmps55
        go_wp2_with (go_at_call 59; refine (isMinute_any _ _).mono ?_; rintro e w' ⟨rfl, rfl⟩)
        go_ret
        refine ⟨ret_bool (by rw [surgeOk_by h1, Bool.eq_iff_iff]; simp <;> omega), ?_⟩
        repeat (first | exact Below.refl _ _ | assumption | refine Below.alloc ?_ (by simp <;> omega) _ | refine Below.setCell ?_ (by simp <;> omega) _ | refine Below.drew ?_)
    · go_enter Try.func55, Try.ntmps55
      go_wp2_with (go_at_call 59; refine (isMinute_any _ _).mono ?_; rintro e w' ⟨rfl, rfl⟩)
      go_ret
      refine ⟨ret_bool (by rw [surgeOk_by h1, Bool.eq_iff_iff]; simp <;> omega), ?_⟩
      repeat (first | exact Below.refl _ _ | assumption | refine Below.alloc ?_ (by simp <;> omega) _ | refine Below.setCell ?_ (by simp <;> omega) _ | refine Below.drew ?_)

set_option maxHeartbeats 1000000 in
theorem specSurgeOk_any (p : Surge) (w : World) :
    Calls Try.prog 50 #[.agg #[.int .i64 p.frm, .int .i64 p.low, .int .i64 p.high]] w fun e w' => e = .returned (.bool (surgeOk p)) ∧ Below w.heap.size w w' := by
  obtain ⟨a, b, c⟩ := p
  cases h1 : inB a 0 2880
  · go_enter Try.func50, Try.ntmps50
    go_wp2_with (go_at_call 49; refine (l01In_any _ _ _ _).mono ?_; rintro e w' ⟨rfl, rfl⟩)
    go_ret
    refine ⟨ret_bool (by simp [surgeOk, h1]), ?_⟩
    repeat (first | exact Below.refl _ _ | assumption | refine Below.alloc ?_ (by simp <;> omega) _ | refine Below.setCell ?_ (by simp <;> omega) _ | refine Below.drew ?_)
  · cases h2 : inB b (-500) 500
    all_goals
      go_enter Try.func50, Try.ntmps50
      go_wp2_with (go_at_call 49; refine (l01In_any _ _ _ _).mono ?_; rintro e w' ⟨rfl, rfl⟩)
      go_ret
      refine ⟨ret_bool (by simp [surgeOk, h1, h2]), ?_⟩
      repeat (first | exact Below.refl _ _ | assumption | refine Below.alloc ?_ (by simp <;> omega) _ | refine Below.setCell ?_ (by simp <;> omega) _ | refine Below.drew ?_)

end Go.Proofs.Ytmhiohijpnmcpaa
