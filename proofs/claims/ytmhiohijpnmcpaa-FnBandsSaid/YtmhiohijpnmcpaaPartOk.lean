/-
  The contracts of the functions on one part of a tide: toPart, eqPart, PartOk (the program's and the reference's).
-/
import Derived.Test.YtmhiohijpnmcpaaScal
namespace Go.Proofs.Ytmhiohijpnmcpaa
open Go.RowKit

/-- A part as a value. -/
abbrev Part.val (p : Part) : Value := .agg #[.int .i64 p.amp, .int .i64 p.period, .int .i64 p.phase]

set_option maxHeartbeats 400000 in
theorem toPart_any (a b c : Int) (w : World) :
    Calls Try.prog 100 #[.agg #[.int .i64 a, .int .i64 b, .int .i64 c]] w fun e w' => e = .returned (.agg #[.int .i64 a, .int .i64 b, .int .i64 c]) ∧ Below w.heap.size w w' := by
  go_enter Try.func100, Try.ntmps100
  go_wp2
  refine bodyPost_ret (v := .agg #[.int .i64 a, .int .i64 b, .int .i64 c]) (by simp [results, Try.results100, go_sem]) rfl ⟨rfl, ?_⟩
  repeat (first | exact Below.refl _ _ | assumption | refine Below.alloc ?_ (by simp <;> omega) _ | refine Below.setCell ?_ (by simp <;> omega) _ | refine Below.drew ?_)

set_option maxHeartbeats 400000 in
theorem eqPart_same (a b c : Int) (w : World) :
    Calls Try.prog 102 #[.agg #[.int .i64 a, .int .i64 b, .int .i64 c], .agg #[.int .i64 a, .int .i64 b, .int .i64 c]] w
      fun e w' => e = .returned (.bool true) ∧ (w.alloc (.cells #[.int .i64 a, .int .i64 b, .int .i64 c] 91)).alloc (.cells #[.int .i64 a, .int .i64 b, .int .i64 c] 91) = w' := by
  go_enter Try.func102, Try.ntmps102
  go_wp2
  go_ret
  exact ⟨rfl, rfl⟩

set_option maxHeartbeats 1000000 in
theorem implPartOk_any (p : Part) (w : World) (wf : I64 p.period) :
    Calls Try.prog 88 #[.agg #[.int .i64 p.amp, .int .i64 p.period, .int .i64 p.phase]] w fun e w' => e = .returned (.bool (partOk p)) ∧ Below w.heap.size w w' := by
  obtain ⟨a, b, c⟩ := p
  cases h1 : inB a 0 1000
  · go_enter Try.func88, Try.ntmps88
    go_wp2_with (first
      | (go_at_call 54; refine (within_any _ _ _ _).mono ?_; rintro e w' ⟨rfl, rfl⟩)
      | (go_at_call 101; refine (isPeriod_any _ _).mono ?_; rintro e w' ⟨rfl, rfl⟩))
    go_ret
    refine ⟨ret_bool (by simp [partOk, h1]), ?_⟩
    repeat (first | exact Below.refl _ _ | assumption | refine Below.alloc ?_ (by simp <;> omega) _ | refine Below.setCell ?_ (by simp <;> omega) _ | refine Below.drew ?_)
  · cases h2 : isPer b
    · go_enter Try.func88, Try.ntmps88
      go_wp2_with (first
        | (go_at_call 54; refine (within_any _ _ _ _).mono ?_; rintro e w' ⟨rfl, rfl⟩)
        | (go_at_call 101; refine (isPeriod_any _ _).mono ?_; rintro e w' ⟨rfl, rfl⟩))
      go_ret
      refine ⟨ret_bool (by simp [partOk, h1, h2]), ?_⟩
      repeat (first | exact Below.refl _ _ | assumption | refine Below.alloc ?_ (by simp <;> omega) _ | refine Below.setCell ?_ (by simp <;> omega) _ | refine Below.drew ?_)
    · have hb := isPer_true h2
      have hb1 := hb.1
      have hb2 := hb.2.1
      clear hb wf
      go_enter Try.func88, Try.ntmps88
      go_wp2_with (first
        | (go_at_call 54; refine (within_any _ _ _ _).mono ?_; rintro e w' ⟨rfl, rfl⟩)
        | (go_at_call 101; refine (isPeriod_any _ _).mono ?_; rintro e w' ⟨rfl, rfl⟩))
      go_ret
      refine ⟨ret_bool (by simp [partOk, h1, h2]), ?_⟩
      repeat (first | exact Below.refl _ _ | assumption | refine Below.alloc ?_ (by simp <;> omega) _ | refine Below.setCell ?_ (by simp <;> omega) _ | refine Below.drew ?_)

set_option maxHeartbeats 1000000 in
theorem specPartOk_any (p : Part) (w : World) (wf : I64 p.period) :
    Calls Try.prog 85 #[.agg #[.int .i64 p.amp, .int .i64 p.period, .int .i64 p.phase]] w fun e w' => e = .returned (.bool (partOk p)) ∧ Below w.heap.size w w' := by
  obtain ⟨a, b, c⟩ := p
  unfold I64 at wf
  cases h1 : inB a 0 1000
  · go_enter Try.func85, Try.ntmps85
    go_wp2_with (go_at_call 49; refine (l01In_any _ _ _ _).mono ?_; rintro e w' ⟨rfl, rfl⟩)
    go_ret
    refine ⟨ret_bool (by simp [partOk, h1]), ?_⟩
    repeat (first | exact Below.refl _ _ | assumption | refine Below.alloc ?_ (by simp <;> omega) _ | refine Below.setCell ?_ (by simp <;> omega) _ | refine Below.drew ?_)
  · cases h2 : inB b 4 2880
    · go_enter Try.func85, Try.ntmps85
      go_wp2_with (go_at_call 49; refine (l01In_any _ _ _ _).mono ?_; rintro e w' ⟨rfl, rfl⟩)
      go_ret
      refine ⟨ret_bool (by simp [partOk, isPer, h1, h2]), ?_⟩
      repeat (first | exact Below.refl _ _ | assumption | refine Below.alloc ?_ (by simp <;> omega) _ | refine Below.setCell ?_ (by simp <;> omega) _ | refine Below.drew ?_)
    · have hb := inB_true h2
      have hb0 : 0 ≤ b := by omega
      by_cases h3 : b % 4 = 0
      all_goals
        go_enter Try.func85, Try.ntmps85
        go_wp2_with (go_at_call 49; refine (l01In_any _ _ _ _).mono ?_; rintro e w' ⟨rfl, rfl⟩)
        go_ret
        refine ⟨ret_bool (by simp [partOk, isPer, h1, h2, h3]), ?_⟩
        repeat (first | exact Below.refl _ _ | assumption | refine Below.alloc ?_ (by simp <;> omega) _ | refine Below.setCell ?_ (by simp <;> omega) _ | refine Below.drew ?_)

end Go.Proofs.Ytmhiohijpnmcpaa
