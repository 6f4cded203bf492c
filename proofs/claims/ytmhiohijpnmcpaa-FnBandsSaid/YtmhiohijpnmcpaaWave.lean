/-
  The contracts of impl.Wave and spec.Wave.
-/
import Derived.Test.YtmhiohijpnmcpaaScal
namespace Go.Proofs.Ytmhiohijpnmcpaa
open Go.RowKit

set_option maxHeartbeats 400000 in
theorem implWave_no (n p : Int) (w : World) (hp : isPer p = false) :
    Calls Try.prog 99 #[.int .i64 n, .int .i64 p] w fun e w' => e = .returned (.int .i64 0) ∧ w = w' := by
  go_enter Try.func99, Try.ntmps99
  go_wp2_with (go_at_call 101; refine (isPeriod_any _ _).mono ?_; rintro e w' ⟨rfl, rfl⟩)
  go_ret
  exact ⟨rfl, rfl⟩

/-- The remainder of a sum that Go takes twice, and the one that is taken once and mended: both are the remainder from 0 up. -/
theorem rem_cases (n p : Int) (hp : 0 < p) : n.tmod p = n % p ∨ n.tmod p = n % p - p := by
  rw [Int.tmod_eq_emod]
  split
  · left; simp
  · right; omega
theorem rem_twice (n p : Int) (hp : 0 < p) : (n.tmod p + p) % p = n % p := by
  rcases rem_cases n p hp with h | h
  · rw [h, Int.add_emod_right, Int.emod_emod]
  · rw [h, Int.sub_add_cancel, Int.emod_emod]

set_option maxHeartbeats 1000000 in
theorem implWave_yes (n p : Int) (w : World) (hp : isPer p = true) :
    Calls Try.prog 99 #[.int .i64 n, .int .i64 p] w fun e w' => e = .returned (.int .i64 (waveV n p)) ∧ w = w' := by
  have hb := isPer_true hp
  have hb1 := hb.1
  have hb2 := hb.2.1
  clear hb
  have t1 : n.tmod p < p := Int.tmod_lt_of_pos n (by omega)
  have t2 : -p < n.tmod p := Int.lt_tmod_of_pos n (by omega)
  have hx0 := Int.emod_nonneg n (b := p) (by omega)
  have hx1 := Int.emod_lt_of_pos n (b := p) (by omega)
  have e1 := rem_twice n p (by omega)
  obtain ⟨x, hx⟩ : ∃ x, n % p = x := ⟨_, rfl⟩
  rw [hx] at hx0 hx1 e1
  obtain ⟨h, hh⟩ : ∃ h, p / 2 = h := ⟨_, rfl⟩
  have hw : waveV n p = if x < h then hump x h else -hump (x - h) h := by unfold waveV; rw [hx, hh]
  have HW := Lib.hid hw
  clear hw hx
  have k4 : x < 2 * h := by have := isPer_true hp; omega
  have k1 : 2 * h ≤ p := by omega
  by_cases hlt : x < h
  · obtain ⟨a1, a2, a3, a4⟩ := hump_num hx0 hlt (by omega)
    go_enter Try.func99, Try.ntmps99
    go_wp2_with (go_at_call 101; refine (isPeriod_any _ _).mono ?_; rintro e w' ⟨rfl, rfl⟩)
    go_ret
    exact ⟨ret_int (by rw [HW.out, if_pos hlt]; rfl), rfl⟩
  · obtain ⟨a1, a2, a3, a4⟩ := hump_num (y := x - h) (h := h) (by omega) (by omega) (by omega)
    have a5 := hump_bd (y := x - h) (h := h) (by omega) (by omega) (by omega)
    unfold hump at a5
    go_enter Try.func99, Try.ntmps99
    go_wp2_with (go_at_call 101; refine (isPeriod_any _ _).mono ?_; rintro e w' ⟨rfl, rfl⟩)
    go_ret
    exact ⟨ret_int (by rw [HW.out, if_neg (by omega)]; rfl), rfl⟩

/-- impl.Wave for all arguments. -/
theorem implWave_any (n p : Int) (w : World) :
    Calls Try.prog 99 #[.int .i64 n, .int .i64 p] w fun e w' => e = .returned (.int .i64 (waveF n p)) ∧ w = w' := by
  cases hp : isPer p
  · exact (implWave_no n p w hp).mono fun e w' h => ⟨by rw [h.1]; simp [waveF, hp], h.2⟩
  · exact (implWave_yes n p w hp).mono fun e w' h => ⟨by rw [h.1]; simp [waveF, hp], h.2⟩

set_option maxHeartbeats 1000000 in
theorem specWave_no (n p : Int) (w : World) (hp : isPer p = false) :
    Calls Try.prog 91 #[.int .i64 n, .int .i64 p] w fun e w' => e = .returned (.int .i64 0) ∧ w = w' := by
  by_cases h1 : p < 4
  · go_enter Try.func91, Try.ntmps91
    go_wp2
    go_ret
    exact ⟨rfl, rfl⟩
  by_cases h2 : 2880 < p
  · go_enter Try.func91, Try.ntmps91
    go_wp2
    go_ret
    exact ⟨rfl, rfl⟩
  have h3 : ¬ p % 4 = 0 := fun h => by
    have := isPer_mk (p := p) (by omega) (by omega) h
    rw [hp] at this
    cases this
  clear hp
  go_enter Try.func91, Try.ntmps91
  go_wp2
  go_ret
  exact ⟨rfl, rfl⟩

set_option maxHeartbeats 1000000 in
theorem specWave_yes (n p : Int) (w : World) (hp : isPer p = true) :
    Calls Try.prog 91 #[.int .i64 n, .int .i64 p] w fun e w' => e = .returned (.int .i64 (waveV n p)) ∧ w = w' := by
  have hb := isPer_true hp
  have hb1 := hb.1
  have hb2 := hb.2.1
  have hb3 := hb.2.2
  clear hb
  have hx0 := Int.emod_nonneg n (b := p) (by omega)
  have hx1 := Int.emod_lt_of_pos n (b := p) (by omega)
  have e1 := rem_cases n p (by omega)
  obtain ⟨x, hx⟩ : ∃ x, n % p = x := ⟨_, rfl⟩
  rw [hx] at hx0 hx1 e1
  obtain ⟨h, hh⟩ : ∃ h, p / 2 = h := ⟨_, rfl⟩
  have hw : waveV n p = if x < h then hump x h else -hump (x - h) h := by unfold waveV; rw [hx, hh]
  have HW := Lib.hid hw
  clear hw hx hp
  have k4 : x < 2 * h := by omega
  have k1 : 2 * h ≤ p := by omega
  by_cases hlt : x < h
  · obtain ⟨a1, a2, a3, a4⟩ := hump_num hx0 hlt (by omega)
    rcases e1 with e1 | e1
    · go_enter Try.func91, Try.ntmps91
      go_wp2
      go_ret
      exact ⟨ret_int (by rw [HW.out, if_pos hlt]; rfl), rfl⟩
    · have e2 : n.tmod p + p = x := by omega
      go_enter Try.func91, Try.ntmps91
      go_wp2
      go_ret
      exact ⟨ret_int (by rw [HW.out, if_pos hlt]; rfl), rfl⟩
  · obtain ⟨a1, a2, a3, a4⟩ := hump_num (y := x - h) (h := h) (by omega) (by omega) (by omega)
    have a5 := hump_bd (y := x - h) (h := h) (by omega) (by omega) (by omega)
    unfold hump at a5
    rcases e1 with e1 | e1
    · go_enter Try.func91, Try.ntmps91
      go_wp2
      go_ret
      exact ⟨ret_int (by rw [HW.out, if_neg (by omega)]; rfl), rfl⟩
    · have e2 : n.tmod p + p = x := by omega
      go_enter Try.func91, Try.ntmps91
      go_wp2
      go_ret
      exact ⟨ret_int (by rw [HW.out, if_neg (by omega)]; rfl), rfl⟩

/-- spec.Wave for all arguments. -/
theorem specWave_any (n p : Int) (w : World) :
    Calls Try.prog 91 #[.int .i64 n, .int .i64 p] w fun e w' => e = .returned (.int .i64 (waveF n p)) ∧ w = w' := by
  cases hp : isPer p
  · exact (specWave_no n p w hp).mono fun e w' h => ⟨by rw [h.1]; simp [waveF, hp], h.2⟩
  · exact (specWave_yes n p w hp).mono fun e w' h => ⟨by rw [h.1]; simp [waveF, hp], h.2⟩

end Go.Proofs.Ytmhiohijpnmcpaa
