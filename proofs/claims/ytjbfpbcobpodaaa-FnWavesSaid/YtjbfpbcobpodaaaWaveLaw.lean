/-
  The plain law of waves: a wave is periodic, changes its sign after half a period, and reaches its top after a quarter. No program is in sight.
-/
import Derived.Test.YtjbfpbcobpodaaaModel
namespace Go.Proofs.Ytjbfpbcobpodaaa

theorem wave_period (n p : Int) : waveV (n + p) p = waveV n p := by
  unfold waveV
  rw [Int.add_emod_right]

theorem hump_zero (h : Int) : hump 0 h = 0 := by simp [hump]

theorem wave_zero {p : Int} (hp : isPer p = true) : waveV 0 p = 0 := by
  have := isPer_true hp
  unfold waveV
  rw [Int.zero_emod, if_pos (by omega), hump_zero]

theorem wave_quarter {p : Int} (hp : isPer p = true) : waveV (p / 4) p = 10000 := by
  have h := isPer_true hp
  obtain ⟨q, rfl⟩ : ∃ q, p = 4 * q := ⟨p / 4, by omega⟩
  have e1 : 4 * q / 4 = q := by omega
  have e2 : q % (4 * q) = q := Int.emod_eq_of_lt (by omega) (by omega)
  have e3 : 4 * q / 2 = 2 * q := by omega
  unfold waveV
  rw [e1, e2, e3, if_pos (by omega)]
  unfold hump
  have e4 : 40000 * q * (2 * q - q) = 10000 * (2 * q * (2 * q)) := by
    rw [show 2 * q - q = q from by omega, Int.mul_assoc, Int.mul_assoc 2 q (2 * q), Int.mul_left_comm q 2 q]
    omega
  have e5 : 1 * 1 ≤ 2 * q * (2 * q) := Int.mul_le_mul (by omega) (by omega) (by omega) (by omega)
  rw [e4, Int.mul_ediv_cancel _ (by omega)]

theorem wave_half {p : Int} (hp : isPer p = true) (n : Int) : waveV (n + p / 2) p = -waveV n p := by
  have h := isPer_true hp
  have hx0 := Int.emod_nonneg n (b := p) (by omega)
  have hx1 := Int.emod_lt_of_pos n (b := p) (by omega)
  obtain ⟨hh, e⟩ : ∃ hh, p = 2 * hh := ⟨p / 2, by omega⟩
  have e2 : p / 2 = hh := by omega
  have e3 : (n + hh) % p = if n % p < hh then n % p + hh else n % p - hh := by
    rw [Int.add_emod]
    have : hh % p = hh := Int.emod_eq_of_lt (by omega) (by omega)
    rw [this]
    split
    · exact Int.emod_eq_of_lt (by omega) (by omega)
    · rw [show n % p + hh = (n % p - hh) + p from by omega, Int.add_emod_right]
      exact Int.emod_eq_of_lt (by omega) (by omega)
  unfold waveV
  rw [e2, e3]
  by_cases hlt : n % p < hh
  · rw [if_pos hlt, if_pos hlt, if_neg (by omega), show n % p + hh - hh = n % p from by omega]
  · rw [if_neg hlt, if_neg hlt, if_pos (by omega), Int.neg_neg]

end Go.Proofs.Ytjbfpbcobpodaaa
