/-
  The plain model: what the functions on waves and tides compute, in Lean on whole numbers and lists. No program is in sight.
-/
import Derived.Test.YtjmfgncakegjaaaBase
namespace Go.Proofs.Ytjmfgncakegjaaa

/-- A period: from 4 to 2880, a multiple of 4. -/
def isPer (p : Int) : Bool := inB p 4 2880 && decide (p % 4 = 0)
theorem isPer_true {p : Int} (h : isPer p = true) : 4 ≤ p ∧ p ≤ 2880 ∧ p % 4 = 0 := by
  unfold isPer at h
  rw [Bool.and_eq_true] at h
  have := inB_true h.1
  have h2 := h.2
  simp at h2
  omega
theorem isPer_mk {p : Int} (h1 : 4 ≤ p) (h2 : p ≤ 2880) (h3 : p % 4 = 0) : isPer p = true := by
  unfold isPer
  rw [inB_mk ⟨h1, h2⟩]
  simpa using h3
theorem isPer_no {p : Int} (h : ¬ (4 ≤ p ∧ p ≤ 2880 ∧ p % 4 = 0)) : isPer p = false := by
  cases hh : isPer p
  · rfl
  · exact absurd (isPer_true hh) h

/-- The hump of a half period: from 0 up to 10000 and back. -/
def hump (y h : Int) : Int := 40000 * y * (h - y) / (h * h)
/-- The wave of a valid period. -/
def waveV (n p : Int) : Int := if n % p < p / 2 then hump (n % p) (p / 2) else -hump (n % p - p / 2) (p / 2)
def waveF (n p : Int) : Int := if isPer p = true then waveV n p else 0

theorem hump_num {y h : Int} (h0 : 0 ≤ y) (h1 : y < h) (h2 : h ≤ 1440) :
    0 ≤ 40000 * y * (h - y) ∧ 40000 * y * (h - y) ≤ 10000 * (h * h) ∧ 1 ≤ h * h ∧ h * h ≤ 2073600 := by
  have a1 : 0 ≤ y * (h - y) := Int.mul_nonneg h0 (by omega)
  have a2 : 0 ≤ (h - 2 * y) * (h - 2 * y) := by
    rcases Int.le_total 0 (h - 2 * y) with k | k
    · exact Int.mul_nonneg k k
    · have := Int.mul_nonneg (a := -(h - 2 * y)) (b := -(h - 2 * y)) (by omega) (by omega)
      rwa [Int.neg_mul_neg] at this
  have e1 : (h - 2 * y) * (h - 2 * y) = h * h - 4 * (y * (h - y)) := by
    rw [Int.sub_mul, Int.mul_sub, Int.mul_sub, Int.mul_sub, Int.mul_assoc 2 y h, Int.mul_assoc 2 y (2 * y), Int.mul_left_comm y 2 y, Int.mul_left_comm h 2 y, Int.mul_comm h y]
    omega
  have e2 : 40000 * y * (h - y) = 40000 * (y * (h - y)) := Int.mul_assoc _ _ _
  have b1 : 1 * 1 ≤ h * h := Int.mul_le_mul (by omega) (by omega) (by omega) (by omega)
  have b2 : h * h ≤ 1440 * 1440 := Int.mul_le_mul (by omega) (by omega) (by omega) (by omega)
  omega
theorem hump_bd {y h : Int} (h0 : 0 ≤ y) (h1 : y < h) (h2 : h ≤ 1440) : 0 ≤ hump y h ∧ hump y h ≤ 10000 := by
  obtain ⟨a, b, c, _⟩ := hump_num h0 h1 h2
  unfold hump
  exact ⟨Int.ediv_nonneg a (by omega), Int.ediv_le_of_le_mul (by omega) b⟩
theorem waveV_bd {n p : Int} (hp : isPer p = true) : -10000 ≤ waveV n p ∧ waveV n p ≤ 10000 := by
  have h := isPer_true hp
  have hx := Int.emod_nonneg n (b := p) (by omega)
  have hy := Int.emod_lt_of_pos n (b := p) (by omega)
  unfold waveV
  split
  · have := hump_bd (y := n % p) (h := p / 2) (by omega) (by omega) (by omega)
    omega
  · have := hump_bd (y := n % p - p / 2) (h := p / 2) (by omega) (by omega) (by omega)
    omega
theorem waveF_bd (n p : Int) : -10000 ≤ waveF n p ∧ waveF n p ≤ 10000 := by
  unfold waveF
  split
  · exact waveV_bd ‹_›
  · omega

/-- A part of a tide. -/
structure Part where
  amp : Int
  period : Int
  phase : Int
/-- Its three cells. -/
def Part.at_ (p : Part) : Nat → Value
  | 0 => .int .i64 p.amp
  | 1 => .int .i64 p.period
  | _ => .int .i64 p.phase
/-- Its numbers are ints. -/
def Part.wf (p : Part) : Prop := I64 p.amp ∧ I64 p.period ∧ I64 p.phase
def partOk (p : Part) : Bool := inB p.amp 0 1000 && isPer p.period && inB p.phase 0 (p.period - 1)
theorem partOk_true {p : Part} (h : partOk p = true) : (0 ≤ p.amp ∧ p.amp ≤ 1000) ∧ isPer p.period = true ∧ 0 ≤ p.phase ∧ p.phase ≤ p.period - 1 := by
  unfold partOk at h
  rw [Bool.and_eq_true, Bool.and_eq_true] at h
  exact ⟨inB_true h.1.1, h.1.2, inB_true h.2⟩

def tideOk (mean : Int) (ps : List Part) : Bool := inB mean (-1000) 1000 && decide (ps.length ≤ 4) && ps.all partOk

/-- The level of a valid tide. -/
def partLevel (minute : Int) (p : Part) : Int := (p.amp * waveF (minute + p.phase) p.period).tdiv 10000
def levelV (minute : Int) (mean : Int) (ps : List Part) : Int := ps.foldl (fun s p => s + partLevel minute p) mean

end Go.Proofs.Ytjmfgncakegjaaa
