/-
  The plain model of the greatest and the least level: a scan that keeps the first of the best. No program is in sight.
-/
import Derived.Test.YtjbfpbcobpodaaaModelA
namespace Go.Proofs.Ytjbfpbcobpodaaa

/-- The minute of the best value among f, f + 1, .. f + k; s = 1 asks for the greatest, s = -1 for the least. -/
def bestAt (s : Int) (lv : Int → Int) (f : Int) : Nat → Int
  | 0 => f
  | k + 1 => if s * lv (bestAt s lv f k) < s * lv (f + k + 1) then f + k + 1 else bestAt s lv f k
theorem bestAt_in (s : Int) (lv : Int → Int) (f : Int) : ∀ k : Nat, f ≤ bestAt s lv f k ∧ bestAt s lv f k ≤ f + k
  | 0 => by simp [bestAt]
  | k + 1 => by
    have := bestAt_in s lv f k
    rw [bestAt]
    split <;> omega
theorem bestAt_yes {s : Int} {lv : Int → Int} {f : Int} {k : Nat} {m : Int} (hm : m = f + k + 1) (h : s * lv (bestAt s lv f k) < s * lv m) : bestAt s lv f (k + 1) = m := by
  subst hm
  rw [bestAt, if_pos h]
theorem bestAt_no {s : Int} {lv : Int → Int} {f : Int} {k : Nat} {m : Int} (hm : m = f + k + 1) (h : ¬ s * lv (bestAt s lv f k) < s * lv m) : bestAt s lv f (k + 1) = bestAt s lv f k := by
  subst hm
  rw [bestAt, if_neg h]
theorem bestAt_hit {s : Int} {lv : Int → Int} {f : Int} {j : Nat} {m : Int} (hm : m = f + j) (h : s * lv (bestAt s lv f (j - 1)) < s * lv m) : bestAt s lv f j = m := by
  cases j with
  | zero => simp [bestAt] at hm ⊢; omega
  | succ k => exact bestAt_yes (by omega) h
theorem bestAt_miss {s : Int} {lv : Int → Int} {f : Int} {j : Nat} {m : Int} (hm : m = f + j) (h : ¬ s * lv (bestAt s lv f (j - 1)) < s * lv m) : bestAt s lv f j = bestAt s lv f (j - 1) := by
  cases j with
  | zero => rfl
  | succ k => exact bestAt_no (by omega) h
/-- It is the best. -/
theorem bestAt_best (s : Int) (lv : Int → Int) (f : Int) : ∀ k j : Nat, j ≤ k → s * lv (f + j) ≤ s * lv (bestAt s lv f k)
  | 0, j, h => by
    have : j = 0 := by omega
    subst this
    simp [bestAt]
  | k + 1, j, h => by
    rw [bestAt]
    by_cases hj : j = k + 1
    · subst hj
      have e : f + ((k + 1 : Nat) : Int) = f + k + 1 := by omega
      rw [e]
      split <;> omega
    · have := bestAt_best s lv f k j (by omega)
      split <;> omega
/-- And the first of the best. -/
theorem bestAt_first (s : Int) (lv : Int → Int) (f : Int) : ∀ k j : Nat, j ≤ k → lv (f + j) = lv (bestAt s lv f k) → bestAt s lv f k ≤ f + j
  | 0, j, h, _ => by simp [bestAt]; omega
  | k + 1, j, h, he => by
    by_cases hlt : s * lv (bestAt s lv f k) < s * lv (f + k + 1)
    · rw [bestAt_yes rfl hlt] at he ⊢
      by_cases hj : j = k + 1
      · subst hj
        omega
      · have := bestAt_best s lv f k j (by omega)
        rw [he] at this
        omega
    · rw [bestAt_no rfl hlt] at he ⊢
      by_cases hj : j = k + 1
      · have := (bestAt_in s lv f k).2
        omega
      · exact bestAt_first s lv f k j (by omega) he

end Go.Proofs.Ytjbfpbcobpodaaa
