/-
  The plain model: the first route with the least minutes. No program is in sight.
-/
import Derived.Test.YtjmfgncakegjaaaModelRt
import Derived.Test.YtjmfgncakegjaaaModelR
namespace Go.Proofs.Ytjmfgncakegjaaa

def stepB (f : List Int → Int) : Option (List Int) → List Int → Option (List Int)
  | none, r => some r
  | some b, r => some (if f r < f b then r else b)
def bestP (f : List Int → Int) (o : Option (List Int)) (res : List (List Int)) (k : Nat) : Option (List Int) := (res.take k).foldl (stepB f) o
def bestF (f : List Int → Int) (res : List (List Int)) : Option (List Int) := res.foldl (stepB f) none
section
variable {f : List Int → Int} {o : Option (List Int)} {res : List (List Int)} {k : Nat} {r b : List Int}
theorem bestP_zero : bestP f o res 0 = o := rfl
theorem bestP_succ (h : res[k]? = some r) : bestP f o res (k + 1) = stepB f (bestP f o res k) r := by
  have hl := List.getElem?_eq_some_iff.1 h
  unfold bestP
  rw [List.take_succ_eq_append_getElem hl.1, hl.2, List.foldl_append]
  rfl
theorem bestP_all : bestP f none res res.length = bestF f res := by rw [bestP, List.take_length, bestF]
theorem bestP_first {r0 : List Int} (h : res[0]? = some r0) : bestP f (some r0) res res.length = bestF f res := by
  cases res with
  | nil => simp at h
  | cons x xs =>
    simp at h
    subst h
    rw [bestP, List.take_length, bestF, List.foldl_cons, List.foldl_cons]
    show xs.foldl (stepB f) (some (if f x < f x then x else x)) = xs.foldl (stepB f) (some x)
    rw [if_neg (Int.lt_irrefl _)]
theorem bestP_yes (h : res[k]? = some r) (hb : bestP f o res k = some b) (hl : f r < f b) : bestP f o res (k + 1) = some r := by rw [bestP_succ h, hb, stepB, if_pos hl]
theorem bestP_no (h : res[k]? = some r) (hb : bestP f o res k = some b) (hl : ¬ f r < f b) : bestP f o res (k + 1) = some b := by rw [bestP_succ h, hb, stepB, if_neg hl]
theorem bestP_none (h : res[k]? = some r) (hb : bestP f o res k = none) : bestP f o res (k + 1) = some r := by rw [bestP_succ h, hb, stepB]
theorem fold_mem : ∀ (res : List (List Int)) (o : Option (List Int)) (b : List Int), res.foldl (stepB f) o = some b → b ∈ res ∨ o = some b
  | [], o, b, h => .inr h
  | r :: rs, o, b, h => by
    rw [List.foldl_cons] at h
    rcases fold_mem rs _ b h with h | h
    · exact .inl (by simp [h])
    · cases o with
      | none =>
        cases h
        exact .inl (by simp)
      | some c =>
        have h : some (if f r < f c then r else c) = some b := h
        by_cases hq : f r < f c
        · rw [if_pos hq] at h
          cases h
          exact .inl (by simp)
        · rw [if_neg hq] at h
          exact .inr h
theorem bestF_mem (h : bestF f res = some b) : b ∈ res := by
  rcases fold_mem res none b h with h | h
  · exact h
  · cases h
theorem bestF_nil : bestF f [] = none := rfl
theorem fold_some : ∀ (res : List (List Int)) (b : List Int), ∃ c, res.foldl (stepB f) (some b) = some c
  | [], b => ⟨b, rfl⟩
  | r :: rs, b => by
    rw [List.foldl_cons]
    exact fold_some rs _
theorem bestF_some (h : res ≠ []) : ∃ b, bestF f res = some b := by
  cases res with
  | nil => exact absurd rfl h
  | cons r rs => exact fold_some rs r
end

end Go.Proofs.Ytjmfgncakegjaaa
