/-
  Plain words on lists, element by element with the index: all, the first, the last. No program is in sight.
-/
import Derived.Test.YtjmfgncakegjaaaBase
namespace Go.Proofs.Ytjmfgncakegjaaa

section
variable {α : Type}
/-- Every element, with its index, passes. -/
def allI (f : Nat → α → Bool) (i : Nat) : List α → Bool
  | [] => true
  | x :: xs => f i x && allI f (i + 1) xs
theorem allI_at {f : Nat → α → Bool} {ps : List α} {p : α} {k : Nat} {b : Bool} (h : b = allI f k (ps.drop k)) (hp : ps[k]? = some p) : b = (f k p && allI f (k + 1) (ps.drop (k + 1))) := by
  have hl : k < ps.length := (List.getElem?_eq_some_iff.1 hp).1
  have hv : ps[k] = p := (List.getElem?_eq_some_iff.1 hp).2
  rw [h, List.drop_eq_getElem_cons hl, hv]
  rfl
theorem allI_next {f : Nat → α → Bool} {ps : List α} {p : α} {k : Nat} {b : Bool} (h : b = allI f k (ps.drop k)) (hp : ps[k]? = some p) (h1 : f k p = true) : b = allI f (k + 1) (ps.drop (k + 1)) := by
  rw [allI_at h hp, h1, Bool.true_and]
theorem allI_bad {f : Nat → α → Bool} {ps : List α} {p : α} {k : Nat} {b : Bool} (h : b = allI f k (ps.drop k)) (hp : ps[k]? = some p) (h1 : f k p = false) : b = false := by
  rw [allI_at h hp, h1, Bool.false_and]
theorem allI_done {f : Nat → α → Bool} {ps : List α} {b : Bool} (h : b = allI f ps.length (ps.drop ps.length)) : b = true := by
  rw [h, List.drop_length]
  rfl
theorem allI_mem {f : Nat → α → Bool} : ∀ (ps : List α) (i : Nat), allI f i ps = true → ∀ (j : Nat) (p : α), ps[j]? = some p → f (i + j) p = true
  | [], _, _, _, _, hp => by simp at hp
  | q :: ps, i, h, 0, p, hp => by
    simp only [allI, Bool.and_eq_true] at h
    simp at hp
    subst hp
    exact h.1
  | q :: ps, i, h, j + 1, p, hp => by
    simp only [allI, Bool.and_eq_true] at h
    have := allI_mem ps (i + 1) h.2 j p (by simpa using hp)
    rwa [show i + 1 + j = i + (j + 1) from by omega] at this

/-- The first index, from i on, of an element that passes, or -1. -/
def findI (f : α → Bool) (i : Nat) : List α → Int
  | [] => -1
  | x :: xs => if f x = true then (i : Int) else findI f (i + 1) xs
theorem findI_hit {f : α → Bool} {l : List α} {p : α} {b : Int} {k : Nat} (h : b = findI f k (l.drop k)) (hp : l[k]? = some p) (h1 : f p = true) : b = k := by
  have hl : k < l.length := (List.getElem?_eq_some_iff.1 hp).1
  have hv : l[k] = p := (List.getElem?_eq_some_iff.1 hp).2
  rw [h, List.drop_eq_getElem_cons hl, hv, findI, if_pos h1]
theorem findI_miss {f : α → Bool} {l : List α} {p : α} {b : Int} {k : Nat} (h : b = findI f k (l.drop k)) (hp : l[k]? = some p) (h1 : f p = false) : b = findI f (k + 1) (l.drop (k + 1)) := by
  have hl : k < l.length := (List.getElem?_eq_some_iff.1 hp).1
  have hv : l[k] = p := (List.getElem?_eq_some_iff.1 hp).2
  rw [h, List.drop_eq_getElem_cons hl, hv, findI, if_neg (by rw [h1]; exact Bool.false_ne_true)]
theorem findI_done {f : α → Bool} {l : List α} {b : Int} (h : b = findI f l.length (l.drop l.length)) : b = -1 := by
  rw [h, List.drop_length]
  rfl
theorem any_next {f : α → Bool} {ps : List α} {k : Nat} {p : α} (h : (ps.take k).any f = false) (hp : ps[k]? = some p) (hf : f p = false) : (ps.take (k + 1)).any f = false := by
  have hl : k < ps.length := (List.getElem?_eq_some_iff.1 hp).1
  have hv : ps[k] = p := (List.getElem?_eq_some_iff.1 hp).2
  rw [List.take_succ_eq_append_getElem hl, List.any_append, h, hv]
  simp [hf]
theorem any_hit {f : α → Bool} {ps : List α} {k i : Nat} {p : α} (hki : k < i) (hp : ps[k]? = some p) (hf : f p = true) : (ps.take i).any f = true := by
  rw [List.any_eq_true]
  refine ⟨p, ?_, hf⟩
  have : (ps.take i)[k]? = some p := by rw [List.getElem?_take_of_lt hki, hp]
  exact List.mem_of_getElem? this

/-- The last index below k of an element that passes, or 0. -/
def lastI (f : α → Bool) (ps : List α) : Nat → Nat
  | 0 => 0
  | k + 1 => if (match ps[k]? with | some p => f p | none => false) = true then k else lastI f ps k
theorem lastI_yes {f : α → Bool} {ps : List α} {k : Nat} {p : α} (hp : ps[k]? = some p) (h : f p = true) : lastI f ps (k + 1) = k := by
  simp only [lastI, hp, h, if_true]
theorem lastI_no {f : α → Bool} {ps : List α} {k : Nat} {p : α} (hp : ps[k]? = some p) (h : f p = false) : lastI f ps (k + 1) = lastI f ps k := by
  simp [lastI, hp, h]
theorem lastI_lt (f : α → Bool) {ps : List α} (h0 : 0 < ps.length) : ∀ k, k ≤ ps.length → lastI f ps k < ps.length
  | 0, _ => h0
  | k + 1, hk => by
    have := lastI_lt f h0 k (by omega)
    rw [lastI]
    by_cases hc : (match ps[k]? with | some p => f p | none => false) = true
    · rw [if_pos hc]
      omega
    · rw [if_neg hc]
      omega
end

end Go.Proofs.Ytjmfgncakegjaaa
