/-
  Lists without repetition of numbers below n are short.
-/
import Derived.Test.YtjmfgncakegjaaaModelRt
namespace Go.Proofs.Ytjmfgncakegjaaa

theorem nodup_le : ∀ (n : Nat) (l : List Int), l.Nodup → (∀ x ∈ l, 0 ≤ x ∧ x < (n : Int)) → l.length ≤ n
  | 0, l, _, h => by
    cases l with
    | nil => simp
    | cons x l =>
      have := h x (by simp)
      omega
  | n + 1, l, hn, h => by
    have h1 := nodup_le n (l.erase (n : Int)) (hn.erase _) (fun x hx => by
      rw [hn.mem_erase_iff] at hx
      have h2 := h x hx.2
      have h3 := hx.1
      omega)
    by_cases hm : (n : Int) ∈ l
    · rw [List.length_erase_of_mem hm] at h1
      omega
    · rw [List.erase_of_not_mem hm] at h1
      omega
theorem nodup_snoc {l : List Int} {x : Int} (h : l.Nodup) (hx : x ∉ l) : (l ++ [x]).Nodup := by
  rw [List.nodup_append]
  refine ⟨h, List.nodup_cons.2 ⟨by simp, List.nodup_nil⟩, fun a ha b hb => ?_⟩
  simp at hb
  subst hb
  intro e
  exact hx (e ▸ ha)
theorem range_snoc {n : Nat} {l : List Int} {x : Int} (h : ∀ y ∈ l, 0 ≤ y ∧ y < (n : Int)) (hx : 0 ≤ x ∧ x < (n : Int)) : ∀ y ∈ l ++ [x], 0 ≤ y ∧ y < (n : Int) := fun y hy => by
  rcases List.mem_append.1 hy with hy | hy
  · exact h y hy
  · simp at hy
    subst hy
    exact hx

end Go.Proofs.Ytjmfgncakegjaaa
