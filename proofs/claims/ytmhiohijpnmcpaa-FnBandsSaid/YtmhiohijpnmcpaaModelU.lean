/-
  The plain model: the windows of the minutes that are marked. No program is in sight.
-/
import Derived.Test.YtmhiohijpnmcpaaModelW
namespace Go.Proofs.Ytmhiohijpnmcpaa

/-- Was the minute before marked? -/
def prevB (f : Nat → Bool) : Nat → Bool
  | 0 => false
  | m + 1 => f m
/-- The last window goes on to the minute m. -/
def extW (acc : List Window) (m : Int) : List Window := acc.dropLast ++ (acc.getLast?.map fun p => (⟨p.frm, m⟩ : Window)).toList
theorem extW_snoc (acc : List Window) (p : Window) (m : Int) : extW (acc ++ [p]) m = acc ++ [⟨p.frm, m⟩] := by
  simp [extW]
/-- The windows of the marked minutes below n. -/
def winsOf (f : Nat → Bool) : Nat → List Window
  | 0 => []
  | n + 1 => if f n = true then if prevB f n = true then extW (winsOf f n) n else winsOf f n ++ [⟨n, n⟩] else winsOf f n
theorem winsOf_off {f : Nat → Bool} {n : Nat} (h : f n = false) : winsOf f (n + 1) = winsOf f n := by
  rw [winsOf, if_neg (by rw [h]; exact Bool.false_ne_true)]
theorem winsOf_new {f : Nat → Bool} {n : Nat} (h : f n = true) (hp : prevB f n = false) : winsOf f (n + 1) = winsOf f n ++ [⟨n, n⟩] := by
  rw [winsOf, if_pos h, if_neg (by rw [hp]; exact Bool.false_ne_true)]
theorem winsOf_ext {f : Nat → Bool} {n : Nat} (h : f n = true) (hp : prevB f n = true) : winsOf f (n + 1) = extW (winsOf f n) n := by
  rw [winsOf, if_pos h, if_pos hp]
/-- Where the minute before was marked, the last window ends there. -/
theorem winsOf_last (f : Nat → Bool) : ∀ n, prevB f n = true → ∃ acc a, winsOf f n = acc ++ [⟨a, (n : Int) - 1⟩] ∧ (0 ≤ a ∧ a ≤ (n : Int) - 1)
  | 0, h => by cases h
  | n + 1, h => by
    have h' : f n = true := h
    cases hp : prevB f n
    · exact ⟨winsOf f n, n, by rw [winsOf_new h' hp]; simp, by omega⟩
    · obtain ⟨acc, a, e, ha⟩ := winsOf_last f n hp
      exact ⟨acc, a, by rw [winsOf_ext h' hp, e, extW_snoc]; simp, by omega⟩
theorem winsOf_to (f : Nat → Bool) : ∀ n, ∀ p ∈ winsOf f n, p.to_ ≤ (n : Int) - 1 ∧ 0 ≤ p.frm ∧ p.frm ≤ p.to_
  | 0, p, h => by simp [winsOf] at h
  | n + 1, p, h => by
    cases hf : f n
    · rw [winsOf_off hf] at h
      have := winsOf_to f n p h
      omega
    · cases hp : prevB f n
      · rw [winsOf_new hf hp] at h
        rcases List.mem_append.1 h with h | h
        · have := winsOf_to f n p h
          omega
        · simp at h
          subst h
          simp
      · obtain ⟨acc, a, e, ha⟩ := winsOf_last f n hp
        rw [winsOf_ext hf hp, e, extW_snoc] at h
        rcases List.mem_append.1 h with h | h
        · have := winsOf_to f n p (by rw [e]; exact List.mem_append_left _ h)
          omega
        · simp at h
          subst h
          simp
          omega
/-- Where it was not, no window ends there. -/
theorem winsOf_gap (f : Nat → Bool) : ∀ n, prevB f n = false → ∀ p ∈ winsOf f n, p.to_ < (n : Int) - 1
  | 0, _, p, h => by simp [winsOf] at h
  | n + 1, hn, p, h => by
    have hf : f n = false := hn
    rw [winsOf_off hf] at h
    have := (winsOf_to f n p h).1
    omega
theorem winsOf_le (f : Nat → Bool) : ∀ n, (winsOf f n).length ≤ n
  | 0 => by simp [winsOf]
  | n + 1 => by
    have hl := winsOf_le f n
    cases hf : f n
    · rw [winsOf_off hf]
      omega
    · cases hp : prevB f n
      · rw [winsOf_new hf hp]
        simp
        omega
      · obtain ⟨acc, a, e, ha⟩ := winsOf_last f n hp
        rw [e] at hl
        rw [winsOf_ext hf hp, e, extW_snoc]
        simp at hl ⊢
        omega
theorem winsOf_congr {f g : Nat → Bool} : ∀ n, (∀ m, m < n → f m = g m) → winsOf f n = winsOf g n
  | 0, _ => rfl
  | n + 1, h => by
    have h1 := winsOf_congr n fun m hm => h m (by omega)
    have h2 := h n (by omega)
    have h3 : prevB f n = prevB g n := by
      cases n with
      | zero => rfl
      | succ k => exact h k (by omega)
    rw [winsOf, winsOf, h1, h2, h3]

end Go.Proofs.Ytmhiohijpnmcpaa
