/-
  A call that hands back a slice of its own, with its capacity.
-/
import Derived.Test.YtfdmkbdcabedoaaDoorSlc
namespace Go.Proofs.YtfdmkbdcabedoaaDoor
open Go.RowKit

def ResSlC {α : Type} (t : TypeId) (enc : α → Nat → Value) (size : Nat) (res : List α) (w : World) (e : Ending) (w' : World) : Prop :=
  ∃ A c, e = .returned (.slice A res.length c) ∧ res.length ≤ c ∧ Sl w' w.heap.size w'.heap.size A t enc size res ∧ Below w.heap.size w w'
section
variable {α : Type} {w w' : World} {base size lo hi : Nat} {e t : TypeId} {enc : α → Nat → Value} {ps res : List α} {v : Value} {A : Option Addr} {c : Nat}
theorem Sl.of_own_cap (h : w.ownsRow base e size v ps.length (flat enc size ps)) : ∃ A c, v = .slice A ps.length c ∧ ps.length ≤ c ∧ Sl w base w.heap.size A e enc size ps := by
  obtain ⟨A, c, hv, hsl⟩ := Sl.of_own h
  refine ⟨A, c, hv, ?_, hsl⟩
  rcases h.2 with ⟨h1, h2⟩ | ⟨g, cap, cur, h1, h2, h3, h4, _⟩
  · rw [h2]
    exact Nat.zero_le _
  · rw [hv] at h1
    cases h1
    exact h4
theorem ResSlC.mk_ {en : Ending} (h : res = ps) (he : en = .returned (.slice A ps.length c)) (hc : ps.length ≤ c) (hs : Sl w' w.heap.size w'.heap.size A t enc size ps) (hb : Below w.heap.size w w') : ResSlC t enc size res w en w' := by
  subst h
  exact ⟨A, c, he, hc, hs, hb⟩
theorem ResSlC.plain {en : Ending} (h : ResSlC t enc size res w en w') : ResSl t enc size res w en w' := by
  obtain ⟨A, c, he, _, hs, hb⟩ := h
  exact ⟨A, c, he, hs, hb⟩
theorem Sl.dropLast (h : Sl w lo hi A t enc size ps) : Sl w lo hi A t enc size ps.dropLast := by
  rcases h with ⟨h1, h2⟩ | ⟨g, h1, h2, h3, cs, hb, hf⟩
  · subst h2
    exact .inl ⟨h1, rfl⟩
  · refine .inr ⟨g, h1, h2, h3, cs, hb, ?_, fun i x hi hx j hj => ?_⟩
    · rw [List.length_dropLast]
      exact Nat.le_trans (Nat.mul_le_mul_right _ (Nat.sub_le _ _)) hf.1
    · rw [List.length_dropLast] at hi
      rw [List.getElem?_dropLast, if_pos hi] at hx
      exact hf.2 i x (by omega) hx j hj
end

end Go.Proofs.YtfdmkbdcabedoaaDoor
