/-
  The plain model: a route of a valid chart has at most eight points. No program is in sight.
-/
import Derived.Test.YtjmfgncakegjaaaModelP
namespace Go.Proofs.Ytjmfgncakegjaaa

def routePts (ps : List Point) (ss : List Segment) (frm : Int) (rs : List Int) : List Int := if chartOk ps ss = true then listOf (pointsF ps.length ss frm rs) else []
theorem walkR_small {n : Int} {ss : List Segment} (hseg : ∀ (k : Nat) s, ss[k]? = some s → segOk n s = true) : ∀ (rs pts : List Int) (cur : Int) (l : List Int), walkR ss pts cur rs = some l → pts.Nodup → (∀ x ∈ pts, 0 ≤ x ∧ x < n) → l.Nodup ∧ ∀ x ∈ l, 0 ≤ x ∧ x < n
  | [], pts, cur, l, h, hd, hb => by
    simp only [walkR, Option.some.injEq] at h
    subst h
    exact ⟨hd, hb⟩
  | r :: rs, pts, cur, l, h, hd, hb => by
    unfold walkR at h
    split at h
    · rename_i hi
      split at h
      · cases h
      · rename_i hx
        have hn : 0 ≤ nextV ss r cur ∧ nextV ss r cur < n := by
          have hi' : 0 ≤ r ∧ r < ss.length := by simpa [idxB] using hi
          have hs : ss[r.toNat]? = some (ss[r.toNat]'(by omega)) := List.getElem?_eq_getElem (by omega)
          have h1 := otherV_in (hseg _ _ hs) cur
          have e : nextV ss r cur = otherV (ss[r.toNat]'(by omega)) cur := by rw [nextV, hs]
          rw [e] at hx ⊢
          omega
        refine walkR_small hseg rs _ _ _ h ?_ ?_
        · rw [List.nodup_append]
          refine ⟨hd, by simp, fun a ha b hb' e => ?_⟩
          simp only [List.mem_singleton] at hb'
          rw [e, hb'] at ha
          exact hx (.inr ha)
        · intro x hm
          rcases List.mem_append.1 hm with hm | hm
          · exact hb x hm
          · simp only [List.mem_singleton] at hm
            rw [hm]
            exact hn
    · cases h
theorem routePts_le (ps : List Point) (ss : List Segment) (frm : Int) (rs : List Int) : (routePts ps ss frm rs).length ≤ 8 := by
  unfold routePts
  split
  · rename_i hok
    unfold pointsF
    split
    · rename_i hf
      have hf' : 0 ≤ frm ∧ frm < ps.length := by simpa [idxB] using hf
      have hl := (chartOk_len hok).1
      cases h : walkR ss [frm] frm rs with
      | none => simp [listOf]
      | some l =>
        have h1 := walkR_small (n := ps.length) (fun k s hs => chartOk_seg hok hs) rs [frm] frm l h (by simp) (fun x hx => by
          simp only [List.mem_singleton] at hx
          rw [hx]
          exact hf')
        have h2 : l.length ≤ ([0, 1, 2, 3, 4, 5, 6, 7] : List Int).length := h1.1.length_le_of_subset (fun x hx => by
          have := h1.2 x hx
          simp only [List.mem_cons, List.not_mem_nil]
          omega)
        exact h2
    · simp [listOf]
  · simp

end Go.Proofs.Ytjmfgncakegjaaa
