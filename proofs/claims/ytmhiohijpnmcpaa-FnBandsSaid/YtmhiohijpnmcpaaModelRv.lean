/-
  The plain model: a forecast after a reading. No program is in sight.
-/
import Derived.Test.YtmhiohijpnmcpaaModelY
namespace Go.Proofs.Ytmhiohijpnmcpaa

section
variable {α : Type}
theorem lastI_spec {f : α → Bool} {ps : List α} {p0 : α} (h0 : ps[0]? = some p0) (hf : f p0 = true) : ∀ k, 1 ≤ k → k ≤ ps.length →
    (∃ p, ps[lastI f ps k]? = some p ∧ f p = true) ∧ lastI f ps k < k ∧ ∀ (j : Nat) (p : α), lastI f ps k < j → j < k → ps[j]? = some p → f p = false
  | 0, h, _ => by omega
  | k + 1, _, hk => by
    obtain ⟨p, hp⟩ : ∃ p, ps[k]? = some p := ⟨_, List.getElem?_eq_getElem (show k < ps.length by omega)⟩
    by_cases hc : f p = true
    · rw [lastI_yes hp hc]
      exact ⟨⟨p, hp, hc⟩, by omega, fun j q h1 h2 _ => by omega⟩
    · have hc' : f p = false := by simpa using hc
      rw [lastI_no hp hc']
      by_cases hk0 : k = 0
      · subst hk0
        rw [h0] at hp
        cases hp
        exact absurd hf hc
      obtain ⟨h1, h2, h3⟩ := lastI_spec h0 hf k (by omega) (by omega)
      refine ⟨h1, by omega, fun j q hj hj2 hq => ?_⟩
      by_cases e : j = k
      · subst e
        rw [hp] at hq
        cases hq
        exact hc'
      · exact h3 j q hj (by omega) hq
end

/-- The surges begin one after the other. -/
def Asc (ss : List Surge) : Prop := ∀ (i j : Nat) (p q : Surge), i < j → ss[i]? = some p → ss[j]? = some q → p.frm < q.frm
theorem foreOk_asc {m : Int} {ps : List Part} {ss : List Surge} (h : foreOk m ps ss = true) : Asc ss := by
  intro i j
  induction j with
  | zero => intro p q hij; omega
  | succ j ih =>
    intro p q hij hp hq
    have hj : j < ss.length := by have := (List.getElem?_eq_some_iff.1 hq).1; omega
    obtain ⟨r, hr⟩ : ∃ r, ss[j]? = some r := ⟨_, List.getElem?_eq_getElem hj⟩
    have h1 := foreOk_next h hr hq
    by_cases e : i = j
    · subst e
      rw [hr] at hp
      cases hp
      exact h1
    · have := ih p r (by omega) hp hr
      omega

def cutS (s : Surge) (minute low high : Int) : Surge := ⟨minute, max s.low low, min s.high high⟩
/-- The surges after a reading. -/
def revL (ss : List Surge) (minute low high : Int) : List Surge :=
  ss.filter (fun s => decide (s.frm < minute)) ++ cutS (surgeV ss minute) minute low high :: ss.filter (fun s => decide (minute < s.frm))
/-- The surges before the reading, as the program keeps them. -/
def preL (ss : List Surge) (k : Nat) (minute : Int) : List Surge := match ss[k]? with
  | some s => if s.frm = minute then ss.take k else ss.take (k + 1)
  | none => []
def revI (ss : List Surge) (minute low high : Int) : List Surge :=
  preL ss (surgeIx ss minute ss.length) minute ++ cutS (surgeV ss minute) minute low high :: ss.drop (surgeIx ss minute ss.length + 1)

/-- The index of the surge of a minute: it begins no later, those behind it later. -/
theorem surgeIx_spec {m : Int} {ps : List Part} {ss : List Surge} (h : foreOk m ps ss = true) {minute : Int} (hm : 0 ≤ minute) :
    ∃ s, ss[surgeIx ss minute ss.length]? = some s ∧ s.frm ≤ minute ∧ ∀ (j : Nat) (p : Surge), surgeIx ss minute ss.length < j → ss[j]? = some p → minute < p.frm := by
  have hl := (foreOk_len h).1
  obtain ⟨z, hz⟩ : ∃ z, ss[0]? = some z := ⟨_, List.getElem?_eq_getElem (by omega)⟩
  have hz0 := foreOk_zero h hz
  obtain ⟨⟨s, hs, hsf⟩, _, h3⟩ := lastI_spec (f := atB minute) hz (by unfold atB; exact decide_eq_true (by omega)) ss.length hl (Nat.le_refl _)
  refine ⟨s, hs, of_decide_eq_true hsf, fun j p hj hp => ?_⟩
  have := h3 j p hj (List.getElem?_eq_some_iff.1 hp).1 hp
  unfold atB at this
  have := of_decide_eq_false this
  omega
theorem filter_all {α : Type} {f : α → Bool} {l : List α} (h : ∀ x ∈ l, f x = true) : l.filter f = l := List.filter_eq_self.2 h
theorem filter_no {α : Type} {f : α → Bool} {l : List α} (h : ∀ x ∈ l, f x = false) : l.filter f = [] := by
  rw [List.filter_eq_nil_iff]
  intro a ha
  rw [h a ha]
  exact Bool.false_ne_true
theorem mem_take {α : Type} {l : List α} {k : Nat} {x : α} (h : x ∈ l.take k) : ∃ i, i < k ∧ l[i]? = some x := by
  obtain ⟨i, hi⟩ := List.getElem?_of_mem h
  by_cases hik : i < k
  · rw [List.getElem?_take_of_lt hik] at hi
    exact ⟨i, hik, hi⟩
  · rw [List.getElem?_eq_none (by rw [List.length_take]; omega)] at hi
    cases hi
theorem mem_drop {α : Type} {l : List α} {k : Nat} {x : α} (h : x ∈ l.drop k) : ∃ i, k ≤ i ∧ l[i]? = some x := by
  obtain ⟨i, hi⟩ := List.getElem?_of_mem h
  rw [List.getElem?_drop] at hi
  exact ⟨k + i, by omega, hi⟩
theorem revI_eq {m : Int} {ps : List Part} {ss : List Surge} (h : foreOk m ps ss = true) {minute : Int} (hm : 0 ≤ minute) (low high : Int) : revI ss minute low high = revL ss minute low high := by
  obtain ⟨s, hs, hsf, hlater⟩ := surgeIx_spec h hm
  have hasc := foreOk_asc h
  unfold revI revL preL
  generalize hk : surgeIx ss minute ss.length = k at *
  rw [hs]
  have hl : k < ss.length := (List.getElem?_eq_some_iff.1 hs).1
  have hv : ss[k] = s := (List.getElem?_eq_some_iff.1 hs).2
  have hd1 : (ss.drop (k + 1)).filter (fun s => decide (s.frm < minute)) = [] := filter_no fun x hx => by
    obtain ⟨i, hi, hx⟩ := mem_drop hx
    have := hlater i x (by omega) hx
    exact decide_eq_false (by omega)
  have hd2 : (ss.drop (k + 1)).filter (fun s => decide (minute < s.frm)) = ss.drop (k + 1) := filter_all fun x hx => by
    obtain ⟨i, hi, hx⟩ := mem_drop hx
    have := hlater i x (by omega) hx
    exact decide_eq_true (by omega)
  have ht1 : (ss.take k).filter (fun s => decide (s.frm < minute)) = ss.take k := filter_all fun x hx => by
    obtain ⟨i, hi, hx⟩ := mem_take hx
    have := hasc i k x s hi hx hs
    exact decide_eq_true (by omega)
  have ht2 : (ss.take k).filter (fun s => decide (minute < s.frm)) = [] := filter_no fun x hx => by
    obtain ⟨i, hi, hx⟩ := mem_take hx
    have := hasc i k x s hi hx hs
    exact decide_eq_false (by omega)
  have hsplit : ss = ss.take k ++ (s :: ss.drop (k + 1)) := by
    have h1 := (List.take_append_drop k ss).symm
    rwa [List.drop_eq_getElem_cons hl, hv] at h1
  have e2 : ss.filter (fun s => decide (minute < s.frm)) = ss.drop (k + 1) := by
    rw [show ss.filter (fun s => decide (minute < s.frm)) = (ss.take k ++ (s :: ss.drop (k + 1))).filter (fun s => decide (minute < s.frm)) from by rw [← hsplit], List.filter_append, List.filter_cons, ht2, hd2, if_neg (by simp; omega)]
    rfl
  have e1 : ss.filter (fun s => decide (s.frm < minute)) = if s.frm = minute then ss.take k else ss.take (k + 1) := by
    rw [show ss.filter (fun s => decide (s.frm < minute)) = (ss.take k ++ (s :: ss.drop (k + 1))).filter (fun s => decide (s.frm < minute)) from by rw [← hsplit], List.filter_append, List.filter_cons, ht1, hd1]
    by_cases e : s.frm = minute
    · rw [if_pos e, if_neg (by simp; omega)]
      simp
    · rw [if_neg e, if_pos (by simp; omega), List.take_succ_eq_append_getElem hl, hv]
  rw [e1, e2]
theorem revL_len (ss : List Surge) (minute low high : Int) : (revL ss minute low high).length ≤ ss.length + ss.length + 1 := by
  unfold revL
  rw [List.length_append, List.length_cons]
  have h1 := List.length_filter_le (fun s : Surge => decide (s.frm < minute)) ss
  have h2 := List.length_filter_le (fun s : Surge => decide (minute < s.frm)) ss
  omega

/-- What ReviseBand hands back: the parts, the surges, and whether it is one. -/
def revC (m : Int) (ps : List Part) (ss : List Surge) (minute low high : Int) : Bool := surgeC m ps ss minute && foreOk m ps (revL ss minute low high)
def revM (m : Int) (ps : List Part) (ss : List Surge) (minute low high : Int) : Int := if revC m ps ss minute low high = true then m else 0
def revP (m : Int) (ps : List Part) (ss : List Surge) (minute low high : Int) : List Part := if revC m ps ss minute low high = true then ps else []
def revS (m : Int) (ps : List Part) (ss : List Surge) (minute low high : Int) : List Surge := if revC m ps ss minute low high = true then revL ss minute low high else []
theorem revP_len (m : Int) (ps : List Part) (ss : List Surge) (minute low high : Int) : (revP m ps ss minute low high).length ≤ ps.length := by
  unfold revP
  split
  · exact Nat.le_refl _
  · exact Nat.zero_le _
theorem revS_len (m : Int) (ps : List Part) (ss : List Surge) (minute low high : Int) : (revS m ps ss minute low high).length ≤ 6 := by
  unfold revS revC
  split
  · rename_i h
    rw [Bool.and_eq_true] at h
    exact (foreOk_len h.2).2
  · exact Nat.zero_le _

end Go.Proofs.Ytmhiohijpnmcpaa
