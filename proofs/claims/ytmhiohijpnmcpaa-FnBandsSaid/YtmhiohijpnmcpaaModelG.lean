/-
  The plain model: the windows of the minutes of two lists. No program is in sight.
-/
import Derived.Test.YtmhiohijpnmcpaaModelO
namespace Go.Proofs.Ytmhiohijpnmcpaa

/-- What two windows have in common. -/
def cutL (p q : Window) : List Window := if max p.frm q.frm ≤ min p.to_ q.to_ then [⟨max p.frm q.frm, min p.to_ q.to_⟩] else []
def rowL (p : Window) (qs : List Window) : List Window := qs.flatMap (cutL p)
def commonL (ps qs : List Window) : List Window := ps.flatMap fun p => rowL p qs
def commonF (ps qs : List Window) : List Window := if windowsOk ps = true ∧ windowsOk qs = true then commonL ps qs else []
theorem cutL_yes {p q : Window} (h : max p.frm q.frm ≤ min p.to_ q.to_) : cutL p q = [⟨max p.frm q.frm, min p.to_ q.to_⟩] := if_pos h
theorem cutL_no {p q : Window} (h : ¬ max p.frm q.frm ≤ min p.to_ q.to_) : cutL p q = [] := if_neg h
theorem rowL_nil (p : Window) : rowL p [] = [] := rfl
theorem rowL_cons (p q : Window) (qs : List Window) : rowL p (q :: qs) = cutL p q ++ rowL p qs := by simp [rowL]
theorem commonL_nil (qs : List Window) : commonL [] qs = [] := rfl
theorem commonL_cons (p : Window) (ps qs : List Window) : commonL (p :: ps) qs = rowL p qs ++ commonL ps qs := by simp [commonL]
theorem commonL_none : ∀ ps : List Window, commonL ps [] = []
  | [] => rfl
  | p :: ps => by rw [commonL_cons, commonL_none ps]; rfl
theorem rowL_apart {p : Window} : ∀ {qs : List Window}, (∀ y ∈ qs, p.to_ < y.frm) → rowL p qs = []
  | [], _ => rfl
  | y :: qs, h => by
    have h1 := h y (List.mem_cons_self ..)
    rw [rowL_cons, rowL_apart fun y hy => h y (List.mem_cons_of_mem _ hy), cutL_no (by omega)]
    rfl
theorem commonL_skip {q : Window} {qs : List Window} : ∀ {ps : List Window}, (∀ x ∈ ps, q.to_ < x.frm) → commonL ps (q :: qs) = commonL ps qs
  | [], _ => rfl
  | x :: ps, h => by
    have h1 := h x (List.mem_cons_self ..)
    rw [commonL_cons, commonL_cons, commonL_skip fun y hy => h y (List.mem_cons_of_mem _ hy), rowL_cons, cutL_no (by omega)]
    rfl
theorem stepA {p q : Window} {ps qs : List Window} (h : ∀ y ∈ qs, p.to_ < y.frm) : commonL (p :: ps) (q :: qs) = cutL p q ++ commonL ps (q :: qs) := by
  rw [commonL_cons, rowL_cons, rowL_apart h, List.append_nil]
theorem stepB {p q : Window} {ps qs : List Window} (h : ∀ x ∈ ps, q.to_ < x.frm) : commonL (p :: ps) (q :: qs) = cutL p q ++ commonL (p :: ps) qs := by
  rw [commonL_cons, rowL_cons, commonL_skip h, commonL_cons, List.append_assoc]
theorem winsB_drop {p : Window} : ∀ (ps : List Window) (lo : Int) (k : Nat), winsB lo ps = true → 0 ≤ lo → ps[k]? = some p → winsB (p.to_ + 2) (ps.drop (k + 1)) = true ∧ 0 ≤ p.to_ + 2
  | [], _, _, _, _, h => by simp at h
  | q :: ps, lo, 0, h, h0, hp => by
    simp at hp
    subst hp
    simp [winsB] at h
    exact ⟨h.2.2.2, by omega⟩
  | q :: ps, lo, k + 1, h, h0, hp => by
    simp [winsB] at h
    exact winsB_drop ps (q.to_ + 2) k h.2.2.2 (by omega) (by simpa using hp)
theorem windowsOk_apart {ps : List Window} {k : Nat} {p x : Window} (h : windowsOk ps = true) (hp : ps[k]? = some p) (hx : x ∈ ps.drop (k + 1)) : p.to_ + 2 ≤ x.frm := by
  have h1 := winsB_drop ps 0 k h (by omega) hp
  exact (winsB_mem _ _ h1.1 h1.2 hx).1
theorem drop_cons {α : Type} {ps : List α} {k : Nat} {p : α} (hp : ps[k]? = some p) : ps.drop k = p :: ps.drop (k + 1) := by
  have hk : k < ps.length := (List.getElem?_eq_some_iff.1 hp).1
  have hv : ps[k] = p := (List.getElem?_eq_some_iff.1 hp).2
  rw [List.drop_eq_getElem_cons hk, hv]

/-- One step of the merge: the first list goes on. -/
theorem com_a {ps qs acc : List Window} {i k : Nat} {p q : Window} {b : List Window} (h : b = acc ++ commonL (ps.drop i) (qs.drop k)) (hq : windowsOk qs = true) (hp : ps[i]? = some p) (hk : qs[k]? = some q) (hl : p.to_ < q.to_) : b = (acc ++ cutL p q) ++ commonL (ps.drop (i + 1)) (qs.drop k) := by
  rw [h, drop_cons hp, drop_cons hk, stepA fun y hy => by have := windowsOk_apart hq hk hy; omega, List.append_assoc]
theorem com_b {ps qs acc : List Window} {i k : Nat} {p q : Window} {b : List Window} (h : b = acc ++ commonL (ps.drop i) (qs.drop k)) (hq : windowsOk ps = true) (hp : ps[i]? = some p) (hk : qs[k]? = some q) (hl : ¬ p.to_ < q.to_) : b = (acc ++ cutL p q) ++ commonL (ps.drop i) (qs.drop (k + 1)) := by
  rw [h, drop_cons hp, drop_cons hk, stepB fun y hy => by have := windowsOk_apart hq hp hy; omega, List.append_assoc]
theorem com_done {ps qs acc : List Window} {i k : Nat} {b : List Window} (h : b = acc ++ commonL (ps.drop i) (qs.drop k)) (hd : ps.length ≤ i ∨ qs.length ≤ k) : b = acc := by
  rcases hd with hd | hd
  · rw [h, List.drop_of_length_le hd, commonL_nil, List.append_nil]
  · rw [h, List.drop_of_length_le hd, commonL_none, List.append_nil]
/-- One step of the nested loops. -/
theorem row_step {p q : Window} {qs acc rest : List Window} {k : Nat} {b : List Window} (h : b = acc ++ (rowL p (qs.drop k) ++ rest)) (hk : qs[k]? = some q) : b = (acc ++ cutL p q) ++ (rowL p (qs.drop (k + 1)) ++ rest) := by
  rw [h, drop_cons hk, rowL_cons]
  simp
theorem row_done {p : Window} {qs acc rest : List Window} {k : Nat} {b : List Window} (h : b = acc ++ (rowL p (qs.drop k) ++ rest)) (hk : qs.length ≤ k) : b = acc ++ rest := by
  rw [h, List.drop_of_length_le hk, rowL_nil, List.nil_append]
theorem row_open {p : Window} {ps qs acc : List Window} {i : Nat} {b : List Window} (h : b = acc ++ commonL (ps.drop i) qs) (hp : ps[i]? = some p) : b = acc ++ (rowL p (qs.drop 0) ++ commonL (ps.drop (i + 1)) qs) := by
  rw [h, drop_cons hp, commonL_cons]
  rfl
theorem cutL_le (p q : Window) : (cutL p q).length ≤ 1 := by
  unfold cutL
  split <;> simp

theorem winsB_tail {p : Window} {ps : List Window} {lo : Int} (h : winsB lo (p :: ps) = true) : winsB (p.to_ + 2) ps = true ∧ lo ≤ p.frm ∧ p.frm ≤ p.to_ := by
  simp [winsB] at h
  exact ⟨h.2.2.2, h.1, h.2.1⟩
theorem commonL_le : ∀ (ps qs : List Window) (lo lo' : Int), 0 ≤ lo → 0 ≤ lo' → winsB lo ps = true → winsB lo' qs = true → (commonL ps qs).length ≤ ps.length + qs.length
  | [], qs, _, _, _, _, _, _ => by simp [commonL_nil]
  | p :: ps, [], _, _, _, _, _, _ => by simp [commonL_none]
  | p :: ps, q :: qs, lo, lo', h0, h0', hp, hq => by
    have hp' := winsB_tail hp
    have hq' := winsB_tail hq
    have hc := cutL_le p q
    by_cases t : p.to_ < q.to_
    · have h1 := commonL_le ps (q :: qs) (p.to_ + 2) lo' (by omega) h0' hp'.1 hq
      rw [stepA fun y hy => by have := (winsB_mem _ _ hq'.1 (by omega) hy).1; omega, List.length_append]
      simp only [List.length_cons] at h1 ⊢
      omega
    · have h1 := commonL_le (p :: ps) qs lo (q.to_ + 2) h0 (by omega) hp hq'.1
      rw [stepB fun y hy => by have := (winsB_mem _ _ hp'.1 (by omega) hy).1; omega, List.length_append]
      simp only [List.length_cons] at h1 ⊢
      omega
  termination_by ps qs => ps.length + qs.length
theorem commonF_small (ps qs : List Window) : (commonF ps qs).length ≤ 2882 := by
  unfold commonF
  split
  · rename_i h
    have h1 := commonL_le ps qs 0 0 (by omega) (by omega) h.1 h.2
    have h2 := windowsOk_len h.1
    have h3 := windowsOk_len h.2
    omega
  · simp

end Go.Proofs.Ytmhiohijpnmcpaa
