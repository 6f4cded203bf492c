/-
  The plain model: shrunk windows and the runs of minutes. No program is in sight.
-/
import Derived.Test.YtmhiohijpnmcpaaModelW
namespace Go.Proofs.Ytmhiohijpnmcpaa

theorem winsB_mono : ∀ {ps : List Window} {lo lo' : Int}, winsB lo' ps = true → lo ≤ lo' → winsB lo ps = true
  | [], _, _, _, _ => rfl
  | p :: ps, lo, lo', h, hl => by
    simp [winsB] at h ⊢
    exact ⟨by omega, h.2⟩
theorem winsB_parts {p : Window} {ps : List Window} {lo : Int} (h : winsB lo (p :: ps) = true) : lo ≤ p.frm ∧ p.frm ≤ p.to_ ∧ p.to_ ≤ 2880 ∧ winsB (p.to_ + 2) ps = true := by
  simpa [winsB] using h
theorem shrinkL_ok {n : Int} (hn : 0 ≤ n) : ∀ (ps : List Window) (lo : Int), winsB lo ps = true → winsB lo (shrinkL n ps) = true
  | [], _, _ => rfl
  | p :: ps, lo, h => by
    obtain ⟨h1, h2, h3, h4⟩ := winsB_parts h
    have ih := shrinkL_ok hn ps (p.to_ + 2) h4
    unfold shrinkL
    split
    · rw [winsB, winsB_mono ih (by dsimp only; omega)]
      simp
      omega
    · exact winsB_mono ih (by omega)
theorem count_foldl : ∀ (ps : List Window) (a : Int), ps.foldl (fun s p => s + (p.to_ - p.frm + 1)) a = a + countV ps
  | [], a => by simp [countV]
  | p :: ps, a => by
    have e : countV (p :: ps) = 0 + (p.to_ - p.frm + 1) + countV ps := by
      rw [← count_foldl ps]
      rfl
    rw [List.foldl_cons, count_foldl ps, e]
    omega
theorem countV_cons (p : Window) (ps : List Window) : countV (p :: ps) = (p.to_ - p.frm + 1) + countV ps := by
  rw [countV, List.foldl_cons, count_foldl]
  omega
theorem shrinkL_count {n : Int} (hn : 0 ≤ n) : ∀ (ps : List Window) (lo : Int), winsB lo ps = true → countV (shrinkL n ps) ≤ countV ps
  | [], _, _ => Int.le_refl _
  | p :: ps, lo, h => by
    obtain ⟨h1, h2, h3, h4⟩ := winsB_parts h
    have ih := shrinkL_count hn ps (p.to_ + 2) h4
    unfold shrinkL
    split
    · rw [countV_cons, countV_cons]
      dsimp only
      omega
    · rw [countV_cons]
      omega
/-- How many minutes follow each other from m on. -/
def runV : List Window → Int → Int
  | [], _ => 0
  | p :: ps, m => if inB m p.frm p.to_ = true then p.to_ - m + 1 else runV ps m
theorem hasMin_cons (p : Window) (ps : List Window) (m : Int) : hasMin (p :: ps) m = (inB m p.frm p.to_ || hasMin ps m) := rfl
theorem before : ∀ (ps : List Window) (lo m : Int), winsB lo ps = true → m < lo → hasMin ps m = false ∧ runV ps m = 0
  | [], _, _, _, _ => ⟨rfl, rfl⟩
  | p :: ps, lo, m, h, hm => by
    obtain ⟨h1, h2, h3, h4⟩ := winsB_parts h
    have ih := before ps (p.to_ + 2) m h4 (by omega)
    have e : inB m p.frm p.to_ = false := inB_no (by omega)
    rw [hasMin_cons, runV, e, ih.1, ih.2]
    simp
theorem behind : ∀ (ps : List Window) (m : Int), (∀ p ∈ ps, p.to_ < m) → hasMin ps m = false ∧ runV ps m = 0
  | [], _, _ => ⟨rfl, rfl⟩
  | p :: ps, m, h => by
    have ih := behind ps m fun q hq => h q (List.mem_cons_of_mem _ hq)
    have h1 := h p (List.mem_cons_self ..)
    have e : inB m p.frm p.to_ = false := inB_no (by omega)
    rw [hasMin_cons, runV, e, ih.1, ih.2]
    simp
theorem run_no : ∀ (ps : List Window) (m : Int), hasMin ps m = false → runV ps m = 0
  | [], _, _ => rfl
  | p :: ps, m, h => by
    rw [hasMin_cons, Bool.or_eq_false_iff] at h
    rw [runV, h.1, run_no ps m h.2]
    simp
theorem run_yes : ∀ (ps : List Window) (lo m : Int), winsB lo ps = true → hasMin ps m = true → runV ps m = runV ps (m + 1) + 1
  | [], _, _, _, h => by cases h
  | p :: ps, lo, m, h, hm => by
    obtain ⟨h1, h2, h3, h4⟩ := winsB_parts h
    cases e : inB m p.frm p.to_
    · rw [hasMin_cons, e, Bool.false_or] at hm
      have hb : p.to_ + 2 ≤ m := by
        rcases Int.lt_or_le m (p.to_ + 2) with hl | hl
        · rw [(before ps _ m h4 hl).1] at hm
          cases hm
        · exact hl
      have e2 : inB (m + 1) p.frm p.to_ = false := inB_no (by omega)
      rw [runV, runV, e, e2]
      simp only [Bool.false_eq_true, if_false]
      exact run_yes ps _ m h4 hm
    · have hb := inB_true e
      rw [runV, runV, e, if_pos rfl]
      by_cases hl : m + 1 ≤ p.to_
      · rw [inB_mk (n := m + 1) (lo := p.frm) (hi := p.to_) (by omega), if_pos rfl]
        omega
      · rw [inB_no (n := m + 1) (lo := p.frm) (hi := p.to_) (by omega), (before ps _ (m + 1) h4 (by omega)).2]
        simp
        omega
theorem shr_has {n : Int} (hn : 0 ≤ n) : ∀ (ps : List Window) (lo m : Int), winsB lo ps = true → hasMin (shrinkL n ps) m = decide (n < runV ps m)
  | [], _, _, _ => (decide_eq_false (by show ¬ n < 0; omega)).symm
  | p :: ps, lo, m, h => by
    obtain ⟨h1, h2, h3, h4⟩ := winsB_parts h
    have ih := shr_has hn ps (p.to_ + 2) m h4
    have hs : hasMin (shrinkL n (p :: ps)) m = (inB m p.frm (p.to_ - n) || hasMin (shrinkL n ps) m) := by
      rw [shrinkL]
      split
      · rfl
      · rename_i hc
        rw [inB_no (n := m) (lo := p.frm) (hi := p.to_ - n) (by omega), Bool.false_or]
    rw [hs]
    cases e : inB m p.frm p.to_
    · have hb := inB_false e
      rw [runV, e, inB_no (n := m) (lo := p.frm) (hi := p.to_ - n) (by omega), Bool.false_or, ih]
      simp
    · have hb := inB_true e
      have hz := (before ps _ m h4 (by omega)).2
      rw [runV, e, if_pos rfl, ih, hz, show decide (n < (0 : Int)) = false by simp; omega, Bool.or_false]
      by_cases hl : m ≤ p.to_ - n
      · rw [inB_mk (n := m) (lo := p.frm) (hi := p.to_ - n) (by omega)]
        simp
        omega
      · rw [inB_no (n := m) (lo := p.frm) (hi := p.to_ - n) (by omega)]
        simp
        omega
theorem next_cases : ∀ (ps : List Window) (lo n : Int), winsB lo ps = true → 0 ≤ n → (nextMin ps n = -1 ∧ ∀ p ∈ ps, p.to_ < n) ∨ (n ≤ nextMin ps n ∧ hasMin ps (nextMin ps n) = true ∧ (nextMin ps n = n ∨ hasMin ps n = false))
  | [], _, _, _, _ => .inl ⟨rfl, fun p h => by cases h⟩
  | p :: ps, lo, n, h, hn => by
    obtain ⟨h1, h2, h3, h4⟩ := winsB_parts h
    by_cases hl : n ≤ p.to_
    · have e : nextMin (p :: ps) n = max p.frm n := by simp [nextMin, hl]
      right
      rw [e]
      refine ⟨by omega, ?_, ?_⟩
      · rw [hasMin_cons, inB_mk (n := max p.frm n) (lo := p.frm) (hi := p.to_) (by omega)]
        rfl
      · by_cases hf : p.frm ≤ n
        · left
          omega
        · right
          rw [hasMin_cons, inB_no (n := n) (lo := p.frm) (hi := p.to_) (by omega), (before ps _ n h4 (by omega)).1]
          rfl
    · have e : nextMin (p :: ps) n = nextMin ps n := by simp [nextMin, hl]
      rw [e]
      rcases next_cases ps (p.to_ + 2) n h4 hn with ⟨a, b⟩ | ⟨a, b, c⟩
      · left
        refine ⟨a, fun q hq => ?_⟩
        rcases List.mem_cons.1 hq with rfl | hq
        · omega
        · exact b q hq
      · right
        refine ⟨a, ?_, ?_⟩
        · rw [hasMin_cons, b, Bool.or_true]
        · rcases c with c | c
          · exact .inl c
          · right
            rw [hasMin_cons, c, inB_no (n := n) (lo := p.frm) (hi := p.to_) (by omega)]
            rfl

end Go.Proofs.Ytmhiohijpnmcpaa
