/-
  The plain model: gathered windows, complements and intersections are exact. No program is in sight.
-/
import Derived.Test.YtmhiohijpnmcpaaModelG
import Derived.Test.YtmhiohijpnmcpaaModelV
import Derived.Test.YtmhiohijpnmcpaaModelZ
namespace Go.Proofs.Ytmhiohijpnmcpaa

theorem hasMin_append (ps qs : List Window) (m : Int) : hasMin (ps ++ qs) m = (hasMin ps m || hasMin qs m) := by
  simp [hasMin]
theorem winsB_add {p : Window} : ∀ (ps : List Window) (lo : Int), winsB lo ps = true → (∀ q ∈ ps, q.to_ + 2 ≤ p.frm) → lo ≤ p.frm → p.frm ≤ p.to_ → p.to_ ≤ 2880 → winsB lo (ps ++ [p]) = true
  | [], lo, _, _, h1, h2, h3 => by simp [winsB, h1, h2, h3]
  | q :: ps, lo, h, ha, h1, h2, h3 => by
    simp [winsB] at h
    have hq := ha q (List.mem_cons_self ..)
    have := winsB_add ps (q.to_ + 2) h.2.2.2 (fun r hr => ha r (List.mem_cons_of_mem _ hr)) hq h2 h3
    rw [List.cons_append, winsB, this]
    simp [h.1, h.2.1, h.2.2.1]
theorem winsB_init {p : Window} : ∀ (ps : List Window) (lo : Int), winsB lo (ps ++ [p]) = true → winsB lo ps = true ∧ (∀ q ∈ ps, q.to_ + 2 ≤ p.frm) ∧ lo ≤ p.frm
  | [], lo, h => by
    simp [winsB] at h
    exact ⟨rfl, (fun q hq => by cases hq), h.1⟩
  | q :: ps, lo, h => by
    rw [List.cons_append] at h
    obtain ⟨h1, h2, h3, h4⟩ := winsB_parts h
    obtain ⟨i1, i2, i3⟩ := winsB_init ps (q.to_ + 2) h4
    refine ⟨by rw [winsB, i1]; simp; omega, fun r hr => ?_, by omega⟩
    rcases List.mem_cons.1 hr with rfl | hr
    · exact i3
    · exact i2 r hr
/-- G1 -/
theorem winsOf_ok (f : Nat → Bool) : ∀ n, n ≤ 2881 → windowsOk (winsOf f n) = true
  | 0, _ => rfl
  | n + 1, hn => by
    have ih := winsOf_ok f n (by omega)
    cases hf : f n
    · rw [winsOf_off hf]
      exact ih
    · cases hp : prevB f n
      · rw [winsOf_new hf hp]
        exact winsB_add _ _ ih (fun q hq => by have := winsOf_gap f n hp q hq; dsimp only; omega) (by dsimp only; omega) (by dsimp only; omega) (by dsimp only; omega)
      · obtain ⟨acc, a, e, ha⟩ := winsOf_last f n hp
        rw [winsOf_ext hf hp, e, extW_snoc]
        rw [e] at ih
        obtain ⟨i1, i2, i3⟩ := winsB_init acc 0 ih
        exact winsB_add _ _ i1 (fun q hq => i2 q hq) i3 (by dsimp only; omega) (by dsimp only; omega)
/-- G2 -/
theorem winsOf_has (f : Nat → Bool) : ∀ n (m : Nat), hasMin (winsOf f n) m = (decide (m < n) && f m)
  | 0, m => by simp [winsOf, hasMin]
  | n + 1, m => by
    have ih := winsOf_has f n m
    cases hf : f n
    · rw [winsOf_off hf, ih]
      by_cases e : m = n
      · subst e
        simp [hf]
      · rw [show decide (m < n + 1) = decide (m < n) by simp; omega]
    · cases hp : prevB f n
      · rw [winsOf_new hf hp, hasMin_append, ih, hasMin_cons]
        by_cases e : m = n
        · subst e
          rw [inB_mk (n := (m : Int)) (lo := (m : Int)) (hi := (m : Int)) (by omega), hf]
          simp
        · rw [inB_no (n := (m : Int)) (lo := (n : Int)) (hi := (n : Int)) (by omega), show decide (m < n + 1) = decide (m < n) by simp; omega]
          simp [hasMin]
      · obtain ⟨acc, a, e, ha⟩ := winsOf_last f n hp
        rw [e, hasMin_append, hasMin_cons] at ih
        rw [winsOf_ext hf hp, e, extW_snoc, hasMin_append, hasMin_cons]
        by_cases e : m = n
        · subst e
          rw [inB_mk (n := (m : Int)) (lo := a) (hi := (m : Int)) (by omega), hf]
          simp
        · rw [show inB (m : Int) a (n : Int) = inB (m : Int) a ((n : Int) - 1) by unfold inB; congr 1; simp; omega, ih, show decide (m < n + 1) = decide (m < n) by simp; omega]
theorem gather_ok (ps : List Window) : windowsOk (gatherF ps) = true := winsOf_ok _ 2881 (Nat.le_refl _)
theorem gather_has (ps : List Window) {m : Nat} (hm : m ≤ 2880) : hasMin (gatherF ps) m = hasMin ps m := by
  have h := winsOf_has (fun m => hasMin ps m) 2881 m
  rw [show decide (m < 2881) = true by simp; omega, Bool.true_and] at h
  exact h
/-- G3 -/
theorem gapsL_all : ∀ (ps : List Window) (lo at_ : Int), winsB lo ps = true → 0 ≤ at_ → at_ ≤ lo → at_ ≤ 2881 →
    countV ps + countV (gapsL at_ (ps ++ [lastW])) = 2881 - at_ ∧ winsB at_ (gapsL at_ (ps ++ [lastW])) = true ∧ ∀ m, at_ ≤ m → m ≤ 2880 → hasMin (gapsL at_ (ps ++ [lastW])) m = !hasMin ps m
  | [], lo, at_, _, h0, h1, h2 => by
    by_cases hl : at_ < 2881
    · have e : gapsL at_ ([] ++ [lastW]) = [⟨at_, 2880⟩] := by simp [gapsL, lastW, hl]
      rw [e]
      refine ⟨by simp [countV]; omega, by simp [winsB]; omega, fun m hm1 hm2 => ?_⟩
      rw [hasMin_cons, inB_mk (n := m) (lo := at_) (hi := 2880) (by omega)]
      rfl
    · have e : gapsL at_ ([] ++ [lastW]) = [] := by simp [gapsL, lastW, hl]
      rw [e]
      refine ⟨by simp [countV]; omega, rfl, fun m hm1 hm2 => by omega⟩
  | p :: ps, lo, at_, h, h0, h1, h2 => by
    obtain ⟨p1, p2, p3, p4⟩ := winsB_parts h
    obtain ⟨i1, i2, i3⟩ := gapsL_all ps (p.to_ + 2) (p.to_ + 1) p4 (by omega) (by omega) (by omega)
    obtain ⟨R, hR⟩ : ∃ R, R = gapsL (p.to_ + 1) (ps ++ [lastW]) := ⟨_, rfl⟩
    rw [← hR] at i1 i2 i3
    by_cases hl : at_ < p.frm
    · have e : gapsL at_ (p :: ps ++ [lastW]) = ⟨at_, p.frm - 1⟩ :: R := by rw [List.cons_append, gapsL, if_pos hl, hR]
      rw [e]
      refine ⟨by rw [countV_cons, countV_cons]; dsimp only; omega, by rw [winsB, winsB_mono i2 (by dsimp only; omega)]; simp; omega, fun m hm1 hm2 => ?_⟩
      rw [hasMin_cons, hasMin_cons]
      dsimp only
      rcases Int.lt_or_le m p.frm with hm | hm
      · rw [inB_mk (n := m) (lo := at_) (hi := p.frm - 1) (by omega), inB_no (n := m) (lo := p.frm) (hi := p.to_) (by omega), (before ps _ m p4 (by omega)).1]
        rfl
      · rw [inB_no (n := m) (lo := at_) (hi := p.frm - 1) (by omega), Bool.false_or]
        rcases Int.lt_or_le p.to_ m with hm' | hm'
        · rw [i3 m (by omega) hm2, inB_no (n := m) (lo := p.frm) (hi := p.to_) (by omega), Bool.false_or]
        · rw [(before R _ m i2 (by omega)).1, inB_mk (n := m) (lo := p.frm) (hi := p.to_) (by omega)]
          rfl
    · have e : gapsL at_ (p :: ps ++ [lastW]) = R := by rw [List.cons_append, gapsL, if_neg hl, hR]
      rw [e]
      refine ⟨by rw [countV_cons]; omega, winsB_mono i2 (by omega), fun m hm1 hm2 => ?_⟩
      rw [hasMin_cons]
      rcases Int.lt_or_le p.to_ m with hm' | hm'
      · rw [i3 m (by omega) hm2, inB_no (n := m) (lo := p.frm) (hi := p.to_) (by omega), Bool.false_or]
      · rw [(before R _ m i2 (by omega)).1, inB_mk (n := m) (lo := p.frm) (hi := p.to_) (by omega)]
        rfl
theorem gaps_all {ps : List Window} (h : windowsOk ps = true) : countV ps + countV (gapsF ps) = 2881 ∧ windowsOk (gapsF ps) = true ∧ ∀ m, 0 ≤ m → m ≤ 2880 → hasMin (gapsF ps) m = !hasMin ps m := by
  have := gapsL_all ps 0 0 h (by omega) (by omega) (by omega)
  rw [gapsF, if_pos h]
  exact ⟨by omega, this.2.1, this.2.2⟩
/-- G4 -/
theorem cutL_has (p q : Window) (m : Int) : hasMin (cutL p q) m = (inB m p.frm p.to_ && inB m q.frm q.to_) := by
  cases h1 : inB m p.frm p.to_
  · have := inB_false h1
    by_cases hc : max p.frm q.frm ≤ min p.to_ q.to_
    · rw [cutL_yes hc, hasMin_cons, inB_no (n := m) (lo := max p.frm q.frm) (hi := min p.to_ q.to_) (by omega)]
      rfl
    · rw [cutL_no hc]
      rfl
  · have b1 := inB_true h1
    cases h2 : inB m q.frm q.to_
    · have := inB_false h2
      by_cases hc : max p.frm q.frm ≤ min p.to_ q.to_
      · rw [cutL_yes hc, hasMin_cons, inB_no (n := m) (lo := max p.frm q.frm) (hi := min p.to_ q.to_) (by omega)]
        rfl
      · rw [cutL_no hc]
        rfl
    · have b2 := inB_true h2
      rw [cutL_yes (by omega), hasMin_cons, inB_mk (n := m) (lo := max p.frm q.frm) (hi := min p.to_ q.to_) (by omega)]
      rfl
theorem rowL_has (p : Window) (m : Int) : ∀ qs : List Window, hasMin (rowL p qs) m = (inB m p.frm p.to_ && hasMin qs m)
  | [] => by simp [rowL, hasMin]
  | q :: qs => by
    rw [rowL_cons, hasMin_append, cutL_has, rowL_has p m qs, hasMin_cons]
    cases inB m p.frm p.to_ <;> rfl
theorem common_has (qs : List Window) (m : Int) : ∀ ps : List Window, hasMin (commonL ps qs) m = (hasMin ps m && hasMin qs m)
  | [] => rfl
  | p :: ps => by
    rw [commonL_cons, hasMin_append, rowL_has, common_has qs m ps, hasMin_cons]
    cases inB m p.frm p.to_ <;> cases hasMin ps m <;> cases hasMin qs m <;> rfl
theorem common_ok : ∀ (ps qs : List Window) (lo lo' : Int), winsB lo ps = true → winsB lo' qs = true → 0 ≤ lo → 0 ≤ lo' → winsB (max lo lo') (commonL ps qs) = true
  | [], qs, _, _, _, _, _, _ => rfl
  | p :: ps, [], _, _, _, _, _, _ => by rw [commonL_none]; rfl
  | p :: ps, q :: qs, lo, lo', hp, hq, h0, h0' => by
    obtain ⟨p1, p2, p3, p4⟩ := winsB_parts hp
    obtain ⟨q1, q2, q3, q4⟩ := winsB_parts hq
    by_cases t : p.to_ < q.to_
    · have ih := common_ok ps (q :: qs) (p.to_ + 2) lo' p4 hq (by omega) h0'
      rw [stepA fun y hy => by have := (winsB_mem _ _ q4 (by omega) hy).1; omega]
      by_cases hc : max p.frm q.frm ≤ min p.to_ q.to_
      · rw [cutL_yes hc, List.singleton_append, winsB, winsB_mono ih (by dsimp only; omega)]
        simp
        omega
      · rw [cutL_no hc, List.nil_append]
        exact winsB_mono ih (by omega)
    · have ih := common_ok (p :: ps) qs lo (q.to_ + 2) hp q4 h0 (by omega)
      rw [stepB fun y hy => by have := (winsB_mem _ _ p4 (by omega) hy).1; omega]
      by_cases hc : max p.frm q.frm ≤ min p.to_ q.to_
      · rw [cutL_yes hc, List.singleton_append, winsB, winsB_mono ih (by dsimp only; omega)]
        simp
        omega
      · rw [cutL_no hc, List.nil_append]
        exact winsB_mono ih (by omega)
  termination_by ps qs => ps.length + qs.length
theorem common_self {ps : List Window} (h : windowsOk ps = true) : commonL ps (gapsF ps) = [] := by
  obtain ⟨_, h2, h3⟩ := gaps_all h
  have hc := common_ok ps (gapsF ps) 0 0 h h2 (by omega) (by omega)
  cases e : commonL ps (gapsF ps) with
  | nil => rfl
  | cons r rs =>
    exfalso
    rw [e] at hc
    obtain ⟨r1, r2, r3, _⟩ := winsB_parts hc
    have h4 := common_has (gapsF ps) r.frm ps
    rw [h3 r.frm (by omega) (by omega), e, hasMin_cons, inB_mk (n := r.frm) (lo := r.frm) (hi := r.to_) (by omega)] at h4
    cases hasMin ps r.frm <;> simp at h4

end Go.Proofs.Ytmhiohijpnmcpaa
