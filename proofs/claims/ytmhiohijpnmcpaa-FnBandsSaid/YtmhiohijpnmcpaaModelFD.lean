/-
  The plain model: forecasts as they are drawn are valid; how many minutes the windows of marks hold. No program is in sight.
-/
import Derived.Test.YtmhiohijpnmcpaaModelF
import Derived.Test.YtmhiohijpnmcpaaModelX
import Derived.Test.YtmhiohijpnmcpaaModelH
namespace Go.Proofs.Ytmhiohijpnmcpaa

theorem allI_mk {α : Type} {f : Nat → α → Bool} : ∀ (ps : List α) (i : Nat), (∀ (j : Nat) (p : α), ps[j]? = some p → f (i + j) p = true) → allI f i ps = true
  | [], _, _ => rfl
  | x :: xs, i, h => by
    rw [allI, allI_mk xs (i + 1) fun j p hp => by
      have := h (j + 1) p (by simpa using hp)
      rwa [show i + (j + 1) = i + 1 + j by omega] at this]
    have := h 0 x rfl
    rw [Nat.add_zero] at this
    rw [this]
    rfl
/-- Surges as they are drawn: the next one may begin at at_. -/
structure SG (ss : List Surge) (at_ : Int) : Prop where
  ok : ∀ (k : Nat) (s : Surge), ss[k]? = some s → surgeOk s = true
  inc : ∀ (k : Nat) (q s : Surge), ss[k]? = some q → ss[k + 1]? = some s → q.frm < s.frm
  zero : ∀ s : Surge, ss[0]? = some s → s.frm = 0
  lt : ∀ s ∈ ss, s.frm < at_
  nil_ : ss = [] → at_ = 0
  lo : 0 ≤ at_
  hi : at_ ≤ 799 * (ss.length : Int)
theorem SG.start : SG [] 0 := ⟨fun k s h => by simp at h, fun k q s h => by simp at h, fun s h => by simp at h, (fun s h => by cases h), fun _ => rfl, by omega, by simp⟩
theorem SG.snoc {ss : List Surge} {at_ low x y : Int} (h : SG ss at_) (hl : ss.length ≤ 2) (h1 : -40 ≤ low ∧ low ≤ 19) (h2 : 0 ≤ x ∧ x ≤ 59) (h3 : 0 ≤ y ∧ y ≤ 699) : SG (ss ++ [⟨at_, low, low + x⟩]) (at_ + 100 + y) := by
  have a1 := h.lo
  have a2 := h.hi
  refine ⟨fun k s hk => ?_, fun k q s hq hs => ?_, fun s hs => ?_, fun s hs => ?_, fun e => by simp at e, by omega, by simp; omega⟩
  · rcases Nat.lt_or_ge k ss.length with hk' | hk'
    · rw [List.getElem?_append_left hk'] at hk
      exact h.ok k s hk
    · rw [List.getElem?_append_right hk'] at hk
      have hz : k - ss.length = 0 := by
        rcases Nat.eq_zero_or_pos (k - ss.length) with e | e
        · exact e
        · rw [List.getElem?_eq_none (by simp; omega)] at hk
          cases hk
      rw [hz] at hk
      simp at hk
      subst hk
      unfold surgeOk
      dsimp only
      rw [inB_mk (by omega), inB_mk (by omega), inB_mk (by omega)]
      rfl
  · have hk1 : k + 1 < ss.length + 1 := by
      have := (List.getElem?_eq_some_iff.1 hs).1
      simpa using this
    rw [List.getElem?_append_left (by omega)] at hq
    rcases Nat.lt_or_ge (k + 1) ss.length with hk' | hk'
    · rw [List.getElem?_append_left hk'] at hs
      exact h.inc k q s hq hs
    · rw [List.getElem?_append_right hk', show k + 1 - ss.length = 0 by omega] at hs
      simp at hs
      subst hs
      exact h.lt q (List.mem_of_getElem? hq)
  · cases ss with
    | nil =>
      simp at hs
      subst hs
      exact h.nil_ rfl
    | cons z zs =>
      simp at hs
      subst hs
      exact h.zero _ rfl
  · rcases List.mem_append.1 hs with hs | hs
    · have := h.lt s hs
      omega
    · simp at hs
      subst hs
      dsimp only
      omega
theorem SG.fore {m : Int} {ps : List Part} {ss : List Surge} {at_ : Int} (h : SG ss at_) (ht : tideOk m ps = true) (h1 : 1 ≤ ss.length) (h6 : ss.length ≤ 6) : foreOk m ps ss = true := by
  have hz : zeroB ss = true := by
    have e : ss[0]? = some ss[0] := List.getElem?_eq_getElem (by omega)
    unfold zeroB
    rw [e]
    exact decide_eq_true (h.zero _ e)
  unfold foreOk
  rw [ht, inB_mk (by omega), hz, allI_mk ss 0 fun j p hp => ?_]
  · rfl
  · rw [Nat.zero_add]
    unfold srgF
    rw [h.ok j p hp, Bool.true_and]
    cases j with
    | zero => rfl
    | succ k =>
      have hk : k < ss.length := by
        have := (List.getElem?_eq_some_iff.1 hp).1
        omega
      have e : ss[k]? = some ss[k] := List.getElem?_eq_getElem hk
      rw [show k + 1 - 1 = k by omega, e, Bool.or_eq_true]
      right
      exact decide_eq_true (h.inc k _ _ e hp)

/-- The number of marked minutes below n. -/
def cntM (f : Nat → Bool) : Nat → Int
  | 0 => 0
  | n + 1 => cntM f n + (if f n = true then 1 else 0)
theorem countV_append : ∀ (ps qs : List Window), countV (ps ++ qs) = countV ps + countV qs
  | [], qs => by simp [countV]
  | p :: ps, qs => by
    rw [List.cons_append, countV_cons, countV_cons, countV_append ps qs]
    omega
theorem countV_one (a b : Int) : countV [⟨a, b⟩] = b - a + 1 := by simp [countV]
theorem winsOf_count (f : Nat → Bool) : ∀ n, countV (winsOf f n) = cntM f n
  | 0 => rfl
  | n + 1 => by
    have ih := winsOf_count f n
    cases hf : f n
    · rw [winsOf_off hf, cntM, hf, ih]
      simp
    · cases hp : prevB f n
      · rw [winsOf_new hf hp, countV_append, countV_one, cntM, hf, ih]
        simp
      · obtain ⟨acc, a, e, ha⟩ := winsOf_last f n hp
        rw [e, countV_append, countV_one] at ih
        rw [winsOf_ext hf hp, e, extW_snoc, countV_append, cntM, hf, ← ih]
        dsimp only
        rw [countV_one, if_pos rfl]
        omega
theorem cntM_mono {f g : Nat → Bool} (h : ∀ m, f m = true → g m = true) : ∀ n, cntM f n ≤ cntM g n
  | 0 => Int.le_refl _
  | n + 1 => by
    have ih := cntM_mono h n
    rw [cntM, cntM]
    cases hf : f n
    · simp
      split <;> omega
    · rw [h n hf]
      simp
      exact ih
theorem wet_ok (hi : Bool) (m : Int) (ps : List Part) (ss : List Surge) (level : Int) (h : foreOk m ps ss = true) : windowsOk (wetF hi m ps ss level) = true := by
  rw [wetF_ok h]
  exact winsOf_ok _ 2881 (Nat.le_refl _)
theorem wet_has (hi : Bool) (m : Int) (ps : List Part) (ss : List Surge) (level : Int) (h : foreOk m ps ss = true) {t : Nat} (ht : t ≤ 2880) : hasMin (wetF hi m ps ss level) t = decide (level ≤ endV hi m ps ss t) := by
  rw [wetF_ok h, winsOf_has, show decide (t < 2881) = true by simp; omega, Bool.true_and]
theorem wet_count (m : Int) (ps : List Part) (ss : List Surge) (level : Int) (h : foreOk m ps ss = true) : countV (wetF false m ps ss level) ≤ countV (wetF true m ps ss level) := by
  rw [wetF_ok h, wetF_ok h, winsOf_count, winsOf_count]
  refine cntM_mono (fun t ht => ?_) 2881
  have hb := surgeV_bd t h
  rw [decide_eq_true_eq] at ht ⊢
  have e1 : endV false m ps ss t = levelV t m ps + (surgeV ss t).low := rfl
  have e2 : endV true m ps ss t = levelV t m ps + (surgeV ss t).high := rfl
  omega

end Go.Proofs.Ytmhiohijpnmcpaa
