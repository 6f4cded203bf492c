/-
  The plain model: narrower bands. No program is in sight.
-/
import Derived.Test.YtmhiohijpnmcpaaModelF
namespace Go.Proofs.Ytmhiohijpnmcpaa

section
variable {α : Type}
theorem lastI_congr {f g : α → Bool} {ps : List α} (h : ∀ p ∈ ps, f p = g p) : ∀ k, lastI f ps k = lastI g ps k
  | 0 => rfl
  | k + 1 => by
    rw [lastI, lastI, lastI_congr h k]
    cases hp : ps[k]? with
    | none => rfl
    | some p =>
      simp only [h p (List.mem_of_getElem? hp)]
end

/-- At a minute the first band lies within the second. -/
def inAt (ss ts : List Surge) (t : Int) : Bool := !(decide ((surgeV ss t).low < (surgeV ts t).low) || decide ((surgeV ts t).high < (surgeV ss t).high))
def narI (ss ts : List Surge) : Bool := (ss ++ ts).all fun s => inAt ss ts s.frm
def narS (ss ts : List Surge) : Bool := (List.range 2881).all fun k => inAt ss ts (k : Int)
/-- The least of the later minutes: the last minute from which a surge counts. -/
def lastFrm (m : Int) : List Surge → Int
  | [] => 0
  | s :: ss => if s.frm ≤ m then max s.frm (lastFrm m ss) else lastFrm m ss
theorem lastFrm_spec {m : Int} (hm : 0 ≤ m) : ∀ ss : List Surge, 0 ≤ lastFrm m ss ∧ lastFrm m ss ≤ m ∧ (lastFrm m ss = 0 ∨ ∃ s ∈ ss, s.frm = lastFrm m ss) ∧ ∀ s ∈ ss, s.frm ≤ m → s.frm ≤ lastFrm m ss
  | [] => ⟨Int.le_refl _, hm, .inl rfl, fun s h => by cases h⟩
  | s :: ss => by
    obtain ⟨h0, h1, h2, h3⟩ := lastFrm_spec hm ss
    unfold lastFrm
    split
    · rename_i hs
      refine ⟨by omega, by omega, ?_, fun t ht hl => ?_⟩
      · by_cases h : s.frm ≤ lastFrm m ss
        · rcases h2 with h2 | ⟨t, ht, e⟩
          · left
            omega
          · right
            exact ⟨t, List.mem_cons_of_mem _ ht, by omega⟩
        · right
          exact ⟨s, List.mem_cons_self .., by omega⟩
      · rcases List.mem_cons.1 ht with rfl | ht
        · omega
        · have := h3 t ht hl
          omega
    · rename_i hs
      refine ⟨h0, h1, ?_, fun t ht hl => ?_⟩
      · rcases h2 with h2 | ⟨t, ht, e⟩
        · exact .inl h2
        · exact .inr ⟨t, List.mem_cons_of_mem _ ht, e⟩
      · rcases List.mem_cons.1 ht with rfl | ht
        · omega
        · exact h3 t ht hl
theorem surgeV_last {ss : List Surge} {m t : Int} (h : ∀ s ∈ ss, s.frm ≤ m ↔ s.frm ≤ t) : surgeV ss m = surgeV ss t := by
  unfold surgeV surgeIx
  rw [lastI_congr (g := atB t) fun s hs => ?_]
  unfold atB
  rw [decide_eq_decide]
  exact h s hs
theorem nar_eq {m n : Int} {ps qs : List Part} {ss ts : List Surge} (h : foreOk m ps ss = true) (h' : foreOk n qs ts = true) : narI ss ts = narS ss ts := by
  rw [Bool.eq_iff_iff]
  unfold narI narS
  rw [List.all_eq_true, List.all_eq_true]
  constructor
  · intro ha k hk
    obtain ⟨h0, h1, h2, h3⟩ := lastFrm_spec (m := (k : Int)) (by omega) (ss ++ ts)
    have e1 : surgeV ss k = surgeV ss (lastFrm k (ss ++ ts)) := surgeV_last fun s hs => ⟨fun hl => h3 s (List.mem_append_left _ hs) hl, fun hl => by omega⟩
    have e2 : surgeV ts k = surgeV ts (lastFrm k (ss ++ ts)) := surgeV_last fun s hs => ⟨fun hl => h3 s (List.mem_append_right _ hs) hl, fun hl => by omega⟩
    have e3 : inAt ss ts k = inAt ss ts (lastFrm k (ss ++ ts)) := by unfold inAt; rw [e1, e2]
    rw [e3]
    rcases h2 with h2 | ⟨s, hs, e⟩
    · have hl := (foreOk_len h).1
      have hz : ss[0]? = some (ss[0]'(by omega)) := List.getElem?_eq_getElem (by omega)
      have := ha _ (List.mem_append_left _ (List.mem_of_getElem? hz))
      rw [foreOk_zero h hz] at this
      rw [h2]
      exact this
    · rw [← e]
      exact ha s hs
  · intro ha s hs
    have hb : 0 ≤ s.frm ∧ s.frm ≤ 2880 := by
      rcases List.mem_append.1 hs with hs | hs
      · obtain ⟨k, hk⟩ := List.getElem?_of_mem hs
        exact (surgeOk_true (foreOk_mem h hk)).1
      · obtain ⟨k, hk⟩ := List.getElem?_of_mem hs
        exact (surgeOk_true (foreOk_mem h' hk)).1
    have := ha s.frm.toNat (by simp; omega)
    rwa [Int.toNat_of_nonneg hb.1] at this

def narF (m n : Int) (ps qs : List Part) (ss ts : List Surge) : Bool := foreOk m ps ss && (foreOk n qs ts && (sameB m n ps qs && narS ss ts))
theorem inAt_bad {ss ts : List Surge} {t : Int} {s r : Surge} (hs : surgeV ss t = s) (hr : surgeV ts t = r) (h : s.low < r.low ∨ r.high < s.high) : inAt ss ts t = false := by
  unfold inAt
  rw [hs, hr]
  simp
  omega
theorem inAt_good {ss ts : List Surge} {t : Int} {s r : Surge} (hs : surgeV ss t = s) (hr : surgeV ts t = r) (h : ¬ s.low < r.low) (h' : ¬ r.high < s.high) : inAt ss ts t = true := by
  unfold inAt
  rw [hs, hr]
  simp
  omega
theorem narS_bad {ss ts : List Surge} {k : Nat} (hk : k ≤ 2880) (h : inAt ss ts k = false) : narS ss ts = false := by
  unfold narS
  rw [List.all_eq_false]
  exact ⟨k, by simp; omega, by rw [h]; exact Bool.false_ne_true⟩
theorem narS_good {ss ts : List Surge} (h : ∀ k : Nat, k < 2881 → inAt ss ts k = true) : narS ss ts = true := by
  unfold narS
  rw [List.all_eq_true]
  intro k hk
  exact h k (by simpa using hk)
theorem narI_bad {ss ts : List Surge} {k : Nat} {s : Surge} (hk : (ss ++ ts)[k]? = some s) (h : inAt ss ts s.frm = false) : narI ss ts = false := by
  unfold narI
  rw [List.all_eq_false]
  exact ⟨s, List.mem_of_getElem? hk, by rw [h]; exact Bool.false_ne_true⟩
theorem narI_good {ss ts : List Surge} (h : ∀ (k : Nat) (s : Surge), (ss ++ ts)[k]? = some s → inAt ss ts s.frm = true) : narI ss ts = true := by
  unfold narI
  rw [List.all_eq_true]
  intro s hs
  obtain ⟨k, hk⟩ := List.getElem?_of_mem hs
  exact h k s hk

end Go.Proofs.Ytmhiohijpnmcpaa
