/-
  The plain model: windows. No program is in sight.
-/
import Derived.Test.YtmhiohijpnmcpaaBase
namespace Go.Proofs.Ytmhiohijpnmcpaa

/-- Successive minutes. -/
structure Window where
  frm : Int
  to_ : Int
def Window.at_ (p : Window) : Nat → Value
  | 0 => .int .i64 p.frm
  | _ => .int .i64 p.to_
def Window.wf (p : Window) : Prop := I64 p.frm ∧ I64 p.to_

/-- Windows from the minute lo on, in order, not touching. -/
def winsB (lo : Int) : List Window → Bool
  | [] => true
  | p :: ps => decide (lo ≤ p.frm) && (decide (p.frm ≤ p.to_) && (decide (p.to_ ≤ 2880) && winsB (p.to_ + 2) ps))
def windowsOk (ps : List Window) : Bool := winsB 0 ps

/-- Where the walk over the windows stands: k of them are right, the next may begin at lo. -/
def WokRel (ps : List Window) (k : Nat) (lo : Int) : Prop :=
  windowsOk ps = winsB lo (ps.drop k) ∧ ((k = 0 ∧ lo = 0) ∨ ∃ q, 0 < k ∧ ps[k - 1]? = some q ∧ lo = q.to_ + 2 ∧ 0 ≤ q.to_ ∧ q.to_ ≤ 2880)
theorem WokRel.start (ps : List Window) : WokRel ps 0 0 := ⟨rfl, .inl ⟨rfl, rfl⟩⟩
theorem WokRel.lo0 {ps : List Window} {k : Nat} {lo : Int} (h : WokRel ps k lo) : 0 ≤ lo := by
  rcases h.2 with ⟨_, rfl⟩ | ⟨q, _, _, rfl, h1, _⟩ <;> omega
theorem WokRel.bad {ps : List Window} {k : Nat} {lo : Int} {p : Window} (h : WokRel ps k lo) (hp : ps[k]? = some p) (hn : p.frm < lo ∨ p.to_ < p.frm ∨ 2880 < p.to_) : windowsOk ps = false := by
  have hk : k < ps.length := (List.getElem?_eq_some_iff.1 hp).1
  have hv : ps[k] = p := (List.getElem?_eq_some_iff.1 hp).2
  rw [h.1, List.drop_eq_getElem_cons hk, hv]
  rcases hn with hn | hn | hn
  · have : decide (lo ≤ p.frm) = false := by simp; omega
    simp [winsB, this]
  · have : decide (p.frm ≤ p.to_) = false := by simp; omega
    simp [winsB, this]
  · have : decide (p.to_ ≤ 2880) = false := by simp; omega
    simp [winsB, this]
theorem WokRel.next {ps : List Window} {k : Nat} {lo : Int} {p : Window} (h : WokRel ps k lo) (hp : ps[k]? = some p) (h1 : lo ≤ p.frm) (h2 : p.frm ≤ p.to_) (h3 : p.to_ ≤ 2880) : WokRel ps (k + 1) (p.to_ + 2) := by
  have hk : k < ps.length := (List.getElem?_eq_some_iff.1 hp).1
  have hv : ps[k] = p := (List.getElem?_eq_some_iff.1 hp).2
  have h0 := h.lo0
  refine ⟨?_, .inr ⟨p, by omega, by simpa using hp, rfl, by omega, h3⟩⟩
  rw [h.1, List.drop_eq_getElem_cons hk, hv]
  simp [winsB, h1, h2, h3]
theorem WokRel.done {ps : List Window} {lo : Int} (h : WokRel ps ps.length lo) : windowsOk ps = true := by
  rw [h.1, List.drop_length]
  rfl

theorem winsB_mem {p : Window} : ∀ (ps : List Window) (lo : Int), winsB lo ps = true → 0 ≤ lo → p ∈ ps → lo ≤ p.frm ∧ p.frm ≤ p.to_ ∧ p.to_ ≤ 2880
  | [], _, _, _, h => by cases h
  | q :: ps, lo, h, h0, hp => by
    simp [winsB] at h
    rcases List.mem_cons.1 hp with rfl | hp
    · exact ⟨h.1, h.2.1, h.2.2.1⟩
    · have := winsB_mem ps (q.to_ + 2) h.2.2.2 (by omega) hp
      omega
theorem windowsOk_mem {ps : List Window} {p : Window} (h : windowsOk ps = true) (hp : p ∈ ps) : 0 ≤ p.frm ∧ p.frm ≤ p.to_ ∧ p.to_ ≤ 2880 := winsB_mem ps 0 h (by omega) hp

/-- Does a minute lie in a window? -/
def hasMin (ps : List Window) (m : Int) : Bool := ps.any fun p => inB m p.frm p.to_
theorem any_none {α : Type} {f : α → Bool} {ps : List α} {k : Nat} {p : α} (h : (ps.take k).any f = false) (hp : ps[k]? = some p) (hf : f p = false) : (ps.take (k + 1)).any f = false := by
  have hl : k < ps.length := (List.getElem?_eq_some_iff.1 hp).1
  have hv : ps[k] = p := (List.getElem?_eq_some_iff.1 hp).2
  rw [List.take_succ_eq_append_getElem hl, List.any_append, h, hv]
  simp [hf]
theorem any_true {α : Type} {f : α → Bool} {ps : List α} {k : Nat} {p : α} (hp : ps[k]? = some p) (hf : f p = true) : ps.any f = true :=
  List.any_eq_true.2 ⟨p, List.mem_of_getElem? hp, hf⟩

/-- How many minutes. -/
def countV (ps : List Window) : Int := ps.foldl (fun s p => s + (p.to_ - p.frm + 1)) 0
theorem countV_next {ps : List Window} {k : Nat} {p : Window} (hp : ps[k]? = some p) : countV (ps.take (k + 1)) = countV (ps.take k) + (p.to_ - p.frm + 1) := by
  have hl : k < ps.length := (List.getElem?_eq_some_iff.1 hp).1
  have hv : ps[k] = p := (List.getElem?_eq_some_iff.1 hp).2
  unfold countV
  rw [List.take_succ_eq_append_getElem hl, List.foldl_append, hv]
  rfl
theorem countV_bd {ps : List Window} (h : windowsOk ps = true) : ∀ k, k ≤ ps.length → 0 ≤ countV (ps.take k) ∧ countV (ps.take k) ≤ 2881 * (k : Int)
  | 0, _ => by simp [countV]
  | k + 1, hk => by
    have hp : ps[k]? = some ps[k] := List.getElem?_eq_getElem (by omega)
    have h1 := countV_bd h k (by omega)
    have h2 := windowsOk_mem h (List.mem_of_getElem? hp)
    rw [countV_next hp]
    omega

def countF (ps : List Window) : Int := if windowsOk ps = true then countV ps else -1
theorem countF_ok {ps : List Window} (h : windowsOk ps = true) : countF ps = countV ps := by rw [countF, if_pos h]
theorem countF_no {ps : List Window} (h : windowsOk ps = false) : countF ps = -1 := by rw [countF, if_neg (by rw [h]; exact Bool.false_ne_true)]

/-- The least minute from m on. -/
def nextMin (ps : List Window) (m : Int) : Int := match ps.find? (fun p => decide (m ≤ p.to_)) with
  | some p => max p.frm m
  | none => -1
theorem nextMin_hit {ps : List Window} {m : Int} {k : Nat} {p : Window} (h : (ps.take k).any (fun p => decide (m ≤ p.to_)) = false) (hp : ps[k]? = some p) (hm : m ≤ p.to_) : nextMin ps m = max p.frm m := by
  have hl : k < ps.length := (List.getElem?_eq_some_iff.1 hp).1
  have hv : ps[k] = p := (List.getElem?_eq_some_iff.1 hp).2
  have hn : (ps.take k).find? (fun p => decide (m ≤ p.to_)) = none := by
    rw [List.find?_eq_none]
    intro x hx hx2
    rw [List.any_eq_false] at h
    exact h x hx hx2
  unfold nextMin
  have e : ps = ps.take k ++ ps[k] :: ps.drop (k + 1) := by simp
  have : ps.find? (fun p => decide (m ≤ p.to_)) = some p := by
    rw [e, List.find?_append, hn, hv]
    simp [hm]
  rw [this]
theorem nextMin_miss {ps : List Window} {m : Int} (h : (ps.take ps.length).any (fun p => decide (m ≤ p.to_)) = false) : nextMin ps m = -1 := by
  rw [List.take_length] at h
  have hn : ps.find? (fun p => decide (m ≤ p.to_)) = none := by
    rw [List.find?_eq_none]
    intro x hx hx2
    rw [List.any_eq_false] at h
    exact h x hx hx2
  unfold nextMin
  rw [hn]

def nextF (ps : List Window) (m : Int) : Int := if windowsOk ps = true then nextMin ps m else -1
theorem nextF_ok {ps : List Window} {m : Int} (h : windowsOk ps = true) : nextF ps m = nextMin ps m := by rw [nextF, if_pos h]
theorem nextF_no {ps : List Window} {m : Int} (h : windowsOk ps = false) : nextF ps m = -1 := by rw [nextF, if_neg (by rw [h]; exact Bool.false_ne_true)]

/-- What takes n minutes can begin in these. -/
def shrinkL (n : Int) : List Window → List Window
  | [] => []
  | p :: ps => if n ≤ p.to_ - p.frm then ⟨p.frm, p.to_ - n⟩ :: shrinkL n ps else shrinkL n ps
theorem shrinkL_hit {n : Int} {ps : List Window} {p : Window} {k : Nat} {b acc : List Window} (h : b = acc ++ shrinkL n (ps.drop k)) (hp : ps[k]? = some p) (hl : n ≤ p.to_ - p.frm) : b = (acc ++ [⟨p.frm, p.to_ - n⟩]) ++ shrinkL n (ps.drop (k + 1)) := by
  have hk : k < ps.length := (List.getElem?_eq_some_iff.1 hp).1
  have hv : ps[k] = p := (List.getElem?_eq_some_iff.1 hp).2
  rw [h, List.drop_eq_getElem_cons hk, hv]
  simp [shrinkL, hl]
theorem shrinkL_miss {n : Int} {ps : List Window} {p : Window} {k : Nat} {b acc : List Window} (h : b = acc ++ shrinkL n (ps.drop k)) (hp : ps[k]? = some p) (hl : ¬ n ≤ p.to_ - p.frm) : b = acc ++ shrinkL n (ps.drop (k + 1)) := by
  have hk : k < ps.length := (List.getElem?_eq_some_iff.1 hp).1
  have hv : ps[k] = p := (List.getElem?_eq_some_iff.1 hp).2
  rw [h, List.drop_eq_getElem_cons hk, hv]
  simp [shrinkL, hl]
theorem shrinkL_done {n : Int} {ps : List Window} {b acc : List Window} (h : b = acc ++ shrinkL n (ps.drop ps.length)) : b = acc := by
  rw [h, List.drop_length]
  simp [shrinkL]
theorem shrinkL_le (n : Int) : ∀ ps : List Window, (shrinkL n ps).length ≤ ps.length
  | [] => by simp [shrinkL]
  | x :: xs => by
    have := shrinkL_le n xs
    unfold shrinkL
    split <;> simp <;> omega
def shrinkF (ps : List Window) (n : Int) : List Window := if windowsOk ps = true ∧ inB n 0 2880 = true then shrinkL n ps else []
theorem shrinkF_le (ps : List Window) (n : Int) : (shrinkF ps n).length ≤ ps.length := by
  unfold shrinkF
  split
  · exact shrinkL_le n ps
  · simp

end Go.Proofs.Ytmhiohijpnmcpaa
