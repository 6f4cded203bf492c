/-
  The plain model: the windows of all other minutes. No program is in sight.
-/
import Derived.Test.YtmhiohijpnmcpaaModelW
namespace Go.Proofs.Ytmhiohijpnmcpaa

/-- What lies between the windows, from the minute at on. -/
def gapsL (at_ : Int) : List Window → List Window
  | [] => []
  | p :: ps => if at_ < p.frm then ⟨at_, p.frm - 1⟩ :: gapsL (p.to_ + 1) ps else gapsL (p.to_ + 1) ps
def lastW : Window := ⟨2881, 2881⟩
def gapsF (ps : List Window) : List Window := if windowsOk ps = true then gapsL 0 (ps ++ [lastW]) else []
theorem gapsL_hit {at_ : Int} {qs : List Window} {p : Window} {k : Nat} {b acc : List Window} (h : b = acc ++ gapsL at_ (qs.drop k)) (hp : qs[k]? = some p) (hl : at_ < p.frm) : b = (acc ++ [⟨at_, p.frm - 1⟩]) ++ gapsL (p.to_ + 1) (qs.drop (k + 1)) := by
  have hk : k < qs.length := (List.getElem?_eq_some_iff.1 hp).1
  have hv : qs[k] = p := (List.getElem?_eq_some_iff.1 hp).2
  rw [h, List.drop_eq_getElem_cons hk, hv]
  simp [gapsL, hl]
theorem gapsL_miss {at_ : Int} {qs : List Window} {p : Window} {k : Nat} {b acc : List Window} (h : b = acc ++ gapsL at_ (qs.drop k)) (hp : qs[k]? = some p) (hl : ¬ at_ < p.frm) : b = acc ++ gapsL (p.to_ + 1) (qs.drop (k + 1)) := by
  have hk : k < qs.length := (List.getElem?_eq_some_iff.1 hp).1
  have hv : qs[k] = p := (List.getElem?_eq_some_iff.1 hp).2
  rw [h, List.drop_eq_getElem_cons hk, hv]
  simp [gapsL, hl]
theorem gapsL_done {at_ : Int} {qs : List Window} {b acc : List Window} {k : Nat} (h : b = acc ++ gapsL at_ (qs.drop k)) (hk : qs.length ≤ k) : b = acc := by
  rw [h, List.drop_of_length_le hk]
  simp [gapsL]
/-- At the sentinel. -/
theorem gapsL_last {at_ : Int} {ps : List Window} {b acc : List Window} (h : b = acc ++ gapsL at_ ((ps ++ [lastW]).drop ps.length)) : (at_ ≤ 2880 → b = acc ++ [⟨at_, 2880⟩]) ∧ (¬ at_ ≤ 2880 → b = acc) := by
  rw [List.drop_left] at h
  constructor
  · intro h1
    rw [h]
    have : at_ < 2881 := by omega
    simp [gapsL, lastW, this]
  · intro h1
    rw [h]
    have : ¬ at_ < 2881 := by omega
    simp [gapsL, lastW, this]
theorem gapsL_le : ∀ (qs : List Window) (at_ : Int), (gapsL at_ qs).length ≤ qs.length
  | [], _ => by simp [gapsL]
  | p :: qs, at_ => by
    have := gapsL_le qs (p.to_ + 1)
    unfold gapsL
    split <;> simp <;> omega
theorem gapsF_le (ps : List Window) : (gapsF ps).length ≤ ps.length + 1 := by
  unfold gapsF
  split
  · have := gapsL_le (ps ++ [lastW]) 0
    simpa using this
  · simp
theorem winsB_len : ∀ (ps : List Window) (lo : Int), winsB lo ps = true → lo + 2 * (ps.length : Int) ≤ 2882 ∨ ps = []
  | [], _, _ => .inr rfl
  | p :: ps, lo, h => by
    simp [winsB] at h
    rcases winsB_len ps (p.to_ + 2) h.2.2.2 with h1 | h1
    · left
      simp only [List.length_cons]
      omega
    · subst h1
      left
      simp
      omega
theorem windowsOk_len {ps : List Window} (h : windowsOk ps = true) : ps.length ≤ 1441 := by
  rcases winsB_len ps 0 h with h1 | h1
  · omega
  · subst h1
    simp
theorem gapsF_small (ps : List Window) : (gapsF ps).length ≤ 1442 := by
  cases h : windowsOk ps
  · simp [gapsF, h]
  · have := gapsF_le ps
    have := windowsOk_len h
    omega

end Go.Proofs.Ytmhiohijpnmcpaa
