/-
  The plain model: a row of differences against a row of marks. No program is in sight.
-/
import Derived.Test.YtmhiohijpnmcpaaModelU
namespace Go.Proofs.Ytmhiohijpnmcpaa

/-- What one window adds to the row of differences at j. -/
def dW (p : Window) (j : Nat) : Int := if max p.frm 0 ≤ min p.to_ 2880 then (if max p.frm 0 = (j : Int) then 1 else 0) - (if min p.to_ 2880 + 1 = (j : Int) then 1 else 0) else 0
def dL : List Window → Nat → Int
  | [], _ => 0
  | p :: ps, j => dW p j + dL ps j
theorem dL_snoc (p : Window) (j : Nat) : ∀ ps : List Window, dL (ps ++ [p]) j = dL ps j + dW p j
  | [] => by simp [dL]
  | q :: ps => by
    rw [List.cons_append, dL, dL, dL_snoc p j ps]
    omega
theorem dW_bd (p : Window) (j : Nat) : -1 ≤ dW p j ∧ dW p j ≤ 1 := by
  unfold dW
  repeat' split
  all_goals omega
theorem dL_bd (j : Nat) : ∀ ps : List Window, -(ps.length : Int) ≤ dL ps j ∧ dL ps j ≤ (ps.length : Int)
  | [] => by simp [dL]
  | p :: ps => by
    have h1 := dW_bd p j
    have h2 := dL_bd j ps
    simp only [dL, List.length_cons]
    omega
/-- The sum of the differences below n. -/
def covN (ps : List Window) : Nat → Int
  | 0 => 0
  | n + 1 => covN ps n + dL ps n
def covP (p : Window) : Nat → Int
  | 0 => 0
  | n + 1 => covP p n + dW p n
theorem covN_nil : ∀ n, covN [] n = 0
  | 0 => rfl
  | n + 1 => by rw [covN, covN_nil n]; rfl
theorem covN_cons (p : Window) (ps : List Window) : ∀ n, covN (p :: ps) n = covP p n + covN ps n
  | 0 => rfl
  | n + 1 => by
    rw [covN, covN_cons p ps n, covP, covN, dL]
    omega
theorem covP_eq (p : Window) : ∀ n, covP p n = if max p.frm 0 ≤ min p.to_ 2880 then (if max p.frm 0 < (n : Int) then 1 else 0) - (if min p.to_ 2880 + 1 < (n : Int) then 1 else 0) else 0
  | 0 => by
    unfold covP
    repeat' split
    all_goals omega
  | n + 1 => by
    rw [covP, covP_eq p n]
    unfold dW
    repeat' split
    all_goals omega
theorem covP_in (p : Window) {m : Nat} (hm : m ≤ 2880) : covP p (m + 1) = if inB m p.frm p.to_ = true then 1 else 0 := by
  rw [covP_eq]
  cases h : inB m p.frm p.to_
  · have := inB_false h
    repeat' split
    all_goals first | omega | contradiction
  · have := inB_true h
    repeat' split
    all_goals first | omega | contradiction
theorem covN_has {m : Nat} (hm : m ≤ 2880) : ∀ ps : List Window, 0 ≤ covN ps (m + 1) ∧ (0 < covN ps (m + 1) ↔ hasMin ps m = true)
  | [] => by
    rw [covN_nil]
    simp [hasMin]
  | p :: ps => by
    have h1 := covN_has hm ps
    have h2 := covP_in p hm
    have e : hasMin (p :: ps) m = (inB m p.frm p.to_ || hasMin ps m) := rfl
    rw [covN_cons, h2, e]
    cases h : inB m p.frm p.to_
    · simp
      exact h1
    · simp
      omega
theorem covN_dec {m : Nat} (hm : m ≤ 2880) (ps : List Window) : decide (0 < covN ps (m + 1)) = hasMin ps m := by
  have h := (covN_has hm ps).2
  cases e : hasMin ps m
  · rw [e] at h
    simpa using h
  · rw [e] at h
    simpa using h
theorem covN_bd (ps : List Window) : ∀ n : Nat, -((n : Int) * ps.length) ≤ covN ps n ∧ covN ps n ≤ (n : Int) * ps.length
  | 0 => by simp [covN]
  | n + 1 => by
    have h1 := covN_bd ps n
    have h2 := dL_bd n ps
    have h3 : ((n + 1 : Nat) : Int) * ps.length = (n : Int) * ps.length + ps.length := by
      rw [Int.natCast_add, Int.add_mul]
      simp
    rw [covN, h3]
    omega
theorem covN_small {ps : List Window} (hl : ps.length ≤ 1048576) {n : Nat} (hn : n ≤ 2881) : -3020947456 ≤ covN ps n ∧ covN ps n ≤ 3020947456 := by
  have h := covN_bd ps n
  have h1 : (n : Int) * ps.length ≤ 2881 * 1048576 := Int.mul_le_mul (by omega) (by omega) (by omega) (by omega)
  omega
def gatherF (ps : List Window) : List Window := winsOf (fun m => hasMin ps m) 2881
theorem gatherF_le (ps : List Window) : (gatherF ps).length ≤ 2881 := winsOf_le _ _
theorem hasMin_snoc (ps : List Window) (p : Window) (m : Int) : hasMin (ps ++ [p]) m = (hasMin ps m || inB m p.frm p.to_) := by
  simp [hasMin]

end Go.Proofs.Ytmhiohijpnmcpaa
