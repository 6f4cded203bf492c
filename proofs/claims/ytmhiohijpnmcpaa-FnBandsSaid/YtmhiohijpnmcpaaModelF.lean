/-
  The plain model: forecasts. No program is in sight.
-/
import Derived.Test.YtmhiohijpnmcpaaModelA
import Derived.Test.YtmhiohijpnmcpaaModelB
import Derived.Test.YtmhiohijpnmcpaaModelI
namespace Go.Proofs.Ytmhiohijpnmcpaa

/-- Surge k is valid and begins later than the one before it. -/
def srgF (ss : List Surge) (k : Nat) (s : Surge) : Bool := surgeOk s && (decide (k = 0) || (match ss[k - 1]? with | some q => decide (q.frm < s.frm) | none => false))
def zeroB (ss : List Surge) : Bool := match ss[0]? with | some s => decide (s.frm = 0) | none => false
def foreOk (m : Int) (ps : List Part) (ss : List Surge) : Bool := tideOk m ps && (inB ss.length 1 6 && (zeroB ss && allI (srgF ss) 0 ss))
theorem foreOk_tide {m : Int} {ps : List Part} {ss : List Surge} (h : foreOk m ps ss = true) : tideOk m ps = true := by
  unfold foreOk at h
  rw [Bool.and_eq_true] at h
  exact h.1
theorem foreOk_len {m : Int} {ps : List Part} {ss : List Surge} (h : foreOk m ps ss = true) : 1 ≤ ss.length ∧ ss.length ≤ 6 := by
  unfold foreOk at h
  simp only [Bool.and_eq_true] at h
  have := inB_true h.2.1
  omega
theorem foreOk_mem {m : Int} {ps : List Part} {ss : List Surge} (h : foreOk m ps ss = true) {k : Nat} {s : Surge} (hs : ss[k]? = some s) : surgeOk s = true := by
  unfold foreOk at h
  simp only [Bool.and_eq_true] at h
  have := allI_mem ss 0 h.2.2.2 k s hs
  unfold srgF at this
  rw [Bool.and_eq_true] at this
  exact this.1
theorem foreOk_zero {m : Int} {ps : List Part} {ss : List Surge} (h : foreOk m ps ss = true) {s : Surge} (hs : ss[0]? = some s) : s.frm = 0 := by
  unfold foreOk at h
  simp only [Bool.and_eq_true] at h
  have := h.2.2.1
  unfold zeroB at this
  rw [hs] at this
  exact of_decide_eq_true this
theorem foreOk_next {m : Int} {ps : List Part} {ss : List Surge} (h : foreOk m ps ss = true) {k : Nat} {q s : Surge} (hq : ss[k]? = some q) (hs : ss[k + 1]? = some s) : q.frm < s.frm := by
  unfold foreOk at h
  simp only [Bool.and_eq_true] at h
  have := allI_mem ss 0 h.2.2.2 (k + 1) s hs
  unfold srgF at this
  rw [Bool.and_eq_true] at this
  have h2 := this.2
  rw [show 0 + (k + 1) - 1 = k from by omega, hq] at h2
  simpa using h2

/-- The surge of a minute: the last one that begins no later. -/
def atB (minute : Int) (s : Surge) : Bool := decide (s.frm ≤ minute)
def surgeIx (ss : List Surge) (minute : Int) (k : Nat) : Nat := lastI (atB minute) ss k
def surgeV (ss : List Surge) (minute : Int) : Surge := (ss[surgeIx ss minute ss.length]?).getD ⟨0, 0, 0⟩
def surgeC (m : Int) (ps : List Part) (ss : List Surge) (minute : Int) : Bool := foreOk m ps ss && inB minute 0 2880
def lowS (m : Int) (ps : List Part) (ss : List Surge) (minute : Int) : Int := if surgeC m ps ss minute = true then (surgeV ss minute).low else 0
def highS (m : Int) (ps : List Part) (ss : List Surge) (minute : Int) : Int := if surgeC m ps ss minute = true then (surgeV ss minute).high else 0
def lowV (m : Int) (ps : List Part) (ss : List Surge) (minute : Int) : Int := levelV minute m ps + (surgeV ss minute).low
def highV (m : Int) (ps : List Part) (ss : List Surge) (minute : Int) : Int := levelV minute m ps + (surgeV ss minute).high
def lowF (m : Int) (ps : List Part) (ss : List Surge) (minute : Int) : Int := if surgeC m ps ss minute = true then lowV m ps ss minute else 0
def highF (m : Int) (ps : List Part) (ss : List Surge) (minute : Int) : Int := if surgeC m ps ss minute = true then highV m ps ss minute else 0
def bandB (m : Int) (ps : List Part) (ss : List Surge) (minute level : Int) : Bool := surgeC m ps ss minute && inB level (lowF m ps ss minute) (highF m ps ss minute)
theorem surgeV_at {ss : List Surge} {minute : Int} {k : Nat} {s : Surge} (hk : surgeIx ss minute ss.length = k) (hs : ss[k]? = some s) : surgeV ss minute = s := by
  unfold surgeV
  rw [hk, hs]
  rfl
theorem surgeIx_lt {ss : List Surge} (minute : Int) (h : 1 ≤ ss.length) {k : Nat} (hk : k ≤ ss.length) : surgeIx ss minute k < ss.length := lastI_lt _ (by omega) k hk
theorem surgeV_mem {m : Int} {ps : List Part} {ss : List Surge} (minute : Int) (h : foreOk m ps ss = true) : surgeOk (surgeV ss minute) = true := by
  have hl := surgeIx_lt minute (foreOk_len h).1 (Nat.le_refl _)
  have hs : ss[surgeIx ss minute ss.length]? = some (ss[surgeIx ss minute ss.length]'hl) := List.getElem?_eq_getElem hl
  rw [surgeV_at rfl hs]
  exact foreOk_mem h hs
theorem surgeV_bd {m : Int} {ps : List Part} {ss : List Surge} (minute : Int) (h : foreOk m ps ss = true) : -500 ≤ (surgeV ss minute).low ∧ (surgeV ss minute).low ≤ (surgeV ss minute).high ∧ (surgeV ss minute).high ≤ 500 := (surgeOk_true (surgeV_mem minute h)).2

end Go.Proofs.Ytmhiohijpnmcpaa
