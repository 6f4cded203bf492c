/-
  The plain model: surges and forecasts. No program is in sight.
-/
import Derived.Test.YtmhiohijpnmcpaaModel
namespace Go.Proofs.Ytmhiohijpnmcpaa

/-- A surge from a minute on. -/
structure Surge where
  frm : Int
  low : Int
  high : Int
def Surge.at_ (p : Surge) : Nat → Value
  | 0 => .int .i64 p.frm
  | 1 => .int .i64 p.low
  | _ => .int .i64 p.high
def Surge.wf (p : Surge) : Prop := I64 p.frm ∧ I64 p.low ∧ I64 p.high
def surgeOk (s : Surge) : Bool := inB s.frm 0 2880 && inB s.low (-500) 500 && inB s.high s.low 500
theorem surgeOk_true {s : Surge} (h : surgeOk s = true) : (0 ≤ s.frm ∧ s.frm ≤ 2880) ∧ (-500 ≤ s.low ∧ s.low ≤ s.high ∧ s.high ≤ 500) := by
  unfold surgeOk at h
  rw [Bool.and_eq_true, Bool.and_eq_true] at h
  have h1 := inB_true h.1.1
  have h2 := inB_true h.1.2
  have h3 := inB_true h.2
  omega
def IsSurge (_ : World) (v : Value) (x : Surge) : Prop := v = .agg #[.int .i64 x.frm, .int .i64 x.low, .int .i64 x.high] ∧ x.wf

end Go.Proofs.Ytmhiohijpnmcpaa
