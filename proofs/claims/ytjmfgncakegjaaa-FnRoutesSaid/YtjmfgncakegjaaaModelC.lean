/-
  The plain model: points, segments and charts. No program is in sight.
-/
import Derived.Test.YtjmfgncakegjaaaModelT
import Derived.Test.YtjmfgncakegjaaaModelI
namespace Go.Proofs.Ytjmfgncakegjaaa

structure Point where
  name : ByteArray
  wait : Bool
def Point.at_ (p : Point) : Nat → Value
  | 0 => .string p.name
  | _ => .bool p.wait
def Point.wf (p : Point) : Prop := p.name.size ≤ maxLen ∧ True
structure Segment where
  a : Int
  b : Int
  depth : Int
  mins : Int
  meet : Bool
def Segment.at_ (p : Segment) : Nat → Value
  | 0 => .int .i64 p.a
  | 1 => .int .i64 p.b
  | 2 => .int .i64 p.depth
  | 3 => .int .i64 p.mins
  | _ => .bool p.meet
def Segment.wf (p : Segment) : Prop := I64 p.a ∧ I64 p.b ∧ I64 p.depth ∧ I64 p.mins

/-- 0 ≤ i < n as a Bool. -/
def idxB (i n : Int) : Bool := decide (0 ≤ i) && decide (i < n)
theorem idxB_inB (i n : Int) : idxB i n = inB i 0 (n - 1) := by
  unfold idxB inB
  have : decide (i < n) = decide (i ≤ n - 1) := by rw [Bool.eq_iff_iff]; simp; omega
  rw [this]

def joinsB (s : Segment) (a b : Int) : Bool := ((s.a == a) && (s.b == b)) || ((s.a == b) && (s.b == a))
def otherV (s : Segment) (pt : Int) : Int := if (pt == s.a) = true then s.b else if (pt == s.b) = true then s.a else -1
def nameAt (n : ByteArray) (p : Point) : Bool := decide (p.name = n)
def pointAt (ps : List Point) (n : ByteArray) : Int := findI (nameAt n) 0 ps
def segOk (n : Int) (s : Segment) : Bool := inB s.a 0 (n - 1) && (inB s.b 0 (n - 1) && ((!(s.a == s.b)) && (inB s.depth 0 3000 && inB s.mins 1 240)))
def ptF (ps : List Point) (i : Nat) (p : Point) : Bool := nameOk p.name.data.toList && decide (pointAt ps p.name = (i : Int))
def sgF (n : Int) (ss : List Segment) (i : Nat) (s : Segment) : Bool := segOk n s && !((ss.take i).any fun o => joinsB o s.a s.b)
def chartOk (ps : List Point) (ss : List Segment) : Bool := decide (ps.length ≤ 8) && (decide (ss.length ≤ 10) && (allI (ptF ps) 0 ps && allI (sgF ps.length ss) 0 ss))
theorem chartOk_len {ps : List Point} {ss : List Segment} (h : chartOk ps ss = true) : ps.length ≤ 8 ∧ ss.length ≤ 10 := by
  unfold chartOk at h
  rw [Bool.and_eq_true, Bool.and_eq_true] at h
  exact ⟨of_decide_eq_true h.1, of_decide_eq_true h.2.1⟩
theorem segOk_true {n : Int} {s : Segment} (h : segOk n s = true) : (0 ≤ s.a ∧ s.a ≤ n - 1) ∧ (0 ≤ s.b ∧ s.b ≤ n - 1) ∧ s.a ≠ s.b ∧ (0 ≤ s.depth ∧ s.depth ≤ 3000) ∧ (1 ≤ s.mins ∧ s.mins ≤ 240) := by
  unfold segOk at h
  simp only [Bool.and_eq_true] at h
  exact ⟨inB_true h.1, inB_true h.2.1, by simpa using h.2.2.1, inB_true h.2.2.2.1, inB_true h.2.2.2.2⟩
theorem chartOk_seg {ps : List Point} {ss : List Segment} {k : Nat} {s : Segment} (h : chartOk ps ss = true) (hs : ss[k]? = some s) : segOk ps.length s = true := by
  unfold chartOk at h
  simp only [Bool.and_eq_true] at h
  have := allI_mem ss 0 h.2.2.2 k s hs
  unfold sgF at this
  rw [Bool.and_eq_true] at this
  exact this.1
def segmentF (ps : List Point) (ss : List Segment) (a b : Int) : Int := if chartOk ps ss = true then findI (fun s => joinsB s a b) 0 ss else -1
def otherF (ps : List Point) (ss : List Segment) (g pt : Int) : Int := if chartOk ps ss = true ∧ idxB g ss.length = true then (match ss[g.toNat]? with | some s => otherV s pt | none => -1) else -1

end Go.Proofs.Ytjmfgncakegjaaa
