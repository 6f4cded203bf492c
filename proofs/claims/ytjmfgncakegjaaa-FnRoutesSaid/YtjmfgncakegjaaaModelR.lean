/-
  The plain model: the minutes of a route. No program is in sight.
-/
import Derived.Test.YtjmfgncakegjaaaModelC
namespace Go.Proofs.Ytjmfgncakegjaaa

/-- The sum of the minutes of segments, or -1. -/
def minsV (ss : List Segment) (acc : Int) : List Int → Int
  | [] => acc
  | r :: rs => if idxB r ss.length = true then minsV ss (acc + (match ss[r.toNat]? with | some s => s.mins | none => 0)) rs else -1
def minsF (ps : List Point) (ss : List Segment) (rs : List Int) : Int := if chartOk ps ss = true then minsV ss 0 rs else -1
theorem minsV_at {ss : List Segment} {rs : List Int} {acc r b : Int} {k : Nat} (h : b = minsV ss acc (rs.drop k)) (hr : rs[k]? = some r) : b = minsV ss acc (r :: rs.drop (k + 1)) := by
  have hl : k < rs.length := (List.getElem?_eq_some_iff.1 hr).1
  have hv : rs[k] = r := (List.getElem?_eq_some_iff.1 hr).2
  rw [h, List.drop_eq_getElem_cons hl, hv]
theorem minsV_bad {ss : List Segment} {rs : List Int} {acc r b : Int} {k : Nat} (h : b = minsV ss acc (rs.drop k)) (hr : rs[k]? = some r) (hi : idxB r ss.length = false) : b = -1 := by
  rw [minsV_at h hr, minsV, if_neg (by rw [hi]; exact Bool.false_ne_true)]
theorem minsV_next {ss : List Segment} {rs : List Int} {acc b : Int} {k j : Nat} {s : Segment} (h : b = minsV ss acc (rs.drop k)) (hr : rs[k]? = some (j : Int)) (hi : idxB (j : Int) ss.length = true) (hs : ss[j]? = some s) : b = minsV ss (acc + s.mins) (rs.drop (k + 1)) := by
  rw [minsV_at h hr, minsV, if_pos hi, Int.toNat_natCast, hs]
theorem minsV_done {ss : List Segment} {rs : List Int} {acc b : Int} (h : b = minsV ss acc (rs.drop rs.length)) : b = acc := by
  rw [h, List.drop_length]
  rfl

end Go.Proofs.Ytjmfgncakegjaaa
