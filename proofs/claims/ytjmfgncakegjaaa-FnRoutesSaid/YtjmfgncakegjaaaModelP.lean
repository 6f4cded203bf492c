/-
  The plain model: the points of a route. No program is in sight.
-/
import Derived.Test.YtjmfgncakegjaaaModelC
namespace Go.Proofs.Ytjmfgncakegjaaa

def nextV (ss : List Segment) (r cur : Int) : Int := match ss[r.toNat]? with | some s => otherV s cur | none => -1
/-- The points met, going on from cur along segments; nothing if a segment does not lead on or leads to a point met. -/
def walkR (ss : List Segment) (pts : List Int) (cur : Int) : List Int → Option (List Int)
  | [] => some pts
  | r :: rs => if idxB r ss.length = true then (if nextV ss r cur < 0 ∨ nextV ss r cur ∈ pts then none else walkR ss (pts ++ [nextV ss r cur]) (nextV ss r cur) rs) else none
def pointsF (n : Int) (ss : List Segment) (frm : Int) (rs : List Int) : Option (List Int) := if idxB frm n = true then walkR ss [frm] frm rs else none
def listOf : Option (List Int) → List Int
  | some l => l
  | none => []
def routeOk (ps : List Point) (ss : List Segment) (frm : Int) (rs : List Int) : Bool := chartOk ps ss && (pointsF ps.length ss frm rs).isSome
theorem walkR_at {ss : List Segment} {pts rs : List Int} {cur r : Int} {k : Nat} {b : Option (List Int)} (h : b = walkR ss pts cur (rs.drop k)) (hr : rs[k]? = some r) : b = walkR ss pts cur (r :: rs.drop (k + 1)) := by
  have hl : k < rs.length := (List.getElem?_eq_some_iff.1 hr).1
  have hv : rs[k] = r := (List.getElem?_eq_some_iff.1 hr).2
  rw [h, List.drop_eq_getElem_cons hl, hv]
theorem walkR_bad {ss : List Segment} {pts rs : List Int} {cur r : Int} {k : Nat} {b : Option (List Int)} (h : b = walkR ss pts cur (rs.drop k)) (hr : rs[k]? = some r) (hi : idxB r ss.length = false) : b = none := by
  rw [walkR_at h hr, walkR, if_neg (by rw [hi]; exact Bool.false_ne_true)]
theorem walkR_stop {ss : List Segment} {pts rs : List Int} {cur nx : Int} {k j : Nat} {s : Segment} {b : Option (List Int)} (h : b = walkR ss pts cur (rs.drop k)) (hr : rs[k]? = some (j : Int)) (hi : idxB (j : Int) ss.length = true) (hs : ss[j]? = some s) (hn : nx = otherV s cur) (hx : nx < 0 ∨ nx ∈ pts) : b = none := by
  have e : nextV ss (j : Int) cur = nx := by rw [hn, nextV, Int.toNat_natCast, hs]
  rw [walkR_at h hr, walkR, if_pos hi, e, if_pos hx]
theorem walkR_next {ss : List Segment} {pts rs : List Int} {cur nx : Int} {k j : Nat} {s : Segment} {b : Option (List Int)} (h : b = walkR ss pts cur (rs.drop k)) (hr : rs[k]? = some (j : Int)) (hi : idxB (j : Int) ss.length = true) (hs : ss[j]? = some s) (hn : nx = otherV s cur) (hx : ¬ (nx < 0 ∨ nx ∈ pts)) : b = walkR ss (pts ++ [nx]) nx (rs.drop (k + 1)) := by
  have e : nextV ss (j : Int) cur = nx := by rw [hn, nextV, Int.toNat_natCast, hs]
  rw [walkR_at h hr, walkR, if_pos hi, e, if_neg hx]
theorem walkR_done {ss : List Segment} {pts rs : List Int} {cur : Int} {b : Option (List Int)} (h : b = walkR ss pts cur (rs.drop rs.length)) : b = some pts := by
  rw [h, List.drop_length]
  rfl
theorem otherV_in {n : Int} {s : Segment} (h : segOk n s = true) (cur : Int) : -1 ≤ otherV s cur ∧ otherV s cur < n := by
  have h1 := segOk_true h
  unfold otherV
  split
  · omega
  · split <;> omega

/-- Eight marks: those of the points in a list are set. -/
def Marks (cs : Array Value) (pts : List Int) : Prop := cs.size = 8 ∧ ∀ i : Nat, i < 8 → cs[i]? = some (.bool (decide ((i : Int) ∈ pts)))
theorem Marks.at_ {cs : Array Value} {pts : List Int} (h : Marks cs pts) {i : Nat} (hi : i < 8) : cs[i]? = some (.bool (decide ((i : Int) ∈ pts))) := h.2 i hi
theorem Marks.add_ {cs : Array Value} {pts : List Int} (h : Marks cs pts) {j : Nat} (hj : j < 8) : Marks (cs.setIfInBounds j (.bool true)) (pts ++ [(j : Int)]) := by
  refine ⟨by rw [Array.size_setIfInBounds]; exact h.1, fun i hi => ?_⟩
  by_cases e : i = j
  · subst e
    rw [Array.getElem?_setIfInBounds_self_of_lt (by rw [h.1]; exact hj)]
    simp
  · rw [Array.getElem?_setIfInBounds_ne (fun h => e h.symm), h.2 i hi]
    have : ((i : Int) = (j : Int)) = False := by simp; omega
    simp [this]

end Go.Proofs.Ytjmfgncakegjaaa
