/-
  The plain model: all routes from a point to a target that go on from a route. No program is in sight.
-/
import Derived.Test.YtjmfgncakegjaaaModelP
namespace Go.Proofs.Ytjmfgncakegjaaa

/-- What segment k adds: the routes that go on along it, if it leads on to a point not met. -/
def stepR (ss : List Segment) (go : List Int → Int → List Int → List (List Int)) (pts : List Int) (cur : Int) (route : List Int) (k : Nat) : List (List Int) :=
  if nextV ss (k : Int) cur < 0 ∨ nextV ss (k : Int) cur ∈ pts then [] else go (pts ++ [nextV ss (k : Int) cur]) (nextV ss (k : Int) cur) (route ++ [(k : Int)])
/-- All routes to a point, going on from a route at cur that has met pts. -/
def rts (ss : List Segment) (to : Int) : Nat → List Int → Int → List Int → List (List Int)
  | 0, _, _, _ => []
  | f + 1, pts, cur, route => if cur = to then [route] else (List.range ss.length).flatMap (stepR ss (rts ss to f) pts cur route)
def preR (ss : List Segment) (to : Int) (f : Nat) (pts : List Int) (cur : Int) (route : List Int) (k : Nat) : List (List Int) := (List.range k).flatMap (stepR ss (rts ss to f) pts cur route)

section
variable {ss : List Segment} {to cur nx : Int} {f k : Nat} {pts route : List Int} {s : Segment}
theorem rts_here (h : cur = to) : rts ss to (f + 1) pts cur route = [route] := by rw [rts, if_pos h]
theorem rts_on (h : ¬ cur = to) : rts ss to (f + 1) pts cur route = preR ss to f pts cur route ss.length := by rw [rts, if_neg h, preR]
theorem preR_zero : preR ss to f pts cur route 0 = [] := rfl
theorem preR_succ : preR ss to f pts cur route (k + 1) = preR ss to f pts cur route k ++ stepR ss (rts ss to f) pts cur route k := by
  simp [preR, List.range_succ]
theorem preR_le {m : Nat} (h : k ≤ m) : (preR ss to f pts cur route k).length ≤ (preR ss to f pts cur route m).length := by
  induction h with
  | refl => exact Nat.le_refl _
  | step _ ih =>
    rw [preR_succ, List.length_append]
    omega
theorem nextV_at (hs : ss[k]? = some s) : nextV ss (k : Int) cur = otherV s cur := by rw [nextV, Int.toNat_natCast, hs]
theorem preR_skip (hs : ss[k]? = some s) (hn : nx = otherV s cur) (h : nx < 0 ∨ nx ∈ pts) : preR ss to f pts cur route (k + 1) = preR ss to f pts cur route k := by
  rw [preR_succ, stepR, nextV_at hs, ← hn, if_pos h, List.append_nil]
theorem preR_step (hs : ss[k]? = some s) (hn : nx = otherV s cur) (h : ¬ (nx < 0 ∨ nx ∈ pts)) : preR ss to f pts cur route (k + 1) = preR ss to f pts cur route k ++ rts ss to f (pts ++ [nx]) nx (route ++ [(k : Int)]) := by
  rw [preR_succ, stepR, nextV_at hs, ← hn, if_neg h]
end

theorem flat_le {α β : Type} {g : α → List β} {m : Nat} : ∀ (l : List α), (∀ x ∈ l, (g x).length ≤ m) → (l.flatMap g).length ≤ l.length * m
  | [], _ => by simp
  | x :: l, h => by
    have h1 := h x (by simp)
    have h2 := flat_le l (fun y hy => h y (by simp [hy]))
    rw [List.flatMap_cons, List.length_append, List.length_cons, Nat.add_mul]
    omega
theorem rts_count {ss : List Segment} {to : Int} (hss : ss.length ≤ 10) : ∀ (f : Nat) (pts : List Int) (cur : Int) (route : List Int), (rts ss to (f + 1) pts cur route).length ≤ 10 ^ f
  | 0, pts, cur, route => by
    rw [rts]
    split
    · simp
    · have : (List.range ss.length).flatMap (stepR ss (rts ss to 0) pts cur route) = [] := by
        rw [List.flatMap_eq_nil_iff]
        intro k _
        unfold stepR
        split <;> rfl
      rw [this]
      simp
  | f + 1, pts, cur, route => by
    rw [rts]
    split
    · show 1 ≤ 10 ^ (f + 1)
      exact Nat.pow_pos (by omega)
    · have h := flat_le (g := stepR ss (rts ss to (f + 1)) pts cur route) (m := 10 ^ f) (List.range ss.length) (fun k _ => by
        unfold stepR
        split
        · simp
        · exact rts_count hss f _ _ _)
      rw [List.length_range] at h
      rw [Nat.pow_succ, Nat.mul_comm]
      exact Nat.le_trans h (Nat.mul_le_mul_right _ hss)
theorem rts_short {ss : List Segment} {to : Int} : ∀ (f : Nat) (pts : List Int) (cur : Int) (route l : List Int), l ∈ rts ss to f pts cur route → l.length ≤ route.length + f
  | 0, _, _, _, _, h => by simp [rts] at h
  | f + 1, pts, cur, route, l, h => by
    rw [rts] at h
    split at h
    · simp at h
      subst h
      omega
    · obtain ⟨k, _, hk⟩ := List.mem_flatMap.1 h
      unfold stepR at hk
      split at hk
      · simp at hk
      · have := rts_short f _ _ _ _ hk
        simp at this
        omega

/-- All routes between two points. -/
def routesB (ps : List Point) (ss : List Segment) (a b : Int) : List (List Int) := if (chartOk ps ss && idxB a ps.length && idxB b ps.length) = true then rts ss b 8 [a] a [] else []
theorem routesB_count {ps : List Point} {ss : List Segment} {a b : Int} (hss : chartOk ps ss = true → ss.length ≤ 10) : (routesB ps ss a b).length ≤ 10000000 := by
  unfold routesB
  split
  · rename_i h
    simp only [Bool.and_eq_true] at h
    exact rts_count (hss h.1.1) 7 _ _ _
  · simp
theorem routesB_short {ps : List Point} {ss : List Segment} {a b : Int} {l : List Int} (h : l ∈ routesB ps ss a b) : l.length ≤ 8 := by
  unfold routesB at h
  split at h
  · simpa using rts_short 8 _ _ _ _ h
  · simp at h

end Go.Proofs.Ytjmfgncakegjaaa
