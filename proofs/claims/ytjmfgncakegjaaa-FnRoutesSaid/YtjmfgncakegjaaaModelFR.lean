/-
  Plain facts on the drawn charts: their routes lead to their end, the way back is as good as the way there. No program is in sight.
-/
import Derived.Test.YtjmfgncakegjaaaModelBs
import Derived.Tactics
namespace Go.Proofs.Ytjmfgncakegjaaa

def strip (s : Segment) : Segment := ⟨s.a, s.b, 0, 1, false⟩
section
variable {ss : List Segment}
theorem otherV_strip (s : Segment) (cur : Int) : otherV (strip s) cur = otherV s cur := rfl
theorem nextV_strip (r cur : Int) : nextV (ss.map strip) r cur = nextV ss r cur := by
  unfold nextV
  rw [List.getElem?_map]
  cases ss[r.toNat]? <;> rfl
theorem rts_strip (to : Int) : ∀ f, rts (ss.map strip) to f = rts ss to f
  | 0 => rfl
  | f + 1 => by
    funext pts cur route
    rw [rts, rts, List.length_map, rts_strip to f]
    have h : stepR (ss.map strip) (rts ss to f) pts cur route = stepR ss (rts ss to f) pts cur route := by
      funext k
      unfold stepR
      rw [nextV_strip]
    rw [h]
theorem walkR_strip : ∀ (rs pts : List Int) (cur : Int), walkR (ss.map strip) pts cur rs = walkR ss pts cur rs
  | [], _, _ => rfl
  | r :: rs, pts, cur => by
    unfold walkR
    rw [List.length_map, nextV_strip, walkR_strip rs]
theorem pointsF_strip (n a : Int) (rs : List Int) : pointsF n (ss.map strip) a rs = pointsF n ss a rs := by
  unfold pointsF
  rw [walkR_strip]
theorem findI_strip (a b : Int) : ∀ (ss : List Segment) (i : Nat), findI (fun s => joinsB s a b) i (ss.map strip) = findI (fun s => joinsB s a b) i ss
  | [], _ => rfl
  | s :: ss, i => by
    rw [List.map_cons, findI, findI, findI_strip a b ss]
    rfl
end

theorem allI_intro {α : Type} {f : Nat → α → Bool} : ∀ (ps : List α) (i : Nat), (∀ (j : Nat) (p : α), ps[j]? = some p → f (i + j) p = true) → allI f i ps = true
  | [], _, _ => rfl
  | p :: ps, i, h => by
    rw [allI, Bool.and_eq_true]
    refine ⟨by have := h 0 p (by simp); simpa using this, allI_intro ps (i + 1) fun j q hq => ?_⟩
    have := h (j + 1) q (by simpa using hq)
    rwa [show i + (j + 1) = i + 1 + j from by omega] at this
theorem segOk_strip {n : Int} {s : Segment} (h : segOk n (strip s) = true) (hd : inB s.depth 0 3000 = true) (hm : inB s.mins 1 240 = true) : segOk n s = true := by
  unfold segOk at h ⊢
  simp only [Bool.and_eq_true] at h ⊢
  exact ⟨h.1, h.2.1, h.2.2.1, hd, hm⟩
theorem sgF_strip {n : Int} {ss : List Segment} (h : allI (sgF n (ss.map strip)) 0 (ss.map strip) = true) (hr : ∀ s ∈ ss, inB s.depth 0 3000 = true ∧ inB s.mins 1 240 = true) : allI (sgF n ss) 0 ss = true := by
  refine allI_intro ss 0 fun j s hs => ?_
  have h1 := allI_mem _ 0 h j (strip s) (by rw [List.getElem?_map, hs]; rfl)
  unfold sgF at h1 ⊢
  rw [Bool.and_eq_true] at h1 ⊢
  have hm := hr s (List.mem_of_getElem? hs)
  refine ⟨segOk_strip h1.1 hm.1 hm.2, ?_⟩
  have h2 := h1.2
  rw [← List.map_take, List.any_map] at h2
  exact h2

/-- The minutes of a route that stays among the segments. -/
def segM (ss : List Segment) (r : Int) : Int := match ss[r.toNat]? with | some s => s.mins | none => 0
theorem minsV_sum {ss : List Segment} : ∀ (rs : List Int) (acc : Int), (∀ r ∈ rs, idxB r ss.length = true) → minsV ss acc rs = acc + (rs.map (segM ss)).foldr (· + ·) 0
  | [], acc, _ => by simp [minsV]
  | r :: rs, acc, h => by
    rw [minsV, if_pos (h r (by simp)), minsV_sum rs _ (fun x hx => h x (by simp [hx]))]
    simp only [List.map_cons, List.foldr_cons]
    show acc + segM ss r + _ = _
    omega
theorem foldr_add : ∀ (l : List Int) (k : Int), l.foldr (· + ·) k = l.foldr (· + ·) 0 + k
  | [], k => by simp
  | x :: l, k => by
    rw [List.foldr_cons, List.foldr_cons, foldr_add l k]
    omega
theorem foldr_reverse : ∀ (l : List Int), l.reverse.foldr (· + ·) 0 = l.foldr (· + ·) 0
  | [] => rfl
  | x :: l => by
    rw [List.reverse_cons, List.foldr_append, List.foldr_cons, List.foldr_cons, List.foldr_nil, foldr_add, foldr_reverse l]
    omega
theorem minsF_reverse {ps : List Point} {ss : List Segment} {rs : List Int} (h : ∀ r ∈ rs, idxB r ss.length = true) : minsF ps ss rs.reverse = minsF ps ss rs := by
  unfold minsF
  split
  · rw [minsV_sum _ _ h, minsV_sum _ _ (fun r hr => h r (by simpa using hr)), List.map_reverse, foldr_reverse]
  · rfl

theorem fold_le {f : List Int → Int} : ∀ (res : List (List Int)) (o : Option (List Int)) (b : List Int), res.foldl (stepB f) o = some b → (∀ r ∈ res, f b ≤ f r) ∧ ∀ c, o = some c → f b ≤ f c
  | [], o, b, h => ⟨fun r hr => by simp at hr, fun c hc => by
    rw [List.foldl_nil, hc] at h
    cases h
    exact Int.le_refl _⟩
  | r :: rs, o, b, h => by
    rw [List.foldl_cons] at h
    obtain ⟨h1, h2⟩ := fold_le rs _ b h
    cases o with
    | none =>
      have h3 := h2 r rfl
      exact ⟨fun x hx => by
        rcases List.mem_cons.1 hx with hx | hx
        · rw [hx]
          exact h3
        · exact h1 x hx, fun c hc => by cases hc⟩
    | some d =>
      have h3 := h2 (if f r < f d then r else d) rfl
      have h4 : f b ≤ f r ∧ f b ≤ f d := by
        by_cases hq : f r < f d
        · rw [if_pos hq] at h3
          omega
        · rw [if_neg hq] at h3
          omega
      exact ⟨fun x hx => by
        rcases List.mem_cons.1 hx with hx | hx
        · rw [hx]
          exact h4.1
        · exact h1 x hx, fun c hc => by
        cases hc
        exact h4.2⟩
theorem bestF_le {f : List Int → Int} {res : List (List Int)} {b : List Int} (h : bestF f res = some b) : ∀ r ∈ res, f b ≤ f r := (fold_le res none b h).1

def seaN : ByteArray := ⟨#[115, 101, 97]⟩
def barN : ByteArray := ⟨#[98, 97, 114]⟩
def roadN : ByteArray := ⟨#[114, 111, 97, 100]⟩
def quayN : ByteArray := ⟨#[113, 117, 97, 121]⟩
def dockN : ByteArray := ⟨#[100, 111, 99, 107]⟩
def ps4 (w : Bool) : List Point := [⟨seaN, true⟩, ⟨barN, false⟩, ⟨roadN, w⟩, ⟨quayN, true⟩]
def psS (w dk : Bool) : List Point := if dk then ps4 w ++ [⟨dockN, true⟩] else ps4 w
def ss3 (d1 m1 d2 m2 : Int) (t2 : Bool) (d3 m3 : Int) : List Segment := [⟨0, 1, d1, m1, false⟩, ⟨1, 2, d2, m2, t2⟩, ⟨2, 3, d3, m3, false⟩]
def ssL (lp : Bool) (d4 m4 : Int) (l : List Segment) : List Segment := if lp then l ++ [⟨3, 1, d4, m4, true⟩] else l
def ssD (dk : Bool) (d5 : Int) (l : List Segment) : List Segment := if dk then l ++ [⟨2, 4, d5, 15, false⟩] else l
def canonS (lp dk : Bool) : List Segment := ssD dk 0 (ssL lp 0 1 (ss3 0 1 0 1 false 0 1)) |>.map strip
/-- A drawn chart. -/
def Drawn (ps : List Point) (ss : List Segment) : Prop :=
  ∃ (w lp dk t2 : Bool) (d1 m1 d2 m2 d3 m3 d4 m4 d5 : Int), (0 ≤ d1 ∧ d1 ≤ 2000) ∧ (1 ≤ m1 ∧ m1 ≤ 100) ∧ (0 ≤ d2 ∧ d2 ≤ 2000) ∧ (1 ≤ m2 ∧ m2 ≤ 100) ∧ (0 ≤ d3 ∧ d3 ≤ 2000) ∧ (1 ≤ m3 ∧ m3 ≤ 100) ∧ (0 ≤ d4 ∧ d4 ≤ 2000) ∧ (1 ≤ m4 ∧ m4 ≤ 100) ∧ (0 ≤ d5 ∧ d5 ≤ 2000) ∧
    ps = psS w dk ∧ ss = ssD dk d5 (ssL lp d4 m4 (ss3 d1 m1 d2 m2 t2 d3 m3))

def goodR (ss : List Segment) (n : Nat) (a b : Nat) (r : List Int) : Bool :=
  match pointsF n ss a r with
  | none => false
  | some p => (p.length == r.length + 1) && (p[r.length]? == some (b : Int)) && (r.all fun s => idxB s ss.length) &&
      (List.range r.length).all fun i => match r[i]?, p[i]?, p[i + 1]? with
        | some s, some x, some y => (nextV ss s x == y) && (findI (fun g => joinsB g y x) 0 ss == s)
        | _, _, _ => false
def goodP (ss : List Segment) (n a b : Nat) : Bool :=
  !(rts ss b 8 [(a : Int)] a []).isEmpty && ((rts ss b 8 [(a : Int)] a []).length == (rts ss a 8 [(b : Int)] b []).length) &&
    ((rts ss b 8 [(a : Int)] a []).all fun r => goodR ss n a b r && (rts ss a 8 [(b : Int)] b []).contains r.reverse)
def goodT (ss : List Segment) (n : Nat) : Bool := (List.range n).all fun a => (List.range n).all fun b => goodP ss n a b
theorem goodT_all : ([true, false].all fun lp => [true, false].all fun dk => goodT (canonS lp dk) (if dk then 5 else 4)) = true := by kernel_rfl
theorem sgF_all : ([true, false].all fun lp => [true, false].all fun dk => allI (sgF (if dk then 5 else 4) (canonS lp dk)) 0 (canonS lp dk)) = true := by kernel_rfl
theorem ptF_all : ([true, false].all fun w => [true, false].all fun dk => allI (ptF (psS w dk)) 0 (psS w dk)) = true := by kernel_rfl

end Go.Proofs.Ytjmfgncakegjaaa
