/-
  Plain facts on the drawn charts, as the walk of FnRoutes wants them. No program is in sight.
-/
import Derived.Test.YtjmfgncakegjaaaModelFR
import Derived.Test.YtjmfgncakegjaaaModelQ
namespace Go.Proofs.Ytjmfgncakegjaaa

theorem goodP_strip {ss : List Segment} (n a b : Nat) : goodP (ss.map strip) n a b = goodP ss n a b := by
  simp only [goodP, goodR, rts_strip, pointsF_strip, nextV_strip, findI_strip, List.length_map]
theorem all2 {f : Bool → Bool → Bool} (h : ([true, false].all fun x => [true, false].all fun y => f x y) = true) (x y : Bool) : f x y = true := by
  simp only [List.all_cons, List.all_nil, Bool.and_true, Bool.and_eq_true] at h
  cases x <;> cases y <;> simp [h]
theorem drawn_strip {lp dk t2 : Bool} {d1 m1 d2 m2 d3 m3 d4 m4 d5 : Int} : (ssD dk d5 (ssL lp d4 m4 (ss3 d1 m1 d2 m2 t2 d3 m3))).map strip = canonS lp dk := by
  cases lp <;> cases dk <;> rfl
theorem psS_length {w dk : Bool} : (psS w dk).length = if dk then 5 else 4 := by cases dk <;> rfl
section
variable {ps : List Point} {ss : List Segment}
theorem drawn_ok (h : Drawn ps ss) : chartOk ps ss = true := by
  obtain ⟨w, lp, dk, t2, d1, m1, d2, m2, d3, m3, d4, m4, d5, b1, b2, b3, b4, b5, b6, b7, b8, b9, rfl, rfl⟩ := h
  unfold chartOk
  rw [Bool.and_eq_true, Bool.and_eq_true, Bool.and_eq_true]
  refine ⟨decide_eq_true (by rw [psS_length]; cases dk <;> simp), decide_eq_true (by cases lp <;> cases dk <;> simp [ssD, ssL, ss3]), all2 (f := fun w dk => allI (ptF (psS w dk)) 0 (psS w dk)) ptF_all w dk, ?_⟩
  have h1 := all2 (f := fun lp dk => allI (sgF (if dk then 5 else 4) (canonS lp dk)) 0 (canonS lp dk)) sgF_all lp dk
  have hn : (((psS w dk).length : Nat) : Int) = if dk then 5 else 4 := by cases dk <;> rfl
  rw [hn]
  refine sgF_strip (by rw [drawn_strip]; exact h1) fun s hs => ?_
  have e1 : ∀ x : Int, 0 ≤ x ∧ x ≤ 2000 → inB x 0 3000 = true := fun x hx => inB_mk (by omega)
  have e2 : ∀ x : Int, 1 ≤ x ∧ x ≤ 100 → inB x 1 240 = true := fun x hx => inB_mk (by omega)
  have e3 : inB 15 1 240 = true := rfl
  cases lp <;> cases dk <;> simp [ssD, ssL, ss3] at hs
  · rcases hs with rfl | rfl | rfl
    · exact ⟨e1 _ b1, e2 _ b2⟩
    · exact ⟨e1 _ b3, e2 _ b4⟩
    · exact ⟨e1 _ b5, e2 _ b6⟩
  · rcases hs with rfl | rfl | rfl | rfl
    · exact ⟨e1 _ b1, e2 _ b2⟩
    · exact ⟨e1 _ b3, e2 _ b4⟩
    · exact ⟨e1 _ b5, e2 _ b6⟩
    · exact ⟨e1 _ b9, e3⟩
  · rcases hs with rfl | rfl | rfl | rfl
    · exact ⟨e1 _ b1, e2 _ b2⟩
    · exact ⟨e1 _ b3, e2 _ b4⟩
    · exact ⟨e1 _ b5, e2 _ b6⟩
    · exact ⟨e1 _ b7, e2 _ b8⟩
  · rcases hs with rfl | rfl | rfl | rfl | rfl
    · exact ⟨e1 _ b1, e2 _ b2⟩
    · exact ⟨e1 _ b3, e2 _ b4⟩
    · exact ⟨e1 _ b5, e2 _ b6⟩
    · exact ⟨e1 _ b7, e2 _ b8⟩
    · exact ⟨e1 _ b9, e3⟩
theorem drawn_good (h : Drawn ps ss) {a b : Nat} (ha : a < ps.length) (hb : b < ps.length) : goodP ss ps.length a b = true := by
  obtain ⟨w, lp, dk, t2, d1, m1, d2, m2, d3, m3, d4, m4, d5, _, _, _, _, _, _, _, _, _, rfl, rfl⟩ := h
  have h1 := all2 (f := fun lp dk => goodT (canonS lp dk) (if dk then 5 else 4)) goodT_all lp dk
  unfold goodT at h1
  rw [← psS_length (w := w), List.all_eq_true] at h1
  have h2 := h1 a (List.mem_range.2 ha)
  rw [List.all_eq_true] at h2
  have h3 := h2 b (List.mem_range.2 hb)
  rw [← drawn_strip (t2 := t2) (d1 := d1) (m1 := m1) (d2 := d2) (m2 := m2) (d3 := d3) (m3 := m3) (d4 := d4) (m4 := m4) (d5 := d5), goodP_strip] at h3
  exact h3
theorem drawn_len (h : Drawn ps ss) : 4 ≤ ps.length ∧ ps.length ≤ 5 := by
  obtain ⟨w, lp, dk, t2, d1, m1, d2, m2, d3, m3, d4, m4, d5, _, _, _, _, _, _, _, _, _, rfl, rfl⟩ := h
  rw [psS_length]
  cases dk <;> simp

theorem drawn_routes (h : Drawn ps ss) {a b : Nat} (ha : a < ps.length) (hb : b < ps.length) : routesB ps ss a b = rts ss b 8 [(a : Int)] a [] := by
  have h1 : idxB (a : Int) ps.length = true := by simp [idxB]; omega
  have h2 : idxB (b : Int) ps.length = true := by simp [idxB]; omega
  rw [routesB, drawn_ok h, h1, h2]
  rfl
theorem goodP_parts {n a b : Nat} (h : goodP ss n a b = true) : rts ss b 8 [(a : Int)] a [] ≠ [] ∧ (rts ss b 8 [(a : Int)] a []).length = (rts ss a 8 [(b : Int)] b []).length ∧ ∀ r ∈ rts ss b 8 [(a : Int)] a [], goodR ss n a b r = true ∧ r.reverse ∈ rts ss a 8 [(b : Int)] b [] := by
  unfold goodP at h
  simp only [Bool.and_eq_true, Bool.not_eq_true', List.isEmpty_eq_false_iff, beq_iff_eq, List.all_eq_true] at h
  refine ⟨h.1.1, h.1.2, fun r hr => ?_⟩
  have := h.2 r hr
  exact ⟨this.1, by simpa using this.2⟩
theorem goodR_parts {n a b : Nat} {r : List Int} (h : goodR ss n a b r = true) : ∃ p, pointsF n ss a r = some p ∧ p.length = r.length + 1 ∧ p[r.length]? = some (b : Int) ∧ (∀ s ∈ r, idxB s ss.length = true) ∧ ∀ (i : Nat) (s x y : Int), r[i]? = some s → p[i]? = some x → p[i + 1]? = some y → nextV ss s x = y ∧ findI (fun g => joinsB g y x) 0 ss = s := by
  unfold goodR at h
  split at h
  · cases h
  · rename_i p hp
    simp only [Bool.and_eq_true, beq_iff_eq, List.all_eq_true] at h
    refine ⟨p, hp, h.1.1.1, h.1.1.2, h.1.2, fun i s x y h1 h2 h3 => ?_⟩
    have hi := (List.getElem?_eq_some_iff.1 h1).1
    have := h.2 i (List.mem_range.2 hi)
    rw [h1, h2, h3] at this
    simpa using this

/-- What FnRoutes asks of a route. -/
structure RouteFine (ps : List Point) (ss : List Segment) (a b : Nat) (best r p : List Int) : Prop where
  pts : routePts ps ss a r = p
  ok : routeOk ps ss a r = true
  len : p.length = r.length + 1
  last : p[r.length]? = some (b : Int)
  least : minsF ps ss best ≤ minsF ps ss r
  each : ∀ (i : Nat) (s x y : Int), r[i]? = some s → p[i]? = some x → p[i + 1]? = some y → otherF ps ss s x = y ∧ segmentF ps ss y x = s
theorem drawn_route (h : Drawn ps ss) {a b : Nat} (ha : a < ps.length) (hb : b < ps.length) {best r : List Int} (hbest : bestF (minsF ps ss) (routesB ps ss a b) = some best) (hr : r ∈ routesB ps ss a b) : ∃ p, RouteFine ps ss a b best r p := by
  have hok := drawn_ok h
  have hle := bestF_le hbest r hr
  rw [drawn_routes h ha hb] at hr
  obtain ⟨p, h1, h2, h3, h4, h5⟩ := goodR_parts ((goodP_parts (drawn_good h ha hb)).2.2 r hr).1
  refine ⟨p, ?_, ?_, h2, h3, hle, fun i s x y k1 k2 k3 => ?_⟩
  · rw [routePts, if_pos hok, h1]
    rfl
  · rw [routeOk, hok, h1]
    rfl
  · obtain ⟨e1, e2⟩ := h5 i s x y k1 k2 k3
    refine ⟨?_, ?_⟩
    · rw [otherF, if_pos ⟨hok, h4 s (List.mem_of_getElem? k1)⟩]
      exact e1
    · rw [segmentF, if_pos hok]
      exact e2
theorem drawn_ends (h : Drawn ps ss) {a b : Nat} (ha : a < ps.length) (hb : b < ps.length) : routesB ps ss a b ≠ [] ∧ (routesB ps ss b a).length = (routesB ps ss a b).length := by
  obtain ⟨h1, h2, _⟩ := goodP_parts (drawn_good h ha hb)
  rw [drawn_routes h ha hb, drawn_routes h hb ha]
  exact ⟨h1, h2.symm⟩
theorem drawn_half (h : Drawn ps ss) {a b : Nat} (ha : a < ps.length) (hb : b < ps.length) {best back : List Int} (hbest : bestF (minsF ps ss) (routesB ps ss a b) = some best) (hback : bestF (minsF ps ss) (routesB ps ss b a) = some back) : minsF ps ss back ≤ minsF ps ss best := by
  have hm := bestF_mem hbest
  rw [drawn_routes h ha hb] at hm
  obtain ⟨h1, h2⟩ := (goodP_parts (drawn_good h ha hb)).2.2 best hm
  obtain ⟨p, _, _, _, h4, _⟩ := goodR_parts h1
  rw [← drawn_routes h hb ha] at h2
  have := bestF_le hback _ h2
  rwa [minsF_reverse h4] at this
theorem drawn_back (h : Drawn ps ss) {a b : Nat} (ha : a < ps.length) (hb : b < ps.length) {best back : List Int} (hbest : bestF (minsF ps ss) (routesB ps ss a b) = some best) (hback : bestF (minsF ps ss) (routesB ps ss b a) = some back) : minsF ps ss back = minsF ps ss best :=
  Int.le_antisymm (drawn_half h ha hb hbest hback) (drawn_half h hb ha hback hbest)
theorem drawn_name (h : Drawn ps ss) {a : Nat} {p : Point} (hp : ps[a]? = some p) : pointAt ps p.name = (a : Int) := by
  have hok := drawn_ok h
  unfold chartOk at hok
  simp only [Bool.and_eq_true] at hok
  have := allI_mem ps 0 hok.2.2.1 a p hp
  unfold ptF at this
  simp only [Bool.and_eq_true, decide_eq_true_eq, Nat.zero_add] at this
  exact this.2
end

end Go.Proofs.Ytjmfgncakegjaaa
