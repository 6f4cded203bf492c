/-
  The chart of FnRoutes: its contracts in all later worlds.
-/
import Derived.Test.YtjmfgncakegjaaaMakeC
import Derived.Test.YtjmfgncakegjaaaModelFS
import Derived.Test.YtjmfgncakegjaaaBestI
import Derived.Test.YtjmfgncakegjaaaBestS
import Derived.Test.YtjmfgncakegjaaaRouteP
import Derived.Test.YtjmfgncakegjaaaRouteO
import Derived.Test.YtjmfgncakegjaaaChartG
import Derived.Test.YtjmfgncakegjaaaChartF
namespace Go.Proofs.Ytjmfgncakegjaaa
open Go.RowKit

theorem drawn_wf {ps : List Point} {ss : List Segment} (h : Drawn ps ss) : (∀ p ∈ ps, p.wf) ∧ (∀ p ∈ ss, p.wf) ∧ ss.length ≤ 5 := by
  obtain ⟨w, lp, dk, t2, d1, m1, d2, m2, d3, m3, d4, m4, d5, b1, b2, b3, b4, b5, b6, b7, b8, b9, rfl, rfl⟩ := h
  have hn : seaN.size ≤ maxLen ∧ barN.size ≤ maxLen ∧ roadN.size ≤ maxLen ∧ quayN.size ≤ maxLen ∧ dockN.size ≤ maxLen := by
    refine ⟨?_, ?_, ?_, ?_, ?_⟩ <;> (unfold maxLen; decide)
  obtain ⟨n1, n2, n3, n4, n5⟩ := hn
  refine ⟨fun p hp => ?_, fun p hp => ?_, ?_⟩
  · cases dk <;> simp [psS, ps4] at hp
    · rcases hp with rfl | rfl | rfl | rfl <;> exact ⟨by assumption, trivial⟩
    · rcases hp with rfl | rfl | rfl | rfl | rfl <;> exact ⟨by assumption, trivial⟩
  · unfold Segment.wf I64
    cases lp <;> cases dk <;> simp [ssD, ssL, ss3] at hp
    · rcases hp with rfl | rfl | rfl <;> (refine ⟨⟨?_, ?_⟩, ⟨?_, ?_⟩, ⟨?_, ?_⟩, ⟨?_, ?_⟩⟩ <;> dsimp only <;> omega)
    · rcases hp with rfl | rfl | rfl | rfl <;> (refine ⟨⟨?_, ?_⟩, ⟨?_, ?_⟩, ⟨?_, ?_⟩, ⟨?_, ?_⟩⟩ <;> dsimp only <;> omega)
    · rcases hp with rfl | rfl | rfl | rfl <;> (refine ⟨⟨?_, ?_⟩, ⟨?_, ?_⟩, ⟨?_, ?_⟩, ⟨?_, ?_⟩⟩ <;> dsimp only <;> omega)
    · rcases hp with rfl | rfl | rfl | rfl | rfl <;> (refine ⟨⟨?_, ?_⟩, ⟨?_, ?_⟩, ⟨?_, ?_⟩, ⟨?_, ?_⟩⟩ <;> dsimp only <;> omega)
  · cases lp <;> cases dk <;> simp [ssD, ssL, ss3]

/-- A chart that can be read. -/
structure ChS (A1 A2 : Option Addr) (c2 : Nat) (ps : List Point) (ss : List Segment) (W : World) : Prop where
  r1 : Rd W W.heap.size Point.at_ 2 A1 ps
  r2 : Rd W W.heap.size Segment.at_ 5 A2 ss
  dr : Drawn ps ss
  cap : ss.length ≤ c2
section
variable {A1 A2 R : Option Addr} {c1 c2 d a b : Nat} {ps : List Point} {ss : List Segment} {w W : World} {rs : List Int}
theorem ChS.next (h : ChS A1 A2 c2 ps ss w) (hb : Below w.heap.size w W) : ChS A1 A2 c2 ps ss W := ⟨(h.r1.below hb).more hb.size, (h.r2.below hb).more hb.size, h.dr, h.cap⟩
theorem ChS.len (h : ChS A1 A2 c2 ps ss w) : 4 ≤ ps.length ∧ ps.length ≤ 5 := drawn_len h.dr
theorem ChS.okC (h : ChS A1 A2 c2 ps ss w) : Calls Try.prog 19 #[.agg #[.slice A1 ps.length c1, .slice A2 ss.length c2]] w fun e w' => e = .returned (.bool true) ∧ Below w.heap.size w w' := by
  obtain ⟨h1, h2, h3⟩ := drawn_wf h.dr
  have h4 := h.len
  rw [← drawn_ok h.dr]
  exact implChartOk_any _ _ _ _ _ _ _ h.r1 h.r2 h1 h2 (by omega) (by omega) h.cap
theorem ChS.routes (h : ChS A1 A2 c2 ps ss w) (a b : Nat) : Calls Try.prog 36 #[.agg #[.slice A1 ps.length c1, .slice A2 ss.length c2], .int .i64 a, .int .i64 b] w (ResRows (routesB ps ss a b) w) := by
  obtain ⟨h1, h2, h3⟩ := drawn_wf h.dr
  have h4 := h.len
  exact implRoutesBetween_any _ _ _ _ _ _ _ _ _ h.r1 h.r2 h1 h2 (by omega) (by omega) h.cap
/-- The route of least minutes, which there is. -/
theorem ChS.best (h : ChS A1 A2 c2 ps ss w) {bs : List Int} (hb : bestF (minsF ps ss) (routesB ps ss a b) = some bs) : Calls Try.prog 41 #[.agg #[.slice A1 ps.length c1, .slice A2 ss.length c2], .int .i64 a, .int .i64 b] w fun e w' => ∃ A c, e = .returned (.tuple #[.slice A bs.length c, .bool true]) ∧ Sl w' w.heap.size w'.heap.size A 3 intAt 1 bs ∧ Below w.heap.size w w' := by
  obtain ⟨h1, h2, h3⟩ := drawn_wf h.dr
  have h4 := h.len
  have := implBestRoute_any A1 A2 c1 c2 ps ss a b w h.r1 h.r2 h1 h2 (by omega) (by omega) h.cap
  rw [hb] at this
  exact this
theorem ChS.mins (h : ChS A1 A2 c2 ps ss w) (hq : Rd w w.heap.size intAt 1 R rs) (hl : rs.length ≤ 8) {x : Int} (hx : minsF ps ss rs = x) : Calls Try.prog 26 #[.agg #[.slice A1 ps.length c1, .slice A2 ss.length c2], .slice R rs.length d] w fun e w' => e = .returned (.int .i64 x) ∧ Below w.heap.size w w' := by
  obtain ⟨h1, h2, h3⟩ := drawn_wf h.dr
  have h4 := h.len
  rw [← hx]
  exact implRouteMinutes_any _ _ _ _ _ _ _ _ _ _ h.r1 h.r2 hq h1 h2 (by omega) (by omega) (by omega) h.cap
theorem ChS.okR (h : ChS A1 A2 c2 ps ss w) (hq : Rd w w.heap.size intAt 1 R rs) (hl : rs.length ≤ 8) (hx : routeOk ps ss a rs = true) : Calls Try.prog 29 #[.agg #[.slice A1 ps.length c1, .slice A2 ss.length c2], .int .i64 a, .slice R rs.length d] w fun e w' => e = .returned (.bool true) ∧ Below w.heap.size w w' := by
  obtain ⟨h1, h2, h3⟩ := drawn_wf h.dr
  have h4 := h.len
  rw [← hx]
  exact implRouteOk_any _ _ _ _ _ _ _ _ _ _ _ h.r1 h.r2 hq h1 h2 (by omega) (by omega) (by omega) h.cap
theorem ChS.pts (h : ChS A1 A2 c2 ps ss w) (hq : Rd w w.heap.size intAt 1 R rs) (hl : rs.length ≤ 8) {p : List Int} (hx : routePts ps ss a rs = p) (hn : p.length = rs.length + 1) : Calls Try.prog 31 #[.agg #[.slice A1 ps.length c1, .slice A2 ss.length c2], .int .i64 a, .slice R rs.length d] w fun e w' => ∃ g c, e = .returned (.slice (some ⟨g, 0, none⟩) (rs.length + 1) c) ∧ Has w' g 3 intAt 1 p ∧ w.heap.size ≤ g ∧ Below w.heap.size w w' := by
  obtain ⟨h1, h2, h3⟩ := drawn_wf h.dr
  have h4 := h.len
  have := implRoutePoints_any A1 A2 R c1 c2 d ps ss a rs w h.r1 h.r2 hq h1 h2 (by omega) (by omega) (by omega) h.cap
  rw [hx] at this
  refine this.mono ?_
  rintro e w' ⟨A, c, rfl, hs, hb⟩
  rcases hs with ⟨rfl, rfl⟩ | ⟨g, rfl, k1, k2, hk⟩
  · simp at hn
  · exact ⟨g, c, by rw [hn], hk, k1, hb⟩
theorem ChS.other (h : ChS A1 A2 c2 ps ss w) {s x y : Int} (hx : otherF ps ss s x = y) : Calls Try.prog 23 #[.agg #[.slice A1 ps.length c1, .slice A2 ss.length c2], .int .i64 s, .int .i64 x] w fun e w' => e = .returned (.int .i64 y) ∧ Below w.heap.size w w' := by
  obtain ⟨h1, h2, h3⟩ := drawn_wf h.dr
  have h4 := h.len
  rw [← hx]
  exact implOtherEnd_any _ _ _ _ _ _ _ _ _ h.r1 h.r2 h1 h2 (by omega) (by omega) h.cap
theorem ChS.segm (h : ChS A1 A2 c2 ps ss w) {s x y : Int} (hx : segmentF ps ss y x = s) : Calls Try.prog 21 #[.agg #[.slice A1 ps.length c1, .slice A2 ss.length c2], .int .i64 y, .int .i64 x] w fun e w' => e = .returned (.int .i64 s) ∧ Below w.heap.size w w' := by
  obtain ⟨h1, h2, h3⟩ := drawn_wf h.dr
  have h4 := h.len
  rw [← hx]
  exact implSegmentOf_any _ _ _ _ _ _ _ _ _ h.r1 h.r2 h1 h2 (by omega) (by omega) h.cap
theorem ChS.named (h : ChS A1 A2 c2 ps ss w) {p : Point} (hp : ps[a]? = some p) : Calls Try.prog 16 #[.agg #[.slice A1 ps.length c1, .slice A2 ss.length c2], .string p.name] w fun e w' => e = .returned (.int .i64 a) ∧ Below w.heap.size w w' := by
  obtain ⟨h1, h2, h3⟩ := drawn_wf h.dr
  have h4 := h.len
  rw [← drawn_name h.dr hp]
  exact implPointNamed_any _ _ _ _ _ _ _ _ h.r1 h.r2 h1 h2 (by omega) (by omega) h.cap
/-- The way back has as many routes. -/
theorem ChS.count (h : ChS A1 A2 c2 ps ss w) {n : Nat} (hn : (routesB ps ss a b).length = n) : Calls Try.prog 36 #[.agg #[.slice A1 ps.length c1, .slice A2 ss.length c2], .int .i64 a, .int .i64 b] w fun e w' => ∃ A c, e = .returned (.slice A n c) ∧ Below w.heap.size w w' := by
  refine (h.routes a b).mono ?_
  rintro e w' ⟨A, c, rfl, _, hb⟩
  exact ⟨A, c, by rw [hn], hb⟩
end

end Go.Proofs.Ytjmfgncakegjaaa
