/-
  A chart that came in, read as data.
-/
import Derived.Test.YtjmfgncakegjaaaOpen
import Derived.Test.YtjmfgncakegjaaaModelC
namespace Go.Proofs.Ytjmfgncakegjaaa
open Go.ChangeShapes Go.WideShapes Go.RowKit Go.Deep Go.Joins

structure Chart where
  pts : List Point
  segs : List Segment
def IsChart (w : World) (v : Value) (x : Chart) : Prop := ∃ A c A' c', v = .agg #[.slice A x.pts.length c, .slice A' x.segs.length c'] ∧ (Rd w w.heap.size Point.at_ 2 A x.pts ∧ x.pts.length ≤ maxLen ∧ ∀ p ∈ x.pts, p.wf) ∧ (Rd w w.heap.size Segment.at_ 5 A' x.segs ∧ x.segs.length ≤ maxLen ∧ ∀ p ∈ x.segs, p.wf)

section
variable {H : Type} {enc : TypeId × Value → H} {P : Program} {w : World} {base : Nat} {spare : Nat → Bool} {held : Bool}

theorem open_pointS {t e : TypeId} {f0 f1 : Field} {fuel : Nat} {cs : List Value} {x : DataW H × List MemPlace}
    (ht : P.underlying t = some (.slice e)) (he : P.underlying e = some (.struct #[f0, f1])) (hone : oneCellFields P #[f0, f1] = true) (hC : P.cellsOf e = 2)
    (t0 : P.underlying f0.type = some .string) (t1 : P.underlying f1.type = some .bool)
    (hf : DataW.trod enc P w base spare held fuel t cs = some x) : ∃ A c ps, cs = [.slice A ps.length c] ∧ ps.length ≤ c ∧ c ≤ maxLen ∧ Rd w w.heap.size Point.at_ 2 A ps ∧ ∀ p ∈ ps, p.wf :=
  open_recs (enc' := Point.at_) (wf := Point.wf) (Q := fun j v => match j with | 0 => ∃ x, v = .string x ∧ x.size ≤ maxLen | _ => ∃ x, v = .bool x) (size := 2) ht he hone hC rfl
    (fun j f hj n v y hy => by
      match j, hj with
      | 0, hj => simp at hj; subst hj; exact cell_string t0 hy
      | 1, hj => simp at hj; subst hj; exact cell_bool t1 hy)
    (fun V hV => by
      obtain ⟨x, hx, wx⟩ := hV 0 (by omega)
      obtain ⟨y, hy⟩ := hV 1 (by omega)
      exact ⟨⟨x, y⟩, ⟨wx, trivial⟩, fun j hj => by
        match j, hj with
        | 0, _ => exact hx
        | 1, _ => exact hy⟩)
    (by omega) hf

theorem open_segmentS {t e : TypeId} {f0 f1 f2 f3 f4 : Field} {fuel : Nat} {cs : List Value} {x : DataW H × List MemPlace}
    (ht : P.underlying t = some (.slice e)) (he : P.underlying e = some (.struct #[f0, f1, f2, f3, f4])) (hone : oneCellFields P #[f0, f1, f2, f3, f4] = true) (hC : P.cellsOf e = 5)
    (t0 : P.underlying f0.type = some (.int .i64)) (t1 : P.underlying f1.type = some (.int .i64)) (t2 : P.underlying f2.type = some (.int .i64)) (t3 : P.underlying f3.type = some (.int .i64)) (t4 : P.underlying f4.type = some .bool)
    (hf : DataW.trod enc P w base spare held fuel t cs = some x) : ∃ A c ps, cs = [.slice A ps.length c] ∧ ps.length ≤ c ∧ c ≤ maxLen ∧ Rd w w.heap.size Segment.at_ 5 A ps ∧ ∀ p ∈ ps, p.wf :=
  open_recs (enc' := Segment.at_) (wf := Segment.wf) (Q := fun j v => match j with | 4 => ∃ x, v = .bool x | _ => ∃ x, v = .int .i64 x ∧ I64 x) (size := 5) ht he hone hC rfl
    (fun j f hj n v y hy => by
      match j, hj with
      | 0, hj => simp at hj; subst hj; exact cell_int t0 hy
      | 1, hj => simp at hj; subst hj; exact cell_int t1 hy
      | 2, hj => simp at hj; subst hj; exact cell_int t2 hy
      | 3, hj => simp at hj; subst hj; exact cell_int t3 hy
      | 4, hj => simp at hj; subst hj; exact cell_bool t4 hy)
    (fun V hV => by
      obtain ⟨a0, e0, w0⟩ := hV 0 (by omega)
      obtain ⟨a1, e1, w1⟩ := hV 1 (by omega)
      obtain ⟨a2, e2, w2⟩ := hV 2 (by omega)
      obtain ⟨a3, e3, w3⟩ := hV 3 (by omega)
      obtain ⟨a4, e4⟩ := hV 4 (by omega)
      exact ⟨⟨a0, a1, a2, a3, a4⟩, ⟨w0, w1, w2, w3⟩, fun j hj => by
        match j, hj with
        | 0, _ => exact e0
        | 1, _ => exact e1
        | 2, _ => exact e2
        | 3, _ => exact e3
        | 4, _ => exact e4⟩)
    (by omega) hf

theorem open_Chart {r : Reach} {b0 : Nat} {t tp ts e e' : TypeId} {g0 g1 q0 q1 f0 f1 f2 f3 f4 : Field} {v : Value} {d : DataW H} {p : List MemPlace} (hs : P.underlying t = some (.struct #[g0, g1])) (hone0 : oneCellFields P #[g0, g1] = true) (hC0 : P.cellsOf t = 2)
    (htp : g0.type = tp) (hts : g1.type = ts)
    (hp : P.underlying tp = some (.slice e)) (hpe : P.underlying e = some (.struct #[q0, q1])) (hpo : oneCellFields P #[q0, q1] = true) (hpC : P.cellsOf e = 2) (u0 : P.underlying q0.type = some .string) (u1 : P.underlying q1.type = some .bool)
    (ht : P.underlying ts = some (.slice e')) (he : P.underlying e' = some (.struct #[f0, f1, f2, f3, f4])) (hone : oneCellFields P #[f0, f1, f2, f3, f4] = true) (hC : P.cellsOf e' = 5)
    (t0 : P.underlying f0.type = some (.int .i64)) (t1 : P.underlying f1.type = some (.int .i64)) (t2 : P.underlying f2.type = some (.int .i64)) (t3 : P.underlying f3.type = some (.int .i64)) (t4 : P.underlying f4.type = some .bool)
    (hv : Value.okWide P w r b0 t v) (h : DataW.Trod enc P w base spare held t v d p) : ∃ x, IsChart w v x := by
  obtain ⟨c0, c1, y0, y1, n, rfl, rfl, rfl, hy0, hy1⟩ := open_agg2 hs hone0 hC0 hv h
  subst htp hts
  obtain ⟨A, c, ps, hcs, h1, h2, hrd, hwf⟩ := open_pointS hp hpe hpo hpC u0 u1 hy0
  obtain ⟨A', c', ss, hcs', h1', h2', hrd', hwf'⟩ := open_segmentS ht he hone hC t0 t1 t2 t3 t4 hy1
  simp only [List.cons.injEq, and_true] at hcs hcs'
  subst hcs hcs'
  exact ⟨⟨ps, ss⟩, A, c, A', c', rfl, ⟨hrd, by show ps.length ≤ maxLen; omega, hwf⟩, ⟨hrd', by show ss.length ≤ maxLen; omega, hwf'⟩⟩
end

end Go.Proofs.Ytjmfgncakegjaaa
