/-
  A tide that came in, read as data.
-/
import Derived.Test.YtmhiohijpnmcpaaOpen
namespace Go.Proofs.Ytmhiohijpnmcpaa
open Go.ChangeShapes Go.WideShapes Go.RowKit Go.Deep Go.Joins

structure Tide where
  mean : Int
  parts : List Part
def IsTide (w : World) (v : Value) (x : Tide) : Prop := ∃ A c, v = .agg #[.int .i64 x.mean, .slice A x.parts.length c] ∧ Rd w w.heap.size Part.at_ 3 A x.parts ∧ x.parts.length ≤ maxLen ∧ ∀ p ∈ x.parts, p.wf

section
variable {H : Type} {enc : TypeId × Value → H} {P : Program} {w : World} {base : Nat} {spare : Nat → Bool} {held : Bool}

theorem open_partS {t e : TypeId} {f0 f1 f2 : Field} {fuel : Nat} {cs : List Value} {x : DataW H × List MemPlace}
    (ht : P.underlying t = some (.slice e)) (he : P.underlying e = some (.struct #[f0, f1, f2])) (hone : oneCellFields P #[f0, f1, f2] = true) (hC : P.cellsOf e = 3)
    (t0 : P.underlying f0.type = some (.int .i64)) (t1 : P.underlying f1.type = some (.int .i64)) (t2 : P.underlying f2.type = some (.int .i64))
    (hf : DataW.trod enc P w base spare held fuel t cs = some x) : ∃ A c ps, cs = [.slice A ps.length c] ∧ ps.length ≤ c ∧ c ≤ maxLen ∧ Rd w w.heap.size Part.at_ 3 A ps ∧ ∀ p ∈ ps, p.wf :=
  open_recs (enc' := Part.at_) (wf := Part.wf) (Q := fun _ v => ∃ x, v = .int .i64 x ∧ I64 x) (size := 3) ht he hone hC rfl
    (fun j f hj n v y hy => by
      match j, hj with
      | 0, hj => simp at hj; subst hj; exact cell_int t0 hy
      | 1, hj => simp at hj; subst hj; exact cell_int t1 hy
      | 2, hj => simp at hj; subst hj; exact cell_int t2 hy)
    (fun V hV => by
      obtain ⟨x, hx, wx⟩ := hV 0 (by omega)
      obtain ⟨y, hy, wy⟩ := hV 1 (by omega)
      obtain ⟨z, hz, wz⟩ := hV 2 (by omega)
      exact ⟨⟨x, y, z⟩, ⟨wx, wy, wz⟩, fun j hj => by
        match j, hj with
        | 0, _ => exact hx
        | 1, _ => exact hy
        | 2, _ => exact hz⟩)
    (by omega) hf

theorem open_Tide {r : Reach} {b0 : Nat} {t ts e : TypeId} {g0 g1 f0 f1 f2 : Field} {v : Value} {d : DataW H} {p : List MemPlace} (hs : P.underlying t = some (.struct #[g0, g1])) (hone0 : oneCellFields P #[g0, g1] = true) (hC0 : P.cellsOf t = 2)
    (u0 : P.underlying g0.type = some (.int .i64)) (hts : g1.type = ts) (ht : P.underlying ts = some (.slice e)) (he : P.underlying e = some (.struct #[f0, f1, f2])) (hone : oneCellFields P #[f0, f1, f2] = true) (hC : P.cellsOf e = 3)
    (t0 : P.underlying f0.type = some (.int .i64)) (t1 : P.underlying f1.type = some (.int .i64)) (t2 : P.underlying f2.type = some (.int .i64))
    (hv : Value.okWide P w r b0 t v) (h : DataW.Trod enc P w base spare held t v d p) : ∃ x, IsTide w v x := by
  obtain ⟨c0, c1, y0, y1, n, rfl, rfl, rfl, hy0, hy1⟩ := open_agg2 hs hone0 hC0 hv h
  obtain ⟨a, rfl, wa⟩ := cell_int u0 hy0
  subst hts
  obtain ⟨A, c, ps, hcs, h1, h2, hrd, hwf⟩ := open_partS ht he hone hC t0 t1 t2 hy1
  simp only [List.cons.injEq, and_true] at hcs
  subst hcs
  exact ⟨⟨a, ps⟩, A, c, rfl, hrd, by show ps.length ≤ maxLen; omega, hwf⟩
end

end Go.Proofs.Ytmhiohijpnmcpaa
