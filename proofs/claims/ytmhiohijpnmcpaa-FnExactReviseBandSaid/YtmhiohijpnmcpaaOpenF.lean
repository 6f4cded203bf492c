/-
  A forecast that came in, read as data.
-/
import Derived.Test.YtmhiohijpnmcpaaOpenT
import Derived.Test.YtmhiohijpnmcpaaModelF
import Derived.ChangeSame
namespace Go.Proofs.Ytmhiohijpnmcpaa
open Go.ChangeShapes Go.WideShapes Go.RowKit Go.Deep Go.Joins

structure Forecast where
  mean : Int
  parts : List Part
  surges : List Surge
def IsForecast (w : World) (v : Value) (x : Forecast) : Prop := ∃ A c A' c', v = .agg #[.int .i64 x.mean, .slice A x.parts.length c, .slice A' x.surges.length c'] ∧ (Rd w w.heap.size Part.at_ 3 A x.parts ∧ x.parts.length ≤ maxLen ∧ ∀ p ∈ x.parts, p.wf) ∧ (Rd w w.heap.size Surge.at_ 3 A' x.surges ∧ x.surges.length ≤ maxLen ∧ ∀ p ∈ x.surges, p.wf)

section
variable {H : Type} {enc : TypeId × Value → H} {P : Program} {w : World} {base : Nat} {spare : Nat → Bool} {held : Bool}

theorem array3 {a : Array Value} (h : a.size = 3) : ∃ c0 c1 c2, a = #[c0, c1, c2] := by
  obtain ⟨l⟩ := a
  match l, h with
  | [c0, c1, c2], _ => exact ⟨c0, c1, c2, rfl⟩

theorem open_surgeS {t e : TypeId} {f0 f1 f2 : Field} {fuel : Nat} {cs : List Value} {x : DataW H × List MemPlace}
    (ht : P.underlying t = some (.slice e)) (he : P.underlying e = some (.struct #[f0, f1, f2])) (hone : oneCellFields P #[f0, f1, f2] = true) (hC : P.cellsOf e = 3)
    (t0 : P.underlying f0.type = some (.int .i64)) (t1 : P.underlying f1.type = some (.int .i64)) (t2 : P.underlying f2.type = some (.int .i64))
    (hf : DataW.trod enc P w base spare held fuel t cs = some x) : ∃ A c ps, cs = [.slice A ps.length c] ∧ ps.length ≤ c ∧ c ≤ maxLen ∧ Rd w w.heap.size Surge.at_ 3 A ps ∧ ∀ p ∈ ps, p.wf :=
  open_recs (enc' := Surge.at_) (wf := Surge.wf) (Q := fun _ v => ∃ x, v = .int .i64 x ∧ I64 x) (size := 3) ht he hone hC rfl
    (fun j f hj n v y hy => by
      match j, hj with
      | 0, hj => simp at hj; subst hj; exact cell_int t0 hy
      | 1, hj => simp at hj; subst hj; exact cell_int t1 hy
      | 2, hj => simp at hj; subst hj; exact cell_int t2 hy)
    (fun V hV => by
      obtain ⟨x, hx, wx⟩ := hV 0 (by omega)
      obtain ⟨y, hy, wy⟩ := hV 1 (by omega)
      obtain ⟨z, hz, wz⟩ := hV 2 (by omega)
      exact ⟨⟨x, y, z⟩, ⟨wx, wy, wz⟩, fun j hj => by
        match j, hj with
        | 0, _ => exact hx
        | 1, _ => exact hy
        | 2, _ => exact hz⟩)
    (by omega) hf

theorem open_Forecast {r : Reach} {b0 : Nat} {t tt tp ts ep es : TypeId} {g0 g1 q0 q1 f0 f1 f2 s0 s1 s2 : Field} {v : Value} {d : DataW H} {p : List MemPlace}
    (hs : P.underlying t = some (.struct #[g0, g1])) (hC0 : P.cellsOf t = 3) (o0 : g0.offset = 0) (k0 : P.cellsOf g0.type = 2) (o1 : g1.offset = 2) (k1 : P.cellsOf g1.type = 1)
    (htt : g0.type = tt) (hts : g1.type = ts)
    (hT : P.underlying tt = some (.struct #[q0, q1])) (oq0 : q0.offset = 0) (kq0 : P.cellsOf q0.type = 1) (oq1 : q1.offset = 1) (kq1 : P.cellsOf q1.type = 1) (u0 : P.underlying q0.type = some (.int .i64)) (htp : q1.type = tp)
    (hp : P.underlying tp = some (.slice ep)) (he : P.underlying ep = some (.struct #[f0, f1, f2])) (hone : oneCellFields P #[f0, f1, f2] = true) (hC : P.cellsOf ep = 3)
    (t0 : P.underlying f0.type = some (.int .i64)) (t1 : P.underlying f1.type = some (.int .i64)) (t2 : P.underlying f2.type = some (.int .i64))
    (hu : P.underlying ts = some (.slice es)) (hes : P.underlying es = some (.struct #[s0, s1, s2])) (hos : oneCellFields P #[s0, s1, s2] = true) (hCs : P.cellsOf es = 3)
    (w0 : P.underlying s0.type = some (.int .i64)) (w1 : P.underlying s1.type = some (.int .i64)) (w2 : P.underlying s2.type = some (.int .i64))
    (hv : Value.okWide P w r b0 t v) (h : DataW.Trod enc P w base spare held t v d p) : ∃ x, IsForecast w v x := by
  obtain ⟨cs, rfl, hsz⟩ := okWide_struct hs hv
  obtain ⟨c0, c1, c2, rfl⟩ := array3 (hsz.trans hC0)
  obtain ⟨fuel, hf⟩ := h
  obtain ⟨y0, y1, n, _, _, e0, e1⟩ := trod_struct2 hs hf
  rw [o0, k0] at e0
  rw [o1, k1] at e1
  subst htt hts
  obtain ⟨z0, z1, n', _, _, d0, d1⟩ := trod_struct2 hT e0
  rw [oq0, kq0] at d0
  rw [oq1, kq1] at d1
  subst htp
  obtain ⟨a, rfl, wa⟩ := cell_int u0 (v := c0) d0
  obtain ⟨A, c, ps, hcs, h1, h2, hrd, hwf⟩ := open_partS hp he hone hC t0 t1 t2 (cs := [c1]) d1
  obtain ⟨A', c', ss, hcs', h1', h2', hrd', hwf'⟩ := open_surgeS hu hes hos hCs w0 w1 w2 (cs := [c2]) e1
  simp only [List.cons.injEq, and_true] at hcs hcs'
  subst hcs hcs'
  exact ⟨⟨a, ps, ss⟩, A, c, A', c', rfl, ⟨hrd, by show ps.length ≤ maxLen; omega, hwf⟩, ⟨hrd', by show ss.length ≤ maxLen; omega, hwf'⟩⟩
end

end Go.Proofs.Ytmhiohijpnmcpaa
