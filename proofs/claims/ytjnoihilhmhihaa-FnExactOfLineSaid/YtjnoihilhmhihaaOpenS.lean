/-
  A ship, and a slice of ships, that came in, read as data.
-/
import Derived.Test.YtjnoihilhmhihaaOpen
import Derived.Test.YtjnoihilhmhihaaModelS
namespace Go.Proofs.Ytjnoihilhmhihaa
open Go.ChangeShapes Go.WideShapes Go.RowKit Go.Deep Go.Joins

def IsShips (w : World) (v : Value) (ps : List Ship) : Prop := ∃ A c, v = .slice A ps.length c ∧ Rd w w.heap.size Ship.at_ 6 A ps ∧ ps.length ≤ maxLen ∧ ∀ p ∈ ps, p.wf

section
variable {H : Type} {enc : TypeId × Value → H} {P : Program} {w : World} {base : Nat} {spare : Nat → Bool} {held : Bool}

theorem array6 {a : Array Value} (h : a.size = 6) : ∃ c0 c1 c2 c3 c4 c5, a = #[c0, c1, c2, c3, c4, c5] := by
  obtain ⟨l⟩ := a
  match l, h with
  | [c0, c1, c2, c3, c4, c5], _ => exact ⟨c0, c1, c2, c3, c4, c5, rfl⟩

/-- The fields' cells of a struct of one-cell fields. -/
theorem trod_fields {t : TypeId} {fs : Array Field} {fuel : Nat} {cs : List Value} {x : DataW H × List MemPlace} (he : P.underlying t = some (.struct fs)) (hone : oneCellFields P fs = true) (hl : cs.length = fs.size) (h : DataW.trod enc P w base spare held fuel t cs = some x) :
    ∀ (j : Nat) (f : Field) (v : Value), fs[j]? = some f → cs[j]? = some v → ∃ n y, DataW.trod enc P w base spare held n f.type [v] = some y := by
  intro j f v hj hv
  obtain ⟨ys, n', hn', hy, hlen, hyl, hf⟩ := DataW.trod_struct he h
  obtain ⟨ho, hk⟩ := hone_of hone j f hj
  have h1 := hf j f hj
  rw [ho, hk] at h1
  have hlt : j < cs.length := (List.getElem?_eq_some_iff.1 hv).1
  have hvv : cs[j] = v := (List.getElem?_eq_some_iff.1 hv).2
  have hone' : (cs.drop j).take 1 = [v] := by
    rw [List.drop_eq_getElem_cons hlt, hvv]
    rfl
  rw [hone'] at h1
  have hys : ys[j]? = some (ys[j]'(by omega)) := List.getElem?_eq_getElem (by omega)
  exact ⟨n', _, h1.trans hys⟩

theorem open_Ship {r : Reach} {b0 : Nat} {t : TypeId} {f0 f1 f2 f3 f4 f5 : Field} {v : Value} {d : DataW H} {p : List MemPlace} (hs : P.underlying t = some (.struct #[f0, f1, f2, f3, f4, f5])) (hone : oneCellFields P #[f0, f1, f2, f3, f4, f5] = true) (hC : P.cellsOf t = 6)
    (t0 : P.underlying f0.type = some .string) (t1 : P.underlying f1.type = some (.int .i64)) (t2 : P.underlying f2.type = some (.int .i64)) (t3 : P.underlying f3.type = some (.int .i64)) (t4 : P.underlying f4.type = some (.int .i64)) (t5 : P.underlying f5.type = some .bool)
    (hv : Value.okWide P w r b0 t v) (h : DataW.Trod enc P w base spare held t v d p) : ∃ x, IsShip w v x := by
  obtain ⟨cs, rfl, hsz⟩ := okWide_struct hs hv
  obtain ⟨c0, c1, c2, c3, c4, c5, rfl⟩ := array6 (hsz.trans hC)
  obtain ⟨fuel, hf⟩ := h
  have hfl := trod_fields hs hone (by rfl) hf
  obtain ⟨_, _, g0⟩ := hfl 0 f0 c0 rfl rfl
  obtain ⟨_, _, g1⟩ := hfl 1 f1 c1 rfl rfl
  obtain ⟨_, _, g2⟩ := hfl 2 f2 c2 rfl rfl
  obtain ⟨_, _, g3⟩ := hfl 3 f3 c3 rfl rfl
  obtain ⟨_, _, g4⟩ := hfl 4 f4 c4 rfl rfl
  obtain ⟨_, _, g5⟩ := hfl 5 f5 c5 rfl rfl
  obtain ⟨a0, rfl, w0⟩ := cell_string t0 g0
  obtain ⟨a1, rfl, w1⟩ := cell_int t1 g1
  obtain ⟨a2, rfl, w2⟩ := cell_int t2 g2
  obtain ⟨a3, rfl, w3⟩ := cell_int t3 g3
  obtain ⟨a4, rfl, w4⟩ := cell_int t4 g4
  obtain ⟨a5, rfl⟩ := cell_bool t5 g5
  exact ⟨⟨a0, a1, a2, a3, a4, a5⟩, rfl, w0, w1, w2, w3, w4⟩

theorem open_Ships {r : Reach} {b0 : Nat} {t e : TypeId} {f0 f1 f2 f3 f4 f5 : Field} {v : Value} {d : DataW H} {p : List MemPlace}
    (ht : P.underlying t = some (.slice e)) (he : P.underlying e = some (.struct #[f0, f1, f2, f3, f4, f5])) (hone : oneCellFields P #[f0, f1, f2, f3, f4, f5] = true) (hC : P.cellsOf e = 6)
    (t0 : P.underlying f0.type = some .string) (t1 : P.underlying f1.type = some (.int .i64)) (t2 : P.underlying f2.type = some (.int .i64)) (t3 : P.underlying f3.type = some (.int .i64)) (t4 : P.underlying f4.type = some (.int .i64)) (t5 : P.underlying f5.type = some .bool)
    (hv : Value.okWide P w r b0 t v) (h : DataW.Trod enc P w base spare held t v d p) : ∃ ps, IsShips w v ps := by
  obtain ⟨a0, len, cap, rfl⟩ := okWide_slice ht hv
  obtain ⟨fuel, hf⟩ := h
  obtain ⟨A, c, ps, hcs, h1, h2, hrd, hwf⟩ := open_recs (enc' := Ship.at_) (wf := Ship.wf)
    (Q := fun j v => match j with | 0 => ∃ x, v = .string x ∧ x.size ≤ maxLen | 5 => ∃ x, v = .bool x | _ => ∃ x, v = .int .i64 x ∧ I64 x) (size := 6) ht he hone hC rfl
    (fun j f hj n v y hy => by
      match j, hj with
      | 0, hj => simp at hj; subst hj; exact cell_string t0 hy
      | 1, hj => simp at hj; subst hj; exact cell_int t1 hy
      | 2, hj => simp at hj; subst hj; exact cell_int t2 hy
      | 3, hj => simp at hj; subst hj; exact cell_int t3 hy
      | 4, hj => simp at hj; subst hj; exact cell_int t4 hy
      | 5, hj => simp at hj; subst hj; exact cell_bool t5 hy)
    (fun V hV => by
      obtain ⟨a0, e0, w0⟩ := hV 0 (by omega)
      obtain ⟨a1, e1, w1⟩ := hV 1 (by omega)
      obtain ⟨a2, e2, w2⟩ := hV 2 (by omega)
      obtain ⟨a3, e3, w3⟩ := hV 3 (by omega)
      obtain ⟨a4, e4, w4⟩ := hV 4 (by omega)
      obtain ⟨a5, e5⟩ := hV 5 (by omega)
      exact ⟨⟨a0, a1, a2, a3, a4, a5⟩, ⟨w0, w1, w2, w3, w4⟩, fun j hj => by
        match j, hj with
        | 0, _ => exact e0
        | 1, _ => exact e1
        | 2, _ => exact e2
        | 3, _ => exact e3
        | 4, _ => exact e4
        | 5, _ => exact e5⟩)
    (by omega) hf
  simp only [Value.cells, List.cons.injEq, and_true, Value.slice.injEq] at hcs
  obtain ⟨rfl, rfl, rfl⟩ := hcs
  exact ⟨ps, _, _, rfl, hrd, by omega, hwf⟩
end

end Go.Proofs.Ytjnoihilhmhihaa
