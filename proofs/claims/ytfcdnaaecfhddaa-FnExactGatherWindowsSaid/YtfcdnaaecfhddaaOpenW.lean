/-
  A slice of windows that came in, read as a list.
-/
import Derived.Test.YtfcdnaaecfhddaaOpen
import Derived.Test.YtfcdnaaecfhddaaModelW
namespace Go.Proofs.Ytfcdnaaecfhddaa
open Go.ChangeShapes Go.WideShapes Go.RowKit Go.Deep

def IsWindows (w : World) (v : Value) (ps : List Window) : Prop := ∃ A c, v = .slice A ps.length c ∧ Rd w w.heap.size Window.at_ 2 A ps ∧ ps.length ≤ maxLen ∧ ∀ p ∈ ps, p.wf

theorem open_Windows {H : Type} {enc : TypeId × Value → H} {P : Program} {w : World} {base : Nat} {spare : Nat → Bool} {held : Bool} {r : Reach} {b0 : Nat} {t e : TypeId} {f0 f1 : Field} {v : Value} {d : DataW H} {p : List MemPlace}
    (ht : P.underlying t = some (.slice e)) (he : P.underlying e = some (.struct #[f0, f1])) (hone : oneCellFields P #[f0, f1] = true) (hC : P.cellsOf e = 2) (t0 : P.underlying f0.type = some (.int .i64)) (t1 : P.underlying f1.type = some (.int .i64))
    (hv : Value.okWide P w r b0 t v) (h : DataW.Trod enc P w base spare held t v d p) : ∃ ps, IsWindows w v ps := by
  obtain ⟨a0, len, cap, rfl⟩ := okWide_slice ht hv
  obtain ⟨fuel, hf⟩ := h
  obtain ⟨A, c, ps, hcs, h1, h2, hrd, hwf⟩ := open_recs (enc' := Window.at_) (wf := Window.wf) (Q := fun _ v => ∃ x, v = .int .i64 x ∧ I64 x) (size := 2) ht he hone hC rfl
    (fun j f hj n v y hy => by
      match j, hj with
      | 0, hj => simp at hj; subst hj; exact cell_int t0 hy
      | 1, hj => simp at hj; subst hj; exact cell_int t1 hy)
    (fun V hV => by
      obtain ⟨x, hx, wx⟩ := hV 0 (by omega)
      obtain ⟨y, hy, wy⟩ := hV 1 (by omega)
      exact ⟨⟨x, y⟩, ⟨wx, wy⟩, fun j hj => by
        match j, hj with
        | 0, _ => exact hx
        | 1, _ => exact hy⟩)
    (by omega) hf
  simp only [Value.cells, List.cons.injEq, and_true, Value.slice.injEq] at hcs
  obtain ⟨rfl, rfl, rfl⟩ := hcs
  exact ⟨ps, _, _, rfl, hrd, by omega, hwf⟩

end Go.Proofs.Ytfcdnaaecfhddaa
