/-
  Slices of single cells (bytes, strings, ints) that came in, read as lists.
-/
import Derived.Test.YtjmfgncakegjaaaOpen
import Derived.Test.YtjmfgncakegjaaaCur
namespace Go.Proofs.Ytjmfgncakegjaaa
open Go.ChangeShapes Go.WideShapes Go.RowKit Go.Deep

section
variable {H : Type} {enc : TypeId × Value → H} {P : Program} {w : World} {base : Nat} {spare : Nat → Bool} {held : Bool}

theorem open_elems {α : Type} {enc' : α → Nat → Value} {wf : α → Prop} {t e : TypeId} {fuel : Nat} {cs : List Value} {x : DataW H × List MemPlace}
    (ht : P.underlying t = some (.slice e)) (hC : P.cellsOf e = 1)
    (hQ : ∀ n v y, DataW.trod enc P w base spare held n e [v] = some y → ∃ x, v = enc' x 0 ∧ wf x)
    (h : DataW.trod enc P w base spare held fuel t cs = some x) :
    ∃ A c ps, cs = [.slice A ps.length c] ∧ ps.length ≤ c ∧ c ≤ maxLen ∧ Rd w w.heap.size enc' 1 A ps ∧ ∀ p ∈ ps, wf p := by
  rcases open_slice ht h with ⟨hcs, _⟩ | ⟨a, len, cap, m, n, D, Pl, hcs, hb, hl, hm, hmm, hx, hi⟩
  · exact ⟨none, 0, [], hcs, Nat.le_refl _, Nat.zero_le _, Rd.nil_, fun p hp => by cases hp⟩
  · have hlm : len ≤ m := by rw [hmm]; split <;> omega
    have each : ∀ i, i < len → ∃ x : α, wf x ∧ w.cell? (a.add i) = some (enc' x 0) := by
      intro i hil
      obtain ⟨cs', hc, ht'⟩ := hi i (by omega)
      rw [hC, Nat.mul_one] at hc
      obtain ⟨_, hcl, hat⟩ := World.cells?_some hc
      have hcell := hat 0 (by omega)
      match cs', hcl, ht', hcell with
      | [v], _, ht', hcell =>
        obtain ⟨x, rfl, hwf⟩ := hQ _ _ _ ht'
        exact ⟨x, hwf, by rw [Addr.add_zero'] at hcell; exact hcell⟩
    obtain ⟨ps, hpl, hps⟩ := list_of each
    refine ⟨some a, cap, ps, by rw [hpl]; exact hcs, by omega, hm, fun hn => ?_, fun p hp => ?_⟩
    · obtain ⟨g, off, spot⟩ := a
      have h0 := (hps 0 (ps[0]'hn) (List.getElem?_eq_getElem hn)).2
      rw [Addr.add_zero'] at h0
      have hspot : spot = none := World.cell?_spot h0
      subst hspot
      have hlt : g < w.heap.size := World.block_lt_of_cell? w _ h0
      refine ⟨g, off, rfl, hlt, fun k x hx j hj => ?_⟩
      have hj0 : j = 0 := by omega
      subst hj0
      rw [Nat.mul_one, Nat.add_zero, ← Addr.add_lit]
      exact (hps k x hx).2
    · obtain ⟨i, hi'⟩ := List.mem_iff_getElem?.1 hp
      exact (hps i p hi').1

def IsBytes (w : World) (v : Value) (zs : List Int) : Prop := ∃ A c, v = .slice A zs.length c ∧ Rd w w.heap.size byteAt 1 A zs ∧ zs.length ≤ maxLen ∧ ∀ z ∈ zs, 0 ≤ z ∧ z ≤ 255

theorem open_Bytes {r : Reach} {b0 : Nat} {t e : TypeId} {v : Value} {d : DataW H} {p : List MemPlace}
    (ht : P.underlying t = some (.slice e)) (he : P.underlying e = some (.int .u8)) (hC : P.cellsOf e = 1)
    (hv : Value.okWide P w r b0 t v) (h : DataW.Trod enc P w base spare held t v d p) : ∃ zs, IsBytes w v zs := by
  obtain ⟨a0, len, cap, rfl⟩ := okWide_slice ht hv
  obtain ⟨fuel, hf⟩ := h
  obtain ⟨A, c, ps, hcs, h1, h2, hrd, hwf⟩ := open_elems (enc' := byteAt) (wf := fun z => 0 ≤ z ∧ z ≤ 255) ht hC
    (fun n v y hy => by
      obtain ⟨a, e0, _, wa⟩ := DataW.trod_int he hy
      simp at e0
      refine ⟨a, e0, ?_⟩
      simp [Lit.wf, IntKind.min, IntKind.max, IntKind.signed, IntKind.bits] at wa
      omega) hf
  simp only [Value.cells, List.cons.injEq, and_true, Value.slice.injEq] at hcs
  obtain ⟨rfl, rfl, rfl⟩ := hcs
  exact ⟨ps, _, _, rfl, hrd, by omega, hwf⟩
end

end Go.Proofs.Ytjmfgncakegjaaa
