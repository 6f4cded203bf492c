/-
  Arguments opened to plain data, by the shape of their types: an int, a struct of ints by value, a slice of structs. Program and numbering are variables.
-/
import Derived.Test.YtjmfgncakegjaaaLift
import Derived.Test.YtjmfgncakegjaaaModel
namespace Go.Proofs.Ytjmfgncakegjaaa
open Go.ChangeShapes Go.WideShapes Go.RowKit Go.Deep Go.Joins

def IsInt (_ : World) (v : Value) (x : Int) : Prop := v = .int .i64 x ∧ I64 x
def IsStr (_ : World) (v : Value) (x : ByteArray) : Prop := v = .string x ∧ x.size ≤ maxLen
def IsPart (_ : World) (v : Value) (x : Part) : Prop := v = .agg #[.int .i64 x.amp, .int .i64 x.period, .int .i64 x.phase] ∧ x.wf

/-- From 'for every i below n there is an x' to a list. -/
theorem list_of {α : Type} {n : Nat} {p : Nat → α → Prop} (h : ∀ i, i < n → ∃ x, p i x) : ∃ xs : List α, xs.length = n ∧ ∀ i x, xs[i]? = some x → p i x := by
  induction n with
  | zero => exact ⟨[], rfl, fun i x hx => by simp at hx⟩
  | succ n ih =>
    obtain ⟨xs, hl, hp⟩ := ih fun i hi => h i (by omega)
    obtain ⟨y, hy⟩ := h n (by omega)
    refine ⟨xs ++ [y], by simp [hl], fun i x hx => ?_⟩
    by_cases hi : i < n
    · rw [List.getElem?_append_left (by omega)] at hx
      exact hp i x hx
    · rw [List.getElem?_append_right (by omega)] at hx
      have : i - xs.length = 0 := by
        by_cases h0 : i - xs.length = 0
        · exact h0
        · rw [List.getElem?_eq_none (by simp; omega)] at hx
          cases hx
      rw [this] at hx
      simp at hx
      subst hx
      have : i = n := by omega
      subst this
      exact hy

section
variable {H : Type} {enc : TypeId × Value → H} {P : Program} {w : World} {base : Nat} {spare : Nat → Bool} {held : Bool}

theorem open_Int {r : Reach} {b0 : Nat} {t : TypeId} {v : Value} {d : DataW H} {p : List MemPlace} (ht : P.underlying t = some (.int .i64)) (hval : Value.okWide P w r b0 t v) (h : DataW.Trod enc P w base spare held t v d p) :
    ∃ x, IsInt w v x := by
  obtain ⟨n, rfl, _, _, hw⟩ := open_int ht hval h
  exact ⟨n, rfl, wf64 hw⟩

theorem open_Str {r : Reach} {b0 : Nat} {t : TypeId} {v : Value} {d : DataW H} {p : List MemPlace} (ht : P.underlying t = some .string) (hval : Value.okWide P w r b0 t v) (h : DataW.Trod enc P w base spare held t v d p) :
    ∃ x, IsStr w v x := by
  obtain ⟨s, rfl, _, _, hw⟩ := Go.ChangeMaps.open_string ht hval h
  exact ⟨s, rfl, hw⟩

theorem cell_int {t : TypeId} {n : Nat} {v : Value} {y : DataW H × List MemPlace} (ht : P.underlying t = some (.int .i64)) (h : DataW.trod enc P w base spare held n t [v] = some y) : ∃ x, v = .int .i64 x ∧ I64 x := by
  obtain ⟨a, e0, _, wa⟩ := DataW.trod_int ht h
  simp at e0
  exact ⟨a, e0, wf64 wa⟩
theorem cell_bool {t : TypeId} {n : Nat} {v : Value} {y : DataW H × List MemPlace} (ht : P.underlying t = some .bool) (h : DataW.trod enc P w base spare held n t [v] = some y) : ∃ x, v = .bool x := by
  obtain ⟨a, e0, _⟩ := DataW.trod_bool ht h
  simp at e0
  exact ⟨a, e0⟩
theorem cell_string {t : TypeId} {n : Nat} {v : Value} {y : DataW H × List MemPlace} (ht : P.underlying t = some .string) (h : DataW.trod enc P w base spare held n t [v] = some y) : ∃ x, v = .string x ∧ x.size ≤ maxLen := by
  obtain ⟨a, e0, _, wa⟩ := DataW.trod_string ht h
  simp at e0
  exact ⟨a, e0, wa⟩

theorem open_Part {r : Reach} {b0 : Nat} {t : TypeId} {f0 f1 f2 : Field} {v : Value} {d : DataW H} {p : List MemPlace} (hs : P.underlying t = some (.struct #[f0, f1, f2])) (hone : oneCellFields P #[f0, f1, f2] = true) (hC : P.cellsOf t = 3)
    (t0 : P.underlying f0.type = some (.int .i64)) (t1 : P.underlying f1.type = some (.int .i64)) (t2 : P.underlying f2.type = some (.int .i64))
    (hv : Value.okWide P w r b0 t v) (h : DataW.Trod enc P w base spare held t v d p) : ∃ x, IsPart w v x := by
  obtain ⟨c0, c1, c2, y0, y1, y2, n, rfl, rfl, rfl, hy0, hy1, hy2⟩ := open_agg3 hs hone hC hv h
  obtain ⟨a, rfl, wa⟩ := cell_int t0 hy0
  obtain ⟨b, rfl, wb⟩ := cell_int t1 hy1
  obtain ⟨c, rfl, wc⟩ := cell_int t2 hy2
  exact ⟨⟨a, b, c⟩, rfl, wa, wb, wc⟩

/-- A slice of records of one-cell fields, read as a list of records. -/
theorem open_recs {α : Type} {enc' : α → Nat → Value} {wf : α → Prop} {Q : Nat → Value → Prop} {size : Nat} {t e : TypeId} {fs : Array Field} {fuel : Nat} {cs : List Value} {x : DataW H × List MemPlace}
    (ht : P.underlying t = some (.slice e)) (he : P.underlying e = some (.struct fs)) (hone : oneCellFields P fs = true) (hC : P.cellsOf e = fs.size) (hsz : fs.size = size)
    (hQ : ∀ j f, fs[j]? = some f → ∀ n v y, DataW.trod enc P w base spare held n f.type [v] = some y → Q j v)
    (hmk : ∀ V : Nat → Value, (∀ j, j < size → Q j (V j)) → ∃ x, wf x ∧ ∀ j, j < size → V j = enc' x j)
    (hpos : 0 < size) (h : DataW.trod enc P w base spare held fuel t cs = some x) :
    ∃ A c ps, cs = [.slice A ps.length c] ∧ ps.length ≤ c ∧ c ≤ maxLen ∧ Rd w w.heap.size enc' size A ps ∧ ∀ p ∈ ps, wf p := by
  subst hsz
  rcases open_slice ht h with ⟨hcs, _⟩ | ⟨a, len, cap, m, n, D, Pl, hcs, hb, hl, hm, hmm, hx, hi⟩
  · exact ⟨none, 0, [], hcs, Nat.le_refl _, Nat.zero_le _, Rd.nil_, fun p hp => by cases hp⟩
  · have hlm : len ≤ m := by rw [hmm]; split <;> omega
    have each : ∀ i, i < len → ∃ x : α, wf x ∧ ∀ j, j < fs.size → w.cell? (a.add (i * fs.size + j)) = some (enc' x j) := by
      intro i hil
      obtain ⟨cs', hc, ht'⟩ := hi i (by omega)
      rw [hC] at hc
      obtain ⟨ys, n', hn', hy, hlen, hyl, hf⟩ := DataW.trod_struct he ht'
      obtain ⟨_, hcl, hat⟩ := World.cells?_some hc
      have hV : ∀ j, j < fs.size → ∃ v, w.cell? (a.add (i * fs.size + j)) = some v ∧ Q j v := by
        intro j hj
        have hfj : fs[j]? = some fs[j] := Array.getElem?_eq_getElem hj
        obtain ⟨ho, hk⟩ := hone_of hone j _ hfj
        have hcell := hat j hj
        have hv : cs'[j]? = some (cs'[j]'(by omega)) := List.getElem?_eq_getElem (by omega)
        have h1 := hf j _ hfj
        rw [ho, hk] at h1
        have hone' : (cs'.drop j).take 1 = [cs'[j]'(by omega)] := by
          rw [List.drop_eq_getElem_cons (by omega)]
          rfl
        rw [hone'] at h1
        have hys : ys[j]? = some (ys[j]'(by omega)) := List.getElem?_eq_getElem (by omega)
        refine ⟨_, ?_, hQ j _ hfj _ _ _ (h1.trans hys)⟩
        rw [← Go.Deep.add_add, hcell, hv]
      obtain ⟨V, hV'⟩ : ∃ V : Nat → Value, ∀ j, j < fs.size → w.cell? (a.add (i * fs.size + j)) = some (V j) ∧ Q j (V j) := by
        classical
        refine ⟨fun j => if hj : j < fs.size then Classical.choose (hV j hj) else .bool false, fun j hj => ?_⟩
        simp only [dif_pos hj]
        exact Classical.choose_spec (hV j hj)
      obtain ⟨x, hwf, hx⟩ := hmk V fun j hj => (hV' j hj).2
      exact ⟨x, hwf, fun j hj => by rw [(hV' j hj).1, hx j hj]⟩
    obtain ⟨ps, hpl, hps⟩ := list_of each
    refine ⟨some a, cap, ps, by rw [hpl]; exact hcs, by omega, hm, fun hn => ?_, fun p hp => ?_⟩
    · obtain ⟨g, off, spot⟩ := a
      have h0 := (hps 0 (ps[0]'hn) (List.getElem?_eq_getElem hn)).2 0 hpos
      rw [Nat.zero_mul, Nat.zero_add, Addr.add_zero'] at h0
      have hspot : spot = none := World.cell?_spot h0
      subst hspot
      have hlt : g < w.heap.size := World.block_lt_of_cell? w _ h0
      refine ⟨g, off, rfl, hlt, fun k x hx j hj => ?_⟩
      rw [Nat.add_assoc, ← Addr.add_lit]
      exact (hps k x hx).2 j hj
    · obtain ⟨i, hi'⟩ := List.mem_iff_getElem?.1 hp
      exact (hps i p hi').1
end

end Go.Proofs.Ytjmfgncakegjaaa
