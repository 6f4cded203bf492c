/-
  A drawn region shown by an invariant, not order by order: frames that differ in listed slots, own rows that lie apart, one law for each kind of operation.
-/
import Derived.OrdersHeld
import Derived.Great.BuildSlice
import Derived.Test.YtjmfgncakegjaaaRtB
namespace Go.Proofs.Ytjmfgncakegjaaa
open Go.RowKit

def upd (x : Nat → Value) (d : Nat) (v : Value) : Nat → Value := fun j => if j = d then v else x j
/-- The frame a, the slots L as x says. -/
def FrL : List Nat → Act → (Nat → Value) → Act
  | [], a, _ => a
  | d :: L, a, x => FrL L (a.put (some d) (x d)) x

section
theorem put_over (a : Act) (d : Nat) (u v : Value) : (a.put (some d) u).put (some d) v = a.put (some d) v := by
  simp [Act.put, Array.setIfInBounds_setIfInBounds]
theorem FrL_out : ∀ (L : List Nat) (a : Act) (x : Nat → Value) (d : Nat) (v : Value), d ∉ L → (FrL L a x).put (some d) v = FrL L (a.put (some d) v) x
  | [], _, _, _, _, _ => rfl
  | e :: L, a, x, d, v, h => by
    simp at h
    rw [FrL, FrL_out L _ x d v h.2, FrL, Act.put_comm a (x e) v (fun t ht => by cases ht; intro h'; cases h'; exact h.1 rfl)]
theorem FrL_congr : ∀ (L : List Nat) (a : Act) (x y : Nat → Value), (∀ d ∈ L, x d = y d) → FrL L a x = FrL L a y
  | [], _, _, _, _ => rfl
  | e :: L, a, x, y, h => by
    rw [FrL, FrL, h e (by simp), FrL_congr L _ x y (fun d hd => h d (by simp [hd]))]
theorem FrL_put : ∀ (L : List Nat) (a : Act) (x : Nat → Value) (d : Nat) (v : Value), L.Nodup → d ∈ L → (FrL L a x).put (some d) v = FrL L a (upd x d v)
  | [], _, _, _, _, _, h => by simp at h
  | e :: L, a, x, d, v, hn, h => by
    rw [List.nodup_cons] at hn
    by_cases hde : d = e
    · subst hde
      rw [FrL, FrL_out L _ x d v hn.1, put_over, FrL]
      have h1 : upd x d v d = v := by simp [upd]
      rw [h1]
      exact FrL_congr L _ _ _ (fun k hk => by
        have : k ≠ d := fun h => hn.1 (h ▸ hk)
        simp [upd, this])
    · have hd : d ∈ L := by
        rcases List.mem_cons.1 h with h | h
        · exact absurd h hde
        · exact h
      rw [FrL, FrL_put L _ x d v hn.2 hd, FrL]
      have h1 : upd x d v e = x e := by
        have : e ≠ d := fun h => hde h.symm
        simp [upd, this]
      rw [h1]
theorem put_size (a : Act) (d : Nat) (v : Value) : (a.put (some d) v).tmps.size = a.tmps.size := by simp [Act.put]
theorem FrL_size : ∀ (L : List Nat) (a : Act) (x : Nat → Value), (FrL L a x).tmps.size = a.tmps.size
  | [], _, _ => rfl
  | e :: L, a, x => by rw [FrL, FrL_size L, put_size]
theorem FrL_far : ∀ (L : List Nat) (a : Act) (x : Nat → Value) (j : Nat), j ∉ L → (FrL L a x).tmps[j]? = a.tmps[j]?
  | [], _, _, _, _ => rfl
  | e :: L, a, x, j, h => by
    simp at h
    rw [FrL, FrL_far L _ x j h.2]
    exact Array.getElem?_setIfInBounds_ne (fun e' => h.1 e'.symm)
theorem FrL_at : ∀ (L : List Nat) (a : Act) (x : Nat → Value) (j : Nat), L.Nodup → j ∈ L → j < a.tmps.size → (FrL L a x).tmps[j]? = some (x j)
  | [], _, _, _, _, h, _ => by simp at h
  | e :: L, a, x, j, hn, h, hs => by
    rw [List.nodup_cons] at hn
    rw [FrL]
    by_cases hj : j ∈ L
    · exact FrL_at L _ x j hn.2 hj (by rw [put_size]; exact hs)
    · have he : j = e := by
        rcases List.mem_cons.1 h with h | h
        · exact h
        · exact absurd h hj
      subst he
      rw [FrL_far L _ x j hj]
      simp [Act.put, hs]
theorem FrL_eval {L : List Nat} {a : Act} {x : Nat → Value} {j : Nat} (hn : L.Nodup) (hj : j ∈ L) (hs : j < a.tmps.size) : (FrL L a x).eval (.tmp j) = x j := by
  show (FrL L a x).tmps.getD j undef = x j
  rw [Array.getD_eq_getD_getElem?, FrL_at L a x j hn hj hs]
  rfl
theorem put_same (a : Act) (d : Nat) : a.put (some d) (a.tmps.getD d undef) = a := by
  obtain ⟨t, ds⟩ := a
  show ({ tmps := t.setIfInBounds d (t.getD d undef), defers := ds } : Act) = { tmps := t, defers := ds }
  congr 1
  apply Array.ext_getElem?
  intro i
  by_cases h : d = i
  · subst h
    rcases Nat.lt_or_ge d t.size with hd | hd
    · rw [Array.getElem?_setIfInBounds_self_of_lt hd]
      simp [hd]
    · rw [Array.getElem?_eq_none hd, Array.getElem?_eq_none (by simpa using hd)]
  · rw [Array.getElem?_setIfInBounds_ne h]
theorem FrL_self : ∀ (L : List Nat) (a : Act), FrL L a (fun j => a.tmps.getD j undef) = a
  | [], _ => rfl
  | e :: L, a => by rw [FrL, put_same, FrL_self L a]
end

/-- Operation i of a region: unguarded, its slot, what it is. -/
def IsOp (ops : Array Oper) (i d : Nat) (op : Op) : Prop := ∃ o, ops[i]? = some o ∧ o.guard = none ∧ o.dst = some d ∧ o.op = op

section
variable {P : Program} {ops : Array Oper} {Q : Exit → Act → World → Prop} {i d : Nat} {K : Act → World → Prop} {a : Act} {w : World} {op : Op}
theorem wpOp_of (h : IsOp ops i d op) (hh : ∀ o : Oper, o.op = op → o.dst = some d → o.wp P a w K Q) : wpOp P ops Q i K a w := by
  obtain ⟨o, h1, h2, h3, h4⟩ := h
  unfold wpOp
  simp only [h1]
  rw [if_pos (by simp [Region.wanted, h2])]
  exact .inl (hh o h4 h3)
theorem wpOp_runs (h : IsOp ops i d op) (v : Value) (w' : World) (hr : ∀ o : Oper, o.op = op → (execOp a.eval o).run P w = .ok (.value v) w') (hh : K (a.put (some d) v) w') : wpOp P ops Q i K a w :=
  wpOp_of h fun o ho hd => by
    unfold Oper.wp
    rw [hr o ho, Oper.upon_value, hd]
    exact hh
theorem wpOp_calls (h : IsOp ops i d op) (f : FuncId) (vs : Array Value) (hr : ∀ o : Oper, o.op = op → (execOp a.eval o).run P w = .ok (.enter f vs) w) (hh : Calls P f vs w fun e w' => ∃ u, e = .returned u ∧ K (a.put (some d) u) w') : wpOp P ops Q i K a w :=
  wpOp_of h fun o ho hd => by
    unfold Oper.wp
    rw [hr o ho, Oper.upon_enter]
    refine hh.mono ?_
    rintro e w' ⟨u, rfl, hk⟩
    rw [hd]
    exact hk
theorem run_buildEmpty (t e : TypeId) (ie : TypeInfo) (hu : P.underlying t = some (.slice e)) (hi : P.info? e = some ie) (w : World) : (Instr.buildSlice t 0 #[]).run P w = .ok (.slice (some ⟨w.heap.size, 0, none⟩) 0 0) (w.alloc (.cells #[] e)) := by
  simp [Instr.buildSlice, run_underlying hu, sizeOf, typeInfo, hi, newRow, Instr.fill]
  rw [show Array.range 0 = #[] from by simp [Array.range], Array.map_empty]
theorem run_buildInt (t e : TypeId) (ie : TypeInfo) (hu : P.underlying t = some (.slice e)) (hi : P.info? e = some ie) (hz : ie.zero = some (.int .i64 0)) (hs : ie.size = 1) (x : Int) (w : World) : (Instr.buildSlice t 1 #[(0, .int .i64 x)]).run P w = .ok (.slice (some ⟨w.heap.size, 0, none⟩) 1 1) (w.alloc (.cells #[.int .i64 x] e)) := by
  refine run_buildSlice w t e 1 _ #[.int .i64 x] ie _ hu hi hz (by rw [hs]; decide) (by rw [hs]; decide) ?_
  rw [hs]
  simp [Instr.fill, Array.range, Value.cells]
  apply Array.ext
  · simp
  · intro i h1 h2
    have h0 : i = 0 := by simp at h2; omega
    subst h0
    simp
end

section
variable {P : Program} {ops : Array Oper} {Q : Exit → Act → World → Prop} {S : World → Prop} {i d : Nat} {a : Act} {w : World} {op : Op} {fuel : Nat} {listed : Array Bool} {v : Value}
def takeOk (ops : Array Oper) (listed : Array Bool) (i : Nat) : Bool := Region.free .any ops listed i && (Region.ready .any ops listed).contains i
theorem wpAnyH_takeD (h : IsOp ops i d op) (hs : Region.noSelect ops = true) (ht : takeOk ops listed i = true) (hQ : ∀ c a (d : Nat) v w, Q (.panic c) (Act.put a (some d) v) w → Q (.panic c) a w)
    (hy : ∀ o : Oper, o.op = op → ∀ w, S w → (execOp a.eval o).run P w = .ok (.value v) w) (hS : S w) (hh : wpAnyH P .any ops Q S fuel (listed.setIfInBounds i true) (a.put (some d) v) w) : wpAnyH P .any ops Q S (fuel + 1) listed a w := by
  obtain ⟨o, h1, h2, h3, h4⟩ := h
  unfold takeOk at ht
  rw [Bool.and_eq_true] at ht
  exact wpAnyH_take h1 hs ht.1 ht.2 (fun c a w h => hQ c a _ _ w (by rw [h3] at h; exact h)) (Or.inl ⟨by simp [Region.wanted, h2], hy o h4⟩) hS (by rw [h3]; exact hh)
theorem run_moves {x : Operand} (h : a.eval x = v) : ∀ o : Oper, o.op = .move x → ∀ w, S w → (execOp a.eval o).run P w = .ok (.value v) w := fun o ho w _ => by
  unfold execOp
  simp only [ho, h, Sem.run_pure]
theorem eval_put_ne {j : Nat} (h : d ≠ j) : (a.put (some d) v).eval (.tmp j) = a.eval (.tmp j) := Act.eval_put fun e he hx => by
  cases he
  cases hx
  exact h rfl
theorem FrL_over : ∀ (L : List Nat) (a : Act) (x : Nat → Value) (d : Nat) (v : Value), L.Nodup → d ∈ L → FrL L (a.put (some d) v) x = FrL L a x
  | [], _, _, _, _, _, h => by simp at h
  | e :: L, a, x, d, v, hn, h => by
    rw [List.nodup_cons] at hn
    rw [FrL, FrL]
    by_cases hde : d = e
    · subst hde
      rw [put_over]
    · have hd : d ∈ L := by
        rcases List.mem_cons.1 h with h | h
        · exact absurd h hde
        · exact h
      rw [Act.put_comm a v (x e) (fun t ht => by cases ht; intro h'; cases h'; exact hde rfl), FrL_over L _ x d v hn.2 hd]
theorem getD_put_same (hs : d < a.tmps.size) : (a.put (some d) v).tmps.getD d undef = v := by
  simp [Act.put, Array.getD_eq_getD_getElem?, hs]
theorem getD_put_ne {j : Nat} (h : d ≠ j) : (a.put (some d) v).tmps.getD j undef = a.tmps.getD j undef := by
  simp [Act.put, Array.getD_eq_getD_getElem?, Array.getElem?_setIfInBounds_ne h]
end

/-- An own row of ints in a block of its own. -/
def Own (w : World) (B : Nat) (o : Value × List Int) : Prop := (∃ g, o.1.ownBlock = some g) ∧ w.ownsRow B 3 1 o.1 o.2.length (flat intAt 1 o.2)
/-- Own rows, no two in one block. -/
def Objs (w : World) (B : Nat) (T : Nat → Option (Value × List Int)) : Prop :=
  (∀ k o, T k = some o → Own w B o) ∧ ∀ j k o o', j ≠ k → T j = some o → T k = some o' → o.1.ownBlock ≠ o'.1.ownBlock
def setT (T : Nat → Option (Value × List Int)) (k : Nat) (o : Value × List Int) : Nat → Option (Value × List Int) := fun j => if j = k then some o else T j

section
variable {w w' : World} {B : Nat} {T T' : Nat → Option (Value × List Int)} {k : Nat} {v v' : Value} {l l' : List Int}
theorem Objs.congr (h : Objs w B T) (hh : ∀ k o, T' k = some o → T k = some o) : Objs w B T' :=
  ⟨fun k o e => h.1 k o (hh k o e), fun j k o o' hj e e' => h.2 j k o o' hj (hh j o e) (hh k o' e')⟩
theorem Own.lt {o : Value × List Int} (h : Own w B o) {g : Nat} (hg : o.1.ownBlock = some g) : B ≤ g ∧ g < w.heap.size := h.2.lt g hg
theorem Own.below {o : Value × List Int} (h : Own w B o) (hb : Below w.heap.size w w') : Own w' B o := ⟨h.1, own_next' h.2 hb⟩
theorem Own.grown {o : Value × List Int} (h : Own w B o) {row : Option Nat} (hg : w.grownBy w' row) (hne : o.1.ownBlock ≠ row) : Own w' B o := by
  refine ⟨h.1, h.2.1, h.2.2.imp id fun ⟨g, cap, cur, hv, hb, hh, rest⟩ => ⟨g, cap, cur, hv, hb, ?_, rest⟩⟩
  refine (hg.block g (Array.getElem?_eq_some_iff.1 hh).1 ?_).trans hh
  intro e
  apply hne
  rw [hv]
  exact e
theorem Objs.new (h : Objs w B T) {cs : Array Value} (ho : Own (w.alloc (.cells cs 3)) B (v, l)) (hv : v.ownBlock = some w.heap.size) : Objs (w.alloc (.cells cs 3)) B (setT T k (v, l)) := by
  have hb : Below w.heap.size w (w.alloc (.cells cs 3)) := (Below.refl _ _).alloc (Nat.le_refl _) _
  refine ⟨fun j o e => ?_, fun i j o o' hij e e' => ?_⟩
  · unfold setT at e
    split at e
    · cases e
      exact ho
    · exact (h.1 j o e).below hb
  · unfold setT at e e'
    split at e
    · cases e
      split at e'
      · omega
      · intro hh
        have hw := h.1 j o' e'
        rw [hv] at hh
        have := hw.lt hh.symm
        omega
    · split at e'
      · cases e'
        intro hh
        have hw := h.1 i o e
        rw [hv] at hh
        have := hw.lt hh
        omega
      · exact h.2 i j o o' hij e e'
theorem Objs.app (h : Objs w B T) (hk : T k = some (v, l)) (hg : w.grownBy w' v.ownBlock) (ho : w'.ownsRow B 3 1 v' l'.length (flat intAt 1 l')) (hat : v'.ownBlock = v.ownBlock ∨ v'.ownBlock = some w.heap.size) : Objs w' B (setT T k (v', l')) := by
  have hv := h.1 k _ hk
  refine ⟨fun j o e => ?_, fun i j o o' hij e e' => ?_⟩
  · unfold setT at e
    split at e
    · cases e
      refine ⟨?_, ho⟩
      rcases hat with hat | hat
      · obtain ⟨g, hg⟩ := hv.1
        exact ⟨g, hat.trans hg⟩
      · exact ⟨_, hat⟩
    · rename_i hjk
      exact (h.1 j o e).grown hg (h.2 j k _ _ hjk e hk)
  · have key : ∀ j o', j ≠ k → T j = some o' → v'.ownBlock ≠ o'.1.ownBlock := fun j o' hjk e' hh => by
      have hw := h.1 j o' e'
      rcases hat with hat | hat
      · rw [hat] at hh
        exact h.2 k j _ _ (fun e => hjk e.symm) hk e' hh
      · rw [hat] at hh
        have := hw.lt hh.symm
        omega
    unfold setT at e e'
    split at e
    · cases e
      split at e'
      · omega
      · rename_i hj
        exact key j o' hj e'
    · split at e'
      · cases e'
        rename_i hi _
        exact fun hh => key i o hi e hh.symm
      · exact h.2 i j o o' hij e e'
theorem own_empty (w : World) (hB : B ≤ w.heap.size) : Own (w.alloc (.cells #[] 3)) B (.slice (some ⟨w.heap.size, 0, none⟩) 0 0, []) :=
  ⟨⟨w.heap.size, rfl⟩, World.ownsRow_lit w #[] 0 hB (by decide) rfl⟩
theorem own_one (w : World) (x : Int) (hB : B ≤ w.heap.size) : Own (w.alloc (.cells #[.int .i64 x] 3)) B (.slice (some ⟨w.heap.size, 0, none⟩) 1 1, [x]) :=
  ⟨⟨w.heap.size, rfl⟩, World.ownsRow_lit w #[.int .i64 x] 1 hB (by decide) rfl⟩
theorem Own.head {o : Value × List Int} (h : Own w B o) : ∃ g c, o.1 = .slice (some ⟨g, 0, none⟩) o.2.length c ∧ B ≤ g ∧ Has w g 3 intAt 1 o.2 := by
  obtain ⟨⟨g, hg⟩, h2⟩ := h
  obtain ⟨c, h3, h4, h5⟩ := own_at h2 rfl hg
  exact ⟨g, c, h3, h4, h5⟩
theorem Has.src {g : Nat} {ps : List Int} (h : Has w g 3 intAt 1 ps) : ∀ ad, some (⟨g, 0, none⟩ : Addr) = some ad → ∀ j u, (flat intAt 1 ps)[j]? = some u → w.cell? (ad.add j) = some u := rd_src h.rd (by decide)
end

end Go.Proofs.Ytjmfgncakegjaaa
