/-
  What stands behind the region of ReviseBand that makes the new forecast, in whatever order: a box, the parts, the surges.
-/
import Derived.Test.YtmhiohijpnmcpaaSurApp
import Derived.Test.YtmhiohijpnmcpaaMarkF
namespace Go.Proofs.Ytmhiohijpnmcpaa
open Go.RowKit

def RevRel (B : Nat) (a : World) (m : Int) (ps : List Part) (pre : List Surge) (w : World) (x : Value) : Prop :=
  ∃ (b : Nat) (P Q : Option Addr) (cp cq : Nat), x = .pointer (some ⟨b, 0, none⟩) ∧ B ≤ b ∧ Blk w b 35 #[.int .i64 m, .slice P ps.length cp, .slice Q pre.length cq] ∧
    Sl w B w.heap.size P 91 Part.at_ 3 ps ∧ w.ownsRow B 66 3 (.slice Q pre.length cq) pre.length (flat Surge.at_ 3 pre) ∧ Below B a w
section
variable {B b X lo hi : Nat} {a w : World} {m : Int} {ps : List Part} {pre : List Surge} {P Q : Option Addr} {cp cq : Nat} {cs : Array Value} {t t' : TypeId}
theorem own_far {base size n : Nat} {e : TypeId} {v : Value} {xs : List Value} (h : w.ownsRow base e size v n xs) (hb : Blk w X t cs) (hne : e ≠ t) (i : Nat) (u : Value) : (w.setCell ⟨X, i, none⟩ u).ownsRow base e size v n xs :=
  ⟨h.1, h.2.imp id fun ⟨g, cap, cur, hv, hg, hk, rest⟩ => ⟨g, cap, cur, hv, hg, Blk.far (t := e) (cs := cur) (p := ⟨X, i, none⟩) hk (Blk.other (show Blk w g e cur from hk) hb hne) u, rest⟩⟩
theorem Sl.far_ {α : Type} {enc : α → Nat → Value} {size : Nat} {A : Option Addr} {ps : List α} (h : Sl w lo hi A t enc size ps) (hb : Blk w X t' cs) (hne : t ≠ t') (i : Nat) (u : Value) : Sl (w.setCell ⟨X, i, none⟩ u) lo hi A t enc size ps :=
  h.imp id fun ⟨g, e, h1, h2, cs0, hk, hf⟩ => ⟨g, e, h1, h2, cs0, hk.far (p := ⟨X, i, none⟩) (hk.other hb hne) u, hf⟩
theorem rev_new (hB : Below B a w) (hs : B ≤ w.heap.size) (hp : Sl w B w.heap.size P 91 Part.at_ 3 ps) (hq : w.ownsRow B 66 3 (.slice Q pre.length cq) pre.length (flat Surge.at_ 3 pre)) :
    RevRel B a m ps pre (w.alloc (.cells #[.int .i64 m, .slice P ps.length cp, .slice Q pre.length cq] 35)) (.pointer (some ⟨w.heap.size, 0, none⟩)) :=
  ⟨w.heap.size, P, Q, cp, cq, rfl, hs, Blk.new _ _ _, (hp.next ((Below.refl _ _).alloc (Nat.le_refl _) _)).mono (Nat.le_refl _) (by simp), hq.alloc _, hB.alloc hs _⟩
theorem rev_old {z0 z1 z2 : Value} (hB : Below B a w) (hp : Sl w B w.heap.size P 91 Part.at_ 3 ps) (hq : w.ownsRow B 66 3 (.slice Q pre.length cq) pre.length (flat Surge.at_ 3 pre)) (hk : Blk w X 35 #[z0, z1, z2]) (hX : B ≤ X) :
    RevRel B a m ps pre (((w.setCell ⟨X, 0, none⟩ (.int .i64 m)).setCell ⟨X, 1, none⟩ (.slice P ps.length cp)).setCell ⟨X, 2, none⟩ (.slice Q pre.length cq)) (.pointer (some ⟨X, 0, none⟩)) :=
  ⟨X, P, Q, cp, cq, rfl, hX, ((hk.set_ 0 _).set_ 1 _).set_ 2 _,
    (((hp.far_ hk (by decide) 0 _).far_ (hk.set_ 0 _) (by decide) 1 _).far_ ((hk.set_ 0 _).set_ 1 _) (by decide) 2 _).mono (Nat.le_refl _) (by simp [World.setCell]),
    own_far (own_far (own_far hq hk (by decide) 0 _) (hk.set_ 0 _) (by decide) 1 _) ((hk.set_ 0 _).set_ 1 _) (by decide) 2 _,
    ((hB.setCell (p := ⟨X, 0, none⟩) hX _).setCell (p := ⟨X, 1, none⟩) hX _).setCell (p := ⟨X, 2, none⟩) hX _⟩
end

section
variable {w w' : World} {X base size n lo hi : Nat} {t e : TypeId} {cs : Array Value} {v : Value} {xs : List Value}
theorem own_block_ne (h : Blk w X t cs) (hown : w.ownsRow base e size v n xs) (hne : e ≠ t) : some X ≠ v.ownBlock := fun h' => by
  rcases hown.2 with ⟨rfl, _⟩ | ⟨g, cap, cur, rfl, _, hk, _⟩
  · cases h'
  · simp only [Value.ownBlock, Option.some.injEq] at h'
    exact (Blk.other (show Blk w g e cur from hk) h hne) h'.symm
theorem Blk.own_grown (h : Blk w X t cs) (hown : w.ownsRow base e size v n xs) (hne : e ≠ t) (hg : w.grownBy w' v.ownBlock) : Blk w' X t cs := h.grown hg (own_block_ne h hown hne)
theorem Sl.own_grown {α : Type} {enc : α → Nat → Value} {k : Nat} {A : Option Addr} {ps : List α} (h : Sl w lo hi A t enc k ps) (hown : w.ownsRow base e size v n xs) (hne : e ≠ t) (hg : w.grownBy w' v.ownBlock) : Sl w' lo hi A t enc k ps :=
  h.imp id fun ⟨g, e', h1, h2, cs0, hk, hf⟩ => ⟨g, e', h1, h2, cs0, hk.own_grown hown hne hg, hf⟩
end

theorem wpAppendSurgeG {ops : Array Oper} {rest : List Oper} {o : Oper} {a : Act} {w : World} {Q : Exit → Act → World → Prop} (hgd : o.guard = none) (s x : Operand)
    (ho : o.op = .call { callee := .builtin .append, args := #[s, x], argTypes := #[33, 33] })
    (base : Nat) (v : Value) (acc : List Surge) (hs : a.eval s = v) (hown : w.ownsRow base 66 3 v acc.length (flat Surge.at_ 3 acc))
    (b : Nat) (hx : a.eval x = .slice (some ⟨b, 0, none⟩) 1 1) (m0 m1 m2 : Int) (hb : Blk w b 66 #[.int .i64 m0, .int .i64 m1, .int .i64 m2]) (hacc : acc.length ≤ 4194304) (hbase : base ≤ w.heap.size)
    (h : ∀ g cap w', w'.ownsRow base 66 3 (.slice (some ⟨g, 0, none⟩) (acc.length + 1) cap) (acc ++ [(⟨m0, m1, m2⟩ : Surge)]).length (flat Surge.at_ 3 (acc ++ [(⟨m0, m1, m2⟩ : Surge)])) → Below base w w' → w.grownBy w' v.ownBlock → wpList Try.prog ops Q rest (a.put o.dst (.slice (some ⟨g, 0, none⟩) (acc.length + 1) cap)) w') :
    wpList Try.prog ops Q (o :: rest) a w := by
  obtain ⟨i0, hi, hz0, hz1, hz2⟩ := info_parts infoSurgeA
  refine wpList_append_lies w hgd s x 33 ho base 66 i0 (.agg #[.int .i64 0, .int .i64 0, .int .i64 0]) 3 24 Try.underlying33 hi hz0 hz1 hz2 rfl (by decide) v acc.length _ hs hown ⟨b, 0, none⟩ 1 1 [.int .i64 m0, .int .i64 m1, .int .i64 m2] hx rfl (fun j u hj => ?_) (fun u hu => ?_) (by decide) (by unfold maxLen; omega) (by omega) hbase _ rfl fun g cap w' h1 h2 _ _ => ?_
  · match j, hj with
    | 0, hj =>
      simp at hj
      subst hj
      exact hb.cell 0
    | 1, hj =>
      simp at hj
      subst hj
      exact hb.cell 1
    | 2, hj =>
      simp at hj
      subst hj
      exact hb.cell 2
  · simp at hu
    rcases hu with rfl | rfl | rfl <;> rfl
  · exact h g cap w' (own_snoc h1 rfl rfl) ((Below.refl _ _).grown h2 hbase (fun q hq => (hown.lt q hq).1)) h2

theorem preL_len (ss : List Surge) (k : Nat) (t : Int) : (preL ss k t).length ≤ ss.length := by
  unfold preL
  split
  · split
    · rw [List.length_take]; omega
    · rw [List.length_take]; omega
  · exact Nat.zero_le _

/-- What stands behind the 'if': the box, the parts, a row whose last surge is to be written. -/
def RevRel2 (B bt : Nat) (a : World) (m : Int) (ps : List Part) (lst : List Surge) (w : World) : Prop :=
  ∃ (P : Option Addr) (cp : Nat) (v : Value) (z : Surge), Blk w bt 35 #[.int .i64 m, .slice P ps.length cp, v] ∧
    Sl w B w.heap.size P 91 Part.at_ 3 ps ∧ w.ownsRow B 66 3 v (lst ++ [z]).length (flat Surge.at_ 3 (lst ++ [z])) ∧ Below B a w

/-- What stands behind the last surge's writing. -/
def RevRel3 (B bt : Nat) (a : World) (m : Int) (ps : List Part) (lst : List Surge) (z0 : Surge) (w : World) : Prop :=
  ∃ (P : Option Addr) (cp : Nat) (v : Value) (z : Surge), z = z0 ∧ Blk w bt 35 #[.int .i64 m, .slice P ps.length cp, v] ∧
    Sl w B w.heap.size P 91 Part.at_ 3 ps ∧ w.ownsRow B 66 3 v (lst ++ [z]).length (flat Surge.at_ 3 (lst ++ [z])) ∧ Below B a w

section
variable {α : Type} {W : World} {B g off size : Nat} {enc : α → Nat → Value} {l : List α}
theorem rd_take (n : Nat) (h : Rd W B enc size (some ⟨g, off, none⟩) l) : Rd W B enc size (some ⟨g, off, none⟩) (l.take n) := fun h0 => by
  rw [List.length_take] at h0
  obtain ⟨g', off', e, hg, hc⟩ := h (by omega)
  refine ⟨g', off', e, hg, fun k x hx => ?_⟩
  rw [List.getElem?_take] at hx
  split at hx
  · exact hc k x hx
  · cases hx
theorem rd_drop (n : Nat) (h : Rd W B enc size (some ⟨g, off, none⟩) l) : Rd W B enc size (some ⟨g, off + n * size, none⟩) (l.drop n) := fun h0 => by
  rw [List.length_drop] at h0
  obtain ⟨g', off', e, hg, hc⟩ := h (by omega)
  cases e
  refine ⟨g, off + n * size, rfl, hg, fun k x hx j hj => ?_⟩
  rw [List.getElem?_drop] at hx
  have := hc (n + k) x hx j hj
  rwa [Nat.add_mul, ← Nat.add_assoc] at this
end

end Go.Proofs.Ytmhiohijpnmcpaa
