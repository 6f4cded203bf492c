/-
  Plain words for memory and for Bool tests, of no function: a slice that reads as a list of records, nil let in; facts hidden from the walk.
-/
import Derived.WalkKit
import Derived.WalkSpells
import Derived.WalkLawsBesides
import Derived.Lib.Hide
import Derived.BigQuiet
import Derived.Deep.QuietTactic
import Derived.Deep.RegionHeld3
namespace Go.Proofs.Ytjmfgncakegjaaa
open Go.RowKit

theorem _root_.Go.RowKit.Below.drewN {B : Nat} {a w : World} (h : Below B a w) (n : Nat) : Below B a (w.drewN n) := ⟨h.os, h.tape, h.output, h.size, h.block⟩

/-- lo ≤ n ≤ hi, closed to the walk. -/
def inB (n lo hi : Int) : Bool := decide (lo ≤ n) && decide (n ≤ hi)
theorem inB_true {n lo hi : Int} (h : inB n lo hi = true) : lo ≤ n ∧ n ≤ hi := by
  unfold inB at h; simpa using h
theorem inB_mk {n lo hi : Int} (h : lo ≤ n ∧ n ≤ hi) : inB n lo hi = true := by
  unfold inB; simpa using h
theorem inB_false {n lo hi : Int} (h : inB n lo hi = false) : n < lo ∨ hi < n := by
  unfold inB at h; simp at h; omega
theorem inB_no {n lo hi : Int} (h : n < lo ∨ hi < n) : inB n lo hi = false := by
  unfold inB; simp; omega

/-- Behind a contract that ends in `Below`: every old cell and mark reads as before, as rules for the walk. -/
theorem bcell {W w1 : World} (hb : Below W.heap.size W w1) : (∀ b o, b < W.heap.size → w1.cell? ⟨b, o, none⟩ = W.cell? ⟨b, o, none⟩) ∧ (∀ b o, b < W.heap.size → w1.frozen? ⟨b, o, none⟩ = W.frozen? ⟨b, o, none⟩) :=
  ⟨fun b o h => hb.cell (p := ⟨b, o, none⟩) h, fun b o h => hb.frozen (p := ⟨b, o, none⟩) h⟩

/-- Block g is just the cells cs of type t, none of them frozen. -/
def Blk (w : World) (g : Nat) (t : TypeId) (cs : Array Value) : Prop := w.heap[g]? = some (.cells cs t (0, 0))
section
variable {w w' : World} {g : Nat} {t : TypeId} {cs : Array Value}
theorem Blk.lt (h : Blk w g t cs) : g < w.heap.size := (Array.getElem?_eq_some_iff.1 h).1
theorem Blk.cell (h : Blk w g t cs) (i : Nat) : w.cell? ⟨g, i, none⟩ = cs[i]? := cell_of_row w g i cs t (0, 0) h
theorem Blk.frozen (h : Blk w g t cs) (i : Nat) : w.frozen? ⟨g, i, none⟩ = false := by
  unfold Blk at h
  simp [World.frozen?, h]
theorem Blk.new (w : World) (t : TypeId) (cs : Array Value) : Blk (w.alloc (.cells cs t)) w.heap.size t cs := heap_alloc_new w _
theorem Blk.drew (h : Blk w g t cs) : Blk w.drew g t cs := h
theorem Blk.drewN (h : Blk w g t cs) (n : Nat) : Blk (w.drewN n) g t cs := h
theorem Blk.alloc (h : Blk w g t cs) (o : Obj) : Blk (w.alloc o) g t cs := (Below.heap_alloc w o g h.lt).trans h
theorem Blk.far (h : Blk w g t cs) {p : Addr} (hp : g ≠ p.block) (u : Value) : Blk (w.setCell p u) g t cs := (Below.heap_setCell w p u g hp).trans h
theorem Blk.below {B : Nat} (h : Blk w g t cs) (hb : Below B w w') (hg : g < B) : Blk w' g t cs := (hb.block g hg).trans h
theorem Blk.next (h : Blk w g t cs) (hb : Below w.heap.size w w') : Blk w' g t cs := h.below hb h.lt
theorem Blk.grown {row : Option Nat} (h : Blk w g t cs) (hb : w.grownBy w' row) (hg : some g ≠ row) : Blk w' g t cs := (hb.block g h.lt hg).trans h
end

/-- A contract that leaves the world alone, inside a region that only reads. -/
theorem quiet_left {P : Program} {f : FuncId} {args : Array Value} {w : World} {n : Nat} {v : Value}
    (h : Calls P f args (w.drewN n) fun e w' => e = .returned v ∧ w.drewN n = w') : Calls P f args (w.drewN n) fun e w'' => e = .returned v ∧ ∃ m, w'' = w.drewN m :=
  h.mono fun _ _ ⟨he, hm⟩ => ⟨he, n, hm.symm⟩

/-- The number lies in an int. -/
def I64 (n : Int) : Prop := -9223372036854775808 ≤ n ∧ n ≤ 9223372036854775807

/-- The slice (A, length of ps) reads as the records ps: record k has `size` cells, cell j of it is `enc x j`; it lies below block B. -/
def Rd {α : Type} (w : World) (B : Nat) (enc : α → Nat → Value) (size : Nat) (A : Option Addr) (ps : List α) : Prop :=
  0 < ps.length → ∃ g off, A = some ⟨g, off, none⟩ ∧ g < B ∧ ∀ (k : Nat) (x : α), ps[k]? = some x → ∀ j, j < size → w.cell? ⟨g, off + k * size + j, none⟩ = some (enc x j)

section
variable {α : Type} {w w' : World} {B B' size : Nat} {enc : α → Nat → Value} {A : Option Addr} {ps : List α}
theorem Rd.nil_ : Rd w B enc size A ([] : List α) := fun h => absurd h (by simp)
theorem Rd.keep (h : Rd w B enc size A ps) (hk : ∀ p : Addr, p.block < B → w'.cell? p = w.cell? p) : Rd w' B enc size A ps := fun hn => by
  obtain ⟨g, off, e, hb, hc⟩ := h hn
  exact ⟨g, off, e, hb, fun k x hx j hj => (hk _ hb).trans (hc k x hx j hj)⟩
theorem Rd.more (h : Rd w B enc size A ps) (hB : B ≤ B') : Rd w B' enc size A ps := fun hn => by
  obtain ⟨g, off, e, hb, hc⟩ := h hn
  exact ⟨g, off, e, by omega, hc⟩
theorem Rd.below (h : Rd w B enc size A ps) (hb : Below B w w') : Rd w' B enc size A ps := h.keep fun _ hp => hb.cell hp
theorem Rd.drewN (h : Rd w B enc size A ps) (k : Nat) : Rd (w.drewN k) B enc size A ps := h
theorem Rd.alloc (h : Rd w B enc size A ps) (hB : B ≤ w.heap.size) (o : Obj) : Rd (w.alloc o) B enc size A ps := h.keep fun p hp => World.cell?_alloc_lt w o p (by omega)
theorem Rd.setCell (h : Rd w B enc size A ps) {p : Addr} (hB : B ≤ p.block) (u : Value) : Rd (w.setCell p u) B enc size A ps :=
  h.keep fun q hq => World.cell?_setCell_other w p q u (fun e => by subst e; omega)
end

/-- `make([]T, n)` at an int n: one equation for every world. -/
theorem run_make_n {P : Program} (t e : TypeId) (i : TypeInfo) (z : Value) (size bytes : Nat) (ht : P.underlying t = some (.slice e)) (hi : P.info? e = some i) (hz : i.zero = some z) (hsize : i.size = size) (hby : i.bytes = bytes)
    (n : Nat) (hbytes : bytes * n ≤ 281474976710656) (h63 : n ≤ 9223372036854775807) (w : World) :
    (Instr.makeSlice t (.int .i64 (n : Int)) (.int .i64 (n : Int))).run P w = .ok (.slice (some ⟨w.heap.size, 0, none⟩) n n) (w.alloc (.cells (madeCells z.cells (n * size)) e)) := by
  subst hsize hby
  have hb : (i.bytes : Int) * (n : Int) ≤ 281474976710656 := by
    have h : ((i.bytes * n : Nat) : Int) ≤ 281474976710656 := by omega
    rwa [Int.natCast_mul] at h
  have hr := run_make (P := P) w t e i z ht hi hz .i64 .i64 n n (by omega) (by omega) hb (by omega)
  simp only [Int.toNat_natCast] at hr
  exact hr

/-- The first k records of ps lie in the row cs, which has room for all of them. -/
def Fill {α : Type} (enc : α → Nat → Value) (size : Nat) (ps : List α) (k : Nat) (cs : Array Value) : Prop :=
  ps.length * size ≤ cs.size ∧ ∀ i x, i < k → ps[i]? = some x → ∀ j, j < size → cs[i * size + j]? = some (enc x j)
/-- Block g is just the records ps. -/
def Has {α : Type} (w : World) (g : Nat) (t : TypeId) (enc : α → Nat → Value) (size : Nat) (ps : List α) : Prop := ∃ cs, Blk w g t cs ∧ Fill enc size ps ps.length cs

section
variable {α : Type} {w w' : World} {g size : Nat} {t : TypeId} {enc : α → Nat → Value} {ps : List α} {k : Nat} {cs cs' : Array Value} {p : α}
theorem Fill.next (h : Fill enc size ps k cs) (hp : ps[k]? = some p) (hsz : cs'.size = cs.size) (hold : ∀ q, q < k * size → cs'[q]? = cs[q]?) (hnew : ∀ j, j < size → cs'[k * size + j]? = some (enc p j)) : Fill enc size ps (k + 1) cs' := by
  refine ⟨by rw [hsz]; exact h.1, fun i x hi hx j hj => ?_⟩
  by_cases hik : i = k
  · subst hik
    rw [hp] at hx
    cases hx
    exact hnew j hj
  · have hlt : i * size + j < k * size := by
      have h1 : (i + 1) * size ≤ k * size := Nat.mul_le_mul_right _ (by omega)
      rw [Nat.add_mul] at h1
      omega
    rw [hold _ hlt]
    exact h.2 i x (by omega) hx j hj
theorem Fill.zero (hs : ps.length * size ≤ cs.size) : Fill enc size ps 0 cs := ⟨hs, fun _ _ hi => absurd hi (Nat.not_lt_zero _)⟩
theorem Fill.room (h : Fill enc size ps k cs) (hk : k < ps.length) (j : Nat) (hj : j < size) : ∃ v, cs[k * size + j]? = some v := by
  have h1 : (k + 1) * size ≤ ps.length * size := Nat.mul_le_mul_right _ (by omega)
  rw [Nat.add_mul] at h1
  have h2 := h.1
  exact ⟨_, Array.getElem?_eq_getElem (by omega)⟩
theorem Has.next (h : Has w g t enc size ps) (hb : Below w.heap.size w w') : Has w' g t enc size ps := by
  obtain ⟨cs, hk, hf⟩ := h
  exact ⟨cs, hk.next hb, hf⟩
theorem Has.lt (h : Has w g t enc size ps) : g < w.heap.size := by
  obtain ⟨cs, hk, hf⟩ := h
  exact hk.lt
theorem Has.rd (h : Has w g t enc size ps) : Rd w w.heap.size enc size (some ⟨g, 0, none⟩) ps := fun _ => by
  obtain ⟨cs, hk, hf⟩ := h
  refine ⟨g, 0, rfl, hk.lt, fun k x hx j hj => ?_⟩
  rw [Nat.zero_add, hk.cell]
  exact hf.2 k x (List.getElem?_eq_some_iff.1 hx).1 hx j hj
theorem Blk.set_ (h : Blk w g t cs) (i : Nat) (u : Value) : Blk (w.setCell ⟨g, i, none⟩ u) g t (cs.setIfInBounds i u) := by
  unfold Blk at h ⊢
  simp [World.setCell, Array.getElem?_modify, h]
/-- Successive cells written from o on. -/
def setL (cs : Array Value) (o : Nat) : List Value → Array Value
  | [] => cs
  | v :: vs => setL (cs.setIfInBounds o v) (o + 1) vs
theorem setL_size : ∀ (vs : List Value) (cs : Array Value) (o : Nat), (setL cs o vs).size = cs.size
  | [], _, _ => rfl
  | v :: vs, cs, o => by
    unfold setL
    rw [setL_size vs]
    simp
theorem setL_old : ∀ (vs : List Value) (cs : Array Value) (o q : Nat), q < o → (setL cs o vs)[q]? = cs[q]?
  | [], _, _, _, _ => rfl
  | v :: vs, cs, o, q, h => by
    unfold setL
    rw [setL_old vs _ _ _ (by omega), Array.getElem?_setIfInBounds_ne (by omega)]
theorem setL_new : ∀ (vs : List Value) (cs : Array Value) (o j : Nat), o + vs.length ≤ cs.size → j < vs.length → (setL cs o vs)[o + j]? = vs[j]?
  | [], _, _, _, _, h => by simp at h
  | v :: vs, cs, o, 0, h, _ => by
    unfold setL
    simp at h
    rw [setL_old vs _ _ _ (by omega)]
    show (cs.setIfInBounds o v)[o]? = some v
    rw [Array.getElem?_setIfInBounds_self_of_lt (by omega)]
  | v :: vs, cs, o, j + 1, h, hj => by
    unfold setL
    simp at h hj
    rw [show o + (j + 1) = (o + 1) + j from by omega, setL_new vs _ _ _ (by simp; omega) (by omega)]
    simp
theorem Fill.set_ (h : Fill enc size ps k cs) (hp : ps[k]? = some p) (vs : List Value) (hl : vs.length = size) (hv : ∀ j, j < size → vs[j]? = some (enc p j)) : Fill enc size ps (k + 1) (setL cs (k * size) vs) := by
  refine h.next hp (setL_size _ _ _) (fun q hq => setL_old _ _ _ _ hq) fun j hj => ?_
  have hk : k < ps.length := (List.getElem?_eq_some_iff.1 hp).1
  have h1 : (k + 1) * size ≤ ps.length * size := Nat.mul_le_mul_right _ (by omega)
  rw [Nat.add_mul] at h1
  have h2 := h.1
  rw [setL_new _ _ _ _ (by omega) (by omega)]
  exact hv j hj
end

end Go.Proofs.Ytjmfgncakegjaaa
