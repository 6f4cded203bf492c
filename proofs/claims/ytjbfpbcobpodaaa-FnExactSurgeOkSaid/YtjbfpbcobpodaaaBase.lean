/-
  Plain words for memory and for Bool tests, of no function: a slice that reads as a list of records, nil let in; facts hidden from the walk.
-/
import Derived.WalkKit
import Derived.WalkSpells
import Derived.WalkLawsBesides
import Derived.Lib.Hide
import Derived.BigQuiet
import Derived.Deep.QuietTactic
import Derived.Deep.RegionHeld3
namespace Go.Proofs.Ytjbfpbcobpodaaa
open Go.RowKit

/-- lo ≤ n ≤ hi, closed to the walk. -/
def inB (n lo hi : Int) : Bool := decide (lo ≤ n) && decide (n ≤ hi)
theorem inB_true {n lo hi : Int} (h : inB n lo hi = true) : lo ≤ n ∧ n ≤ hi := by
  unfold inB at h; simpa using h
theorem inB_mk {n lo hi : Int} (h : lo ≤ n ∧ n ≤ hi) : inB n lo hi = true := by
  unfold inB; simpa using h
theorem inB_false {n lo hi : Int} (h : inB n lo hi = false) : n < lo ∨ hi < n := by
  unfold inB at h; simp at h; omega
theorem inB_no {n lo hi : Int} (h : n < lo ∨ hi < n) : inB n lo hi = false := by
  unfold inB; simp; omega

/-- Behind a contract that ends in `Below`: every old cell and mark reads as before, as rules for the walk. -/
theorem bcell {W w1 : World} (hb : Below W.heap.size W w1) : (∀ b o, b < W.heap.size → w1.cell? ⟨b, o, none⟩ = W.cell? ⟨b, o, none⟩) ∧ (∀ b o, b < W.heap.size → w1.frozen? ⟨b, o, none⟩ = W.frozen? ⟨b, o, none⟩) :=
  ⟨fun b o h => hb.cell (p := ⟨b, o, none⟩) h, fun b o h => hb.frozen (p := ⟨b, o, none⟩) h⟩

/-- Block g is just the cells cs of type t, none of them frozen. -/
def Blk (w : World) (g : Nat) (t : TypeId) (cs : Array Value) : Prop := w.heap[g]? = some (.cells cs t (0, 0))
section
variable {w w' : World} {g : Nat} {t : TypeId} {cs : Array Value}
theorem Blk.lt (h : Blk w g t cs) : g < w.heap.size := (Array.getElem?_eq_some_iff.1 h).1
theorem Blk.cell (h : Blk w g t cs) (i : Nat) : w.cell? ⟨g, i, none⟩ = cs[i]? := cell_of_row w g i cs t (0, 0) h
theorem Blk.frozen (h : Blk w g t cs) (i : Nat) : w.frozen? ⟨g, i, none⟩ = false := by
  unfold Blk at h
  simp [World.frozen?, h]
theorem Blk.new (w : World) (t : TypeId) (cs : Array Value) : Blk (w.alloc (.cells cs t)) w.heap.size t cs := heap_alloc_new w _
theorem Blk.drew (h : Blk w g t cs) : Blk w.drew g t cs := h
theorem Blk.drewN (h : Blk w g t cs) (n : Nat) : Blk (w.drewN n) g t cs := h
theorem Blk.alloc (h : Blk w g t cs) (o : Obj) : Blk (w.alloc o) g t cs := (Below.heap_alloc w o g h.lt).trans h
theorem Blk.far (h : Blk w g t cs) {p : Addr} (hp : g ≠ p.block) (u : Value) : Blk (w.setCell p u) g t cs := (Below.heap_setCell w p u g hp).trans h
theorem Blk.below {B : Nat} (h : Blk w g t cs) (hb : Below B w w') (hg : g < B) : Blk w' g t cs := (hb.block g hg).trans h
theorem Blk.next (h : Blk w g t cs) (hb : Below w.heap.size w w') : Blk w' g t cs := h.below hb h.lt
theorem Blk.grown {row : Option Nat} (h : Blk w g t cs) (hb : w.grownBy w' row) (hg : some g ≠ row) : Blk w' g t cs := (hb.block g h.lt hg).trans h
end

/-- The number lies in an int. -/
def I64 (n : Int) : Prop := -9223372036854775808 ≤ n ∧ n ≤ 9223372036854775807

/-- The slice (A, length of ps) reads as the records ps: record k has `size` cells, cell j of it is `enc x j`; it lies below block B. -/
def Rd {α : Type} (w : World) (B : Nat) (enc : α → Nat → Value) (size : Nat) (A : Option Addr) (ps : List α) : Prop :=
  0 < ps.length → ∃ g off, A = some ⟨g, off, none⟩ ∧ g < B ∧ ∀ (k : Nat) (x : α), ps[k]? = some x → ∀ j, j < size → w.cell? ⟨g, off + (k * size + j), none⟩ = some (enc x j)

section
variable {α : Type} {w w' : World} {B B' size : Nat} {enc : α → Nat → Value} {A : Option Addr} {ps : List α}
theorem Rd.nil_ : Rd w B enc size A ([] : List α) := fun h => absurd h (by simp)
theorem Rd.keep (h : Rd w B enc size A ps) (hk : ∀ p : Addr, p.block < B → w'.cell? p = w.cell? p) : Rd w' B enc size A ps := fun hn => by
  obtain ⟨g, off, e, hb, hc⟩ := h hn
  exact ⟨g, off, e, hb, fun k x hx j hj => (hk _ hb).trans (hc k x hx j hj)⟩
theorem Rd.more (h : Rd w B enc size A ps) (hB : B ≤ B') : Rd w B' enc size A ps := fun hn => by
  obtain ⟨g, off, e, hb, hc⟩ := h hn
  exact ⟨g, off, e, by omega, hc⟩
theorem Rd.below (h : Rd w B enc size A ps) (hb : Below B w w') : Rd w' B enc size A ps := h.keep fun _ hp => hb.cell hp
theorem Rd.drewN (h : Rd w B enc size A ps) (k : Nat) : Rd (w.drewN k) B enc size A ps := h
theorem Rd.alloc (h : Rd w B enc size A ps) (hB : B ≤ w.heap.size) (o : Obj) : Rd (w.alloc o) B enc size A ps := h.keep fun p hp => World.cell?_alloc_lt w o p (by omega)
theorem Rd.setCell (h : Rd w B enc size A ps) {p : Addr} (hB : B ≤ p.block) (u : Value) : Rd (w.setCell p u) B enc size A ps :=
  h.keep fun q hq => World.cell?_setCell_other w p q u (fun e => by subst e; omega)
end

end Go.Proofs.Ytjbfpbcobpodaaa
