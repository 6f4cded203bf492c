/-
  Two boxes of three cells made and written in a region, in whatever order.
-/
import Derived.Test.YtmhiohijpnmcpaaWinApp
namespace Go.Proofs.Ytmhiohijpnmcpaa
open Go.RowKit

/-- Where two boxes lie, what they hold; all else above B. -/
def TwoRel (B : Nat) (a : World) (t : TypeId) (P Q : Array Value) (w : World) (x y : Value) : Prop :=
  (∃ b7 b8 : Nat, x = .pointer (some ⟨b7, 0, none⟩) ∧ y = .pointer (some ⟨b8, 0, none⟩) ∧ Blk w b7 t P ∧ Blk w b8 t Q) ∧ Below B a w
section
variable {B : Nat} {a w : World} {t : TypeId} {P Q : Array Value} {p0 p1 p2 q0 q1 q2 z0 z1 z2 : Value} {X Y : Nat}
theorem Blk.s3 (h : Blk w X t #[z0, z1, z2]) (p q r : Value) : Blk (((w.setCell ⟨X, 0, none⟩ p).setCell ⟨X, 1, none⟩ q).setCell ⟨X, 2, none⟩ r) X t #[p, q, r] := ((h.set_ 0 p).set_ 1 q).set_ 2 r
theorem Blk.f3 {cs : Array Value} (h : Blk w X t cs) (hne : X ≠ Y) (p q r : Value) : Blk (((w.setCell ⟨Y, 0, none⟩ p).setCell ⟨Y, 1, none⟩ q).setCell ⟨Y, 2, none⟩ r) X t cs :=
  ((h.far (p := ⟨Y, 0, none⟩) hne p).far (p := ⟨Y, 1, none⟩) hne q).far (p := ⟨Y, 2, none⟩) hne r
theorem below_s3 (h : Below B a w) (hX : B ≤ X) (p q r : Value) : Below B a (((w.setCell ⟨X, 0, none⟩ p).setCell ⟨X, 1, none⟩ q).setCell ⟨X, 2, none⟩ r) :=
  ((h.setCell (p := ⟨X, 0, none⟩) hX p).setCell (p := ⟨X, 1, none⟩) hX q).setCell (p := ⟨X, 2, none⟩) hX r
theorem size_s3 (w : World) (X : Nat) (p q r : Value) : (((w.setCell ⟨X, 0, none⟩ p).setCell ⟨X, 1, none⟩ q).setCell ⟨X, 2, none⟩ r).heap.size = w.heap.size := by simp [World.setCell]
theorem rel1 (h : Below B a w) (hB : B ≤ w.heap.size) : TwoRel B a t P Q ((w.alloc (.cells P t)).alloc (.cells Q t)) (.pointer (some ⟨w.heap.size, 0, none⟩)) (.pointer (some ⟨w.heap.size + 1, 0, none⟩)) :=
  ⟨⟨_, _, rfl, rfl, (Blk.new _ _ _).alloc _, Blk.new' _ _ (by simp)⟩, (h.alloc hB _).alloc (by simp; omega) _⟩
theorem rel2 (h : Below B a w) (hB : B ≤ w.heap.size) : TwoRel B a t P Q ((w.alloc (.cells Q t)).alloc (.cells P t)) (.pointer (some ⟨w.heap.size + 1, 0, none⟩)) (.pointer (some ⟨w.heap.size, 0, none⟩)) :=
  ⟨⟨_, _, rfl, rfl, Blk.new' _ _ (by simp), (Blk.new _ _ _).alloc _⟩, (h.alloc hB _).alloc (by simp; omega) _⟩
theorem rel3 (h : Below B a w) (hB : B ≤ w.heap.size) (hk : Blk w X t #[z0, z1, z2]) (hX : B ≤ X) :
    TwoRel B a t #[p0, p1, p2] Q ((((w.setCell ⟨X, 0, none⟩ p0).setCell ⟨X, 1, none⟩ p1).setCell ⟨X, 2, none⟩ p2).alloc (.cells Q t)) (.pointer (some ⟨X, 0, none⟩)) (.pointer (some ⟨w.heap.size, 0, none⟩)) :=
  ⟨⟨_, _, rfl, rfl, (hk.s3 _ _ _).alloc _, Blk.new' _ _ (size_s3 _ _ _ _ _)⟩, (below_s3 h hX _ _ _).alloc (by rw [size_s3]; exact hB) _⟩
theorem rel3' (h : Below B a w) (hB : B ≤ w.heap.size) (hk : Blk w X t #[z0, z1, z2]) (hX : B ≤ X) :
    TwoRel B a t P #[q0, q1, q2] ((((w.setCell ⟨X, 0, none⟩ q0).setCell ⟨X, 1, none⟩ q1).setCell ⟨X, 2, none⟩ q2).alloc (.cells P t)) (.pointer (some ⟨w.heap.size, 0, none⟩)) (.pointer (some ⟨X, 0, none⟩)) :=
  ⟨⟨_, _, rfl, rfl, Blk.new' _ _ (size_s3 _ _ _ _ _), (hk.s3 _ _ _).alloc _⟩, (below_s3 h hX _ _ _).alloc (by rw [size_s3]; exact hB) _⟩
theorem rel4 (h : Below B a w) (hk : Blk w X t #[z0, z1, z2]) (hl : Blk w Y t #[z0, z1, z2]) (hX : B ≤ X) (hY : B ≤ Y) (hne : X ≠ Y) :
    TwoRel B a t #[p0, p1, p2] #[q0, q1, q2] ((((((w.setCell ⟨X, 0, none⟩ p0).setCell ⟨X, 1, none⟩ p1).setCell ⟨X, 2, none⟩ p2).setCell ⟨Y, 0, none⟩ q0).setCell ⟨Y, 1, none⟩ q1).setCell ⟨Y, 2, none⟩ q2) (.pointer (some ⟨X, 0, none⟩)) (.pointer (some ⟨Y, 0, none⟩)) :=
  ⟨⟨_, _, rfl, rfl, (hk.s3 _ _ _).f3 hne _ _ _, (hl.f3 (fun e => hne e.symm) _ _ _).s3 _ _ _⟩, below_s3 (below_s3 h hX _ _ _) hY _ _ _⟩
end

end Go.Proofs.Ytmhiohijpnmcpaa
