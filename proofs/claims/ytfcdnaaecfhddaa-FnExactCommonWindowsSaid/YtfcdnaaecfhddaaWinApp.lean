/-
  One window is appended to a row of the call's own.
-/
import Derived.Test.YtfcdnaaecfhddaaTWindow
import Derived.Test.YtfcdnaaecfhddaaGrow
import Derived.Maps.AppendAt
namespace Go.Proofs.Ytfcdnaaecfhddaa
open Go.RowKit

theorem Blk.new' {W : World} {b : Nat} (t : TypeId) (cs : Array Value) (h : W.heap.size = b) : Blk (W.alloc (.cells cs t)) b t cs := h ▸ Blk.new W t cs

theorem wpAppendWindow {ops : Array Oper} {rest : List Oper} {o : Oper} {a : Act} {w : World} {Q : Exit → Act → World → Prop} (hgd : o.guard = none) (s x : Operand)
    (ho : o.op = .call { callee := .builtin .append, args := #[s, x], argTypes := #[25, 25] })
    (base : Nat) (v : Value) (acc : List Window) (hs : a.eval s = v) (hown : w.ownsRow base 41 2 v acc.length (flat Window.at_ 2 acc))
    (b : Nat) (hx : a.eval x = .slice (some ⟨b, 0, none⟩) 1 1) (m0 m1 : Int) (hb : Blk w b 41 #[.int .i64 m0, .int .i64 m1]) (hacc : acc.length ≤ 4194304) (hbase : base ≤ w.heap.size)
    (h : ∀ v' w', w'.ownsRow base 41 2 v' (acc ++ [(⟨m0, m1⟩ : Window)]).length (flat Window.at_ 2 (acc ++ [(⟨m0, m1⟩ : Window)])) → Below base w w' → w.grownBy w' v.ownBlock → (v'.ownBlock = v.ownBlock ∨ v'.ownBlock = some w.heap.size) → wpList Try.prog ops Q rest (a.put o.dst v') w') :
    wpList Try.prog ops Q (o :: rest) a w := by
  obtain ⟨i0, hi, hz0, hz1, hz2⟩ := info_parts infoWindow
  refine wpList_append_own_at w hgd s x 25 ho base 41 i0 (.agg #[.int .i64 0, .int .i64 0]) 2 16 Try.underlying25 hi hz0 hz1 hz2 rfl (by decide) v acc.length _ hs hown ⟨b, 0, none⟩ 1 1 [.int .i64 m0, .int .i64 m1] hx rfl (fun j u hj => ?_) (fun u hu => ?_) (by unfold maxLen; omega) (by omega) hbase fun v' w' h1 h2 _ h3 => ?_
  · match j, hj with
    | 0, hj =>
      simp at hj
      subst hj
      exact hb.cell 0
    | 1, hj =>
      simp at hj
      subst hj
      exact hb.cell 1
  · simp at hu
    rcases hu with rfl | rfl <;> rfl
  · exact h v' w' (own_snoc h1 rfl rfl) ((Below.refl _ _).grown h2 hbase (fun q hq => (hown.lt q hq).1)) h2 h3

end Go.Proofs.Ytfcdnaaecfhddaa
