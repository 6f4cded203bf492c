/-
  One window is appended to a row of the call's own.
-/
import Derived.Test.YtmhiohijpnmcpaaTWindow
import Derived.Test.YtmhiohijpnmcpaaGrow
import Derived.Maps.AppendAt
namespace Go.Proofs.Ytmhiohijpnmcpaa
open Go.RowKit

theorem Blk.new' {W : World} {b : Nat} (t : TypeId) (cs : Array Value) (h : W.heap.size = b) : Blk (W.alloc (.cells cs t)) b t cs := h ▸ Blk.new W t cs

theorem infoWin : (Try.prog.info? 83).map (fun i => (i.zero, i.size, i.bytes)) = some (some (.agg #[.int .i64 0, .int .i64 0]), 2, 16) := by kernel_rfl

theorem wpAppendWindow {ops : Array Oper} {rest : List Oper} {o : Oper} {a : Act} {w : World} {Q : Exit → Act → World → Prop} (hgd : o.guard = none) (s x : Operand)
    (ho : o.op = .call { callee := .builtin .append, args := #[s, x], argTypes := #[49, 49] })
    (base : Nat) (v : Value) (acc : List Window) (hs : a.eval s = v) (hown : w.ownsRow base 83 2 v acc.length (flat Window.at_ 2 acc))
    (b : Nat) (hx : a.eval x = .slice (some ⟨b, 0, none⟩) 1 1) (m0 m1 : Int) (hb : Blk w b 83 #[.int .i64 m0, .int .i64 m1]) (hacc : acc.length ≤ 4194304) (hbase : base ≤ w.heap.size)
    (h : ∀ v' w', w'.ownsRow base 83 2 v' (acc ++ [(⟨m0, m1⟩ : Window)]).length (flat Window.at_ 2 (acc ++ [(⟨m0, m1⟩ : Window)])) → Below base w w' → w.grownBy w' v.ownBlock → (v'.ownBlock = v.ownBlock ∨ v'.ownBlock = some w.heap.size) → wpList Try.prog ops Q rest (a.put o.dst v') w') :
    wpList Try.prog ops Q (o :: rest) a w := by
  obtain ⟨i0, hi, hz0, hz1, hz2⟩ := info_parts infoWin
  refine wpList_append_own_at w hgd s x 49 ho base 83 i0 (.agg #[.int .i64 0, .int .i64 0]) 2 16 Try.underlying49 hi hz0 hz1 hz2 rfl (by decide) v acc.length _ hs hown ⟨b, 0, none⟩ 1 1 [.int .i64 m0, .int .i64 m1] hx rfl (fun j u hj => ?_) (fun u hu => ?_) (by unfold maxLen; omega) (by omega) hbase fun v' w' h1 h2 _ h3 => ?_
  · match j, hj with
    | 0, hj =>
      simp at hj
      subst hj
      exact hb.cell 0
    | 1, hj =>
      simp at hj
      subst hj
      exact hb.cell 1
  · simp at hu
    rcases hu with rfl | rfl <;> rfl
  · exact h v' w' (own_snoc h1 rfl rfl) ((Below.refl _ _).grown h2 hbase (fun q hq => (hown.lt q hq).1)) h2 h3

theorem ownsRow_out {w w' : World} {base lo hi size n : Nat} {e : TypeId} {v : Value} {xs : List Value} (h : w.ownsRow base e size v n xs) (ho : Out lo hi w w') (hh : hi ≤ base) : w'.ownsRow base e size v n xs :=
  ⟨h.1, h.2.imp id fun ⟨g, cap, cur, hv, hg, hb, rest⟩ => ⟨g, cap, cur, hv, hg, (ho.block g (Array.getElem?_eq_some_iff.1 hb).1 (.inr (by omega))).trans hb, rest⟩⟩

/-- The last window of a row of the call's own: its end can be read and written. -/
theorem ownW_last {w : World} {base : Nat} {v : Value} {acc : List Window} {p : Window} (h : w.ownsRow base 83 2 v (acc ++ [p]).length (flat Window.at_ 2 (acc ++ [p]))) :
    ∃ g cap, v = .slice (some ⟨g, 0, none⟩) (acc.length + 1) cap ∧ base ≤ g ∧ g < w.heap.size ∧ w.cell? ⟨g, acc.length * 2 + 1, none⟩ = some (.int .i64 p.to_) ∧ w.frozen? ⟨g, acc.length * 2 + 1, none⟩ = false ∧
      ∀ m : Int, (w.setCell ⟨g, acc.length * 2 + 1, none⟩ (.int .i64 m)).ownsRow base 83 2 v (acc ++ [(⟨p.frm, m⟩ : Window)]).length (flat Window.at_ 2 (acc ++ [(⟨p.frm, m⟩ : Window)])) := by
  obtain ⟨hn, hv⟩ := h
  rcases hv with ⟨_, h0⟩ | ⟨g, cap, cur, rfl, hb, hg, hnc, hm, hcs, htake⟩
  · simp at h0
  have hl : (acc ++ [p]).length = acc.length + 1 := by simp
  have hfl := flat_length Window.at_ 2 acc
  rw [flat_snoc] at htake
  have hget : cur[acc.length * 2 + 1]? = some (.int .i64 p.to_) := by
    have h1 : (List.take ((acc ++ [p]).length * 2) cur.toList)[acc.length * 2 + 1]? = some (.int .i64 p.to_) := by
      rw [htake, List.getElem?_append_right (by omega), hfl]
      rw [show acc.length * 2 + 1 - acc.length * 2 = 1 by omega]
      rfl
    rw [List.getElem?_take] at h1
    split at h1
    · simpa using h1
    · cases h1
  have hk : Blk w g 83 cur := hg
  refine ⟨g, cap, by rw [hl], hb, hk.lt, (hk.cell _).trans hget, hk.frozen _, fun m => ⟨by rw [flat_length], .inr ⟨g, cap, cur.setIfInBounds (acc.length * 2 + 1) (.int .i64 m), ?_, hb, hk.set_ _ _, ?_, hm, ?_, ?_⟩⟩⟩
  · rw [hl]
    simp
  · rw [hl] at hnc
    simpa using hnc
  · simpa using hcs
  · rw [Array.toList_setIfInBounds, List.take_set, show (acc ++ [(⟨p.frm, m⟩ : Window)]).length = (acc ++ [p]).length by simp, htake, flat_snoc, List.set_append_right _ _ (by omega), hfl, show acc.length * 2 + 1 - acc.length * 2 = 1 by omega]
    rfl

end Go.Proofs.Ytmhiohijpnmcpaa
