/-
  One surge is appended to a row of the call's own; the last surge of such a row is written.
-/
import Derived.Test.YtmhiohijpnmcpaaWinApp
import Derived.Test.YtmhiohijpnmcpaaTSurge
import Derived.Test.YtmhiohijpnmcpaaAppAny
import Derived.Test.YtmhiohijpnmcpaaModelRv
namespace Go.Proofs.Ytmhiohijpnmcpaa
open Go.RowKit

theorem infoSurgeA : (Try.prog.info? 66).map (fun i => (i.zero, i.size, i.bytes)) = some (some (.agg #[.int .i64 0, .int .i64 0, .int .i64 0]), 3, 24) := by kernel_rfl
theorem surge_one (ps : List Surge) : ∀ u ∈ flat Surge.at_ 3 ps, u.oneCell' = true := fun u hu => by
  obtain ⟨p, hp, hu⟩ := List.mem_flatMap.1 hu
  simp at hu
  obtain ⟨j, hj, rfl⟩ := hu
  match j, hj with
  | 0, _ => rfl
  | 1, _ => rfl
  | 2, _ => rfl

theorem wpAppendSurge {ops : Array Oper} {rest : List Oper} {o : Oper} {a : Act} {w : World} {Q : Exit → Act → World → Prop} (hgd : o.guard = none) (s x : Operand)
    (ho : o.op = .call { callee := .builtin .append, args := #[s, x], argTypes := #[33, 33] })
    (base : Nat) (v : Value) (acc : List Surge) (hs : a.eval s = v) (hown : w.ownsRow base 66 3 v acc.length (flat Surge.at_ 3 acc))
    (b : Nat) (hx : a.eval x = .slice (some ⟨b, 0, none⟩) 1 1) (m0 m1 m2 : Int) (hb : Blk w b 66 #[.int .i64 m0, .int .i64 m1, .int .i64 m2]) (hacc : acc.length ≤ 4194304) (hbase : base ≤ w.heap.size)
    (h : ∀ g cap w', w'.ownsRow base 66 3 (.slice (some ⟨g, 0, none⟩) (acc.length + 1) cap) (acc ++ [(⟨m0, m1, m2⟩ : Surge)]).length (flat Surge.at_ 3 (acc ++ [(⟨m0, m1, m2⟩ : Surge)])) → Below base w w' → wpList Try.prog ops Q rest (a.put o.dst (.slice (some ⟨g, 0, none⟩) (acc.length + 1) cap)) w') :
    wpList Try.prog ops Q (o :: rest) a w := by
  obtain ⟨i0, hi, hz0, hz1, hz2⟩ := info_parts infoSurgeA
  refine wpList_append_lies w hgd s x 33 ho base 66 i0 (.agg #[.int .i64 0, .int .i64 0, .int .i64 0]) 3 24 Try.underlying33 hi hz0 hz1 hz2 rfl (by decide) v acc.length _ hs hown ⟨b, 0, none⟩ 1 1 [.int .i64 m0, .int .i64 m1, .int .i64 m2] hx rfl (fun j u hj => ?_) (fun u hu => ?_) (by decide) (by unfold maxLen; omega) (by omega) hbase _ rfl fun g cap w' h1 h2 _ _ => ?_
  · match j, hj with
    | 0, hj =>
      simp at hj
      subst hj
      exact hb.cell 0
    | 1, hj =>
      simp at hj
      subst hj
      exact hb.cell 1
    | 2, hj =>
      simp at hj
      subst hj
      exact hb.cell 2
  · simp at hu
    rcases hu with rfl | rfl | rfl <;> rfl
  · exact h g cap w' (own_snoc h1 rfl rfl) ((Below.refl _ _).grown h2 hbase (fun q hq => (hown.lt q hq).1))

/-- The last surge of a row of the call's own can be written. -/
theorem ownS_last {w : World} {base : Nat} {v : Value} {acc : List Surge} {p : Surge} (h : w.ownsRow base 66 3 v (acc ++ [p]).length (flat Surge.at_ 3 (acc ++ [p]))) :
    ∃ g cap cs, v = .slice (some ⟨g, 0, none⟩) (acc.length + 1) cap ∧ acc.length + 1 ≤ cap ∧ base ≤ g ∧ g < w.heap.size ∧ Blk w g 66 cs ∧ acc.length * 3 + 3 ≤ cs.size ∧
      ∀ x y z : Int, (((w.setCell ⟨g, acc.length * 3, none⟩ (.int .i64 x)).setCell ⟨g, acc.length * 3 + 1, none⟩ (.int .i64 y)).setCell ⟨g, acc.length * 3 + 2, none⟩ (.int .i64 z)).ownsRow base 66 3 v (acc ++ [(⟨x, y, z⟩ : Surge)]).length (flat Surge.at_ 3 (acc ++ [(⟨x, y, z⟩ : Surge)])) := by
  obtain ⟨hn, hv⟩ := h
  rcases hv with ⟨_, h0⟩ | ⟨g, cap, cur, rfl, hb, hg, hnc, hm, hcs, htake⟩
  · simp at h0
  have hl : (acc ++ [p]).length = acc.length + 1 := by simp
  have hfl := flat_length Surge.at_ 3 acc
  have hk : Blk w g 66 cur := hg
  rw [hl] at hnc
  refine ⟨g, cap, cur, by rw [hl], hnc, hb, hk.lt, hk, by omega, fun x y z => ⟨by rw [flat_length], .inr ⟨g, cap, ((cur.setIfInBounds (acc.length * 3) (.int .i64 x)).setIfInBounds (acc.length * 3 + 1) (.int .i64 y)).setIfInBounds (acc.length * 3 + 2) (.int .i64 z), ?_, hb, ((hk.set_ _ _).set_ _ _).set_ _ _, ?_, hm, ?_, ?_⟩⟩⟩
  · rw [hl]
    simp
  · simpa using hnc
  · simpa using hcs
  · rw [flat_snoc] at htake
    rw [Array.toList_setIfInBounds, Array.toList_setIfInBounds, Array.toList_setIfInBounds, List.take_set, List.take_set, List.take_set, show (acc ++ [(⟨x, y, z⟩ : Surge)]).length = (acc ++ [p]).length by simp, htake, flat_snoc, List.set_append_right _ _ (by omega), List.set_append_right _ _ (by omega), List.set_append_right _ _ (by omega), hfl, Nat.sub_self, show acc.length * 3 + 1 - acc.length * 3 = 1 by omega, show acc.length * 3 + 2 - acc.length * 3 = 2 by omega]
    rfl

section
variable {α : Type} {f : α → Bool} {l : List α} {k : Nat} {p : α}
theorem filt_yes (hp : l[k]? = some p) (hf : f p = true) : (l.take (k + 1)).filter f = (l.take k).filter f ++ [p] := by
  have hl : k < l.length := (List.getElem?_eq_some_iff.1 hp).1
  have hv : l[k] = p := (List.getElem?_eq_some_iff.1 hp).2
  rw [List.take_succ_eq_append_getElem hl, List.filter_append, hv]
  simp [hf]
theorem filt_no (hp : l[k]? = some p) (hf : f p = false) : (l.take (k + 1)).filter f = (l.take k).filter f := by
  have hl : k < l.length := (List.getElem?_eq_some_iff.1 hp).1
  have hv : l[k] = p := (List.getElem?_eq_some_iff.1 hp).2
  rw [List.take_succ_eq_append_getElem hl, List.filter_append, hv]
  simp [hf]
end

/-- What ReviseBand's contract says. -/
def ResRev (m : Int) (ps : List Part) (ss : List Surge) (minute low high : Int) (w : World) (e : Ending) (w' : World) : Prop :=
  ∃ A c A' c', e = .returned (.tuple #[.agg #[.int .i64 (revM m ps ss minute low high), .slice A (revP m ps ss minute low high).length c, .slice A' (revS m ps ss minute low high).length c'], .bool (revC m ps ss minute low high)]) ∧
    Sl w' w.heap.size w'.heap.size A 91 Part.at_ 3 (revP m ps ss minute low high) ∧ Sl w' w.heap.size w'.heap.size A' 66 Surge.at_ 3 (revS m ps ss minute low high) ∧ Below w.heap.size w w'
theorem ResRev.no {m : Int} {ps : List Part} {ss : List Surge} {minute low high : Int} {w w' : World} (h : revC m ps ss minute low high = false) (hb : Below w.heap.size w w') :
    ResRev m ps ss minute low high w (.returned (.tuple #[.agg #[.int .i64 0, .slice none 0 0, .slice none 0 0], .bool false])) w' := by
  unfold ResRev revM revP revS
  rw [h]
  exact ⟨none, 0, none, 0, rfl, Sl.nil_, Sl.nil_, hb⟩
theorem ResRev.yes {m : Int} {ps : List Part} {ss : List Surge} {minute low high : Int} {w w' : World} {A A' : Option Addr} {c c' : Nat} (h : revC m ps ss minute low high = true) (hb : Below w.heap.size w w')
    (h1 : Sl w' w.heap.size w'.heap.size A 91 Part.at_ 3 ps) (h2 : Sl w' w.heap.size w'.heap.size A' 66 Surge.at_ 3 (revL ss minute low high)) :
    ResRev m ps ss minute low high w (.returned (.tuple #[.agg #[.int .i64 m, .slice A ps.length c, .slice A' (revL ss minute low high).length c'], .bool true])) w' := by
  unfold ResRev revM revP revS
  rw [h]
  exact ⟨A, c, A', c', rfl, h1, h2, hb⟩

end Go.Proofs.Ytmhiohijpnmcpaa
