/-
  FnExactSquatOf: for every argument the program's SquatOf and the reference's give one answer. No condition.
-/
import Derived.Test.YtjnoihilhmhihaaFleetNum
import Derived.Test.YtjnoihilhmhihaaTShip
import Derived.Test.YtjnoihilhmhihaaOpenS
namespace Go.Proofs.Ytjnoihilhmhihaa
open Go.ChangeShapes Go.WideShapes Go.ChangeAt Go.RowKit

set_option maxHeartbeats 2000000 in
theorem fnExactSquatOf_walk {v0 : Value} {p : Ship} (w : World) (h0 : IsShip w v0 p) :
    Calls Try.prog 4 #[v0] w fun e w' => e = .returned (.bool true) ∧ Below w.heap.size w w' := by
  obtain ⟨rfl, wf⟩ := h0
  obtain ⟨x0, x1, x2, x3, x4, x5⟩ := p
  have hn := wf.1
  have hk0 := Blk.new w 23 #[.string x0, .int .i64 x1, .int .i64 x2, .int .i64 x3, .int .i64 x4, .bool x5]
  have hB0 : Below w.heap.size w (w.alloc (.cells #[.string x0, .int .i64 x1, .int .i64 x2, .int .i64 x3, .int .i64 x4, .bool x5] 23)) := (Below.refl _ _).alloc (Nat.le_refl _) _
  go_enter Try.func4, Try.ntmps4
  go_wp2_with fail
  refine (szShip_any ⟨x0, x1, x2, x3, x4, x5⟩ _ hn (by omega) (by omega) _).mono ?_
  rintro e w1 ⟨r, rfl, hr1, hr2, hb1⟩
  have hB1 := hB0.trans (hb1.mono hB0.size)
  have hz1 := hb1.size
  have k1 := hk0.next hb1
  by_cases hneg : r < 0
  · go_wp2_with fail
    go_ret
    exact ⟨rfl, hB1⟩
  have c1_0 := k1.cell 0
  have c1_1 := k1.cell 1
  have c1_2 := k1.cell 2
  have c1_3 := k1.cell 3
  have c1_4 := k1.cell 4
  have c1_5 := k1.cell 5
  go_wp2_with fail
  refine (toShip_any _ _ _ _ _ _ _).mono ?_
  rintro e w2 ⟨rfl, hb2⟩
  have hB2 := hB1.trans (hb2.mono hB1.size)
  have hz2 := hb2.size
  have k2 := k1.next hb2
  go_wp2_with fail
  refine (specSquatOf_any ⟨x0, x1, x2, x3, x4, x5⟩ _ hn).mono ?_
  rintro e w3 ⟨rfl, hb3⟩
  have hB3 := hB2.trans (hb3.mono hB2.size)
  have hz3 := hb3.size
  have k3 := k2.next hb3
  have c3_0 := k3.cell 0
  have c3_1 := k3.cell 1
  have c3_2 := k3.cell 2
  have c3_3 := k3.cell 3
  have c3_4 := k3.cell 4
  have c3_5 := k3.cell 5
  go_wp2_with fail
  refine (toShip_any _ _ _ _ _ _ _).mono ?_
  rintro e w4 ⟨rfl, hb4⟩
  have hB4 := hB3.trans (hb4.mono hB3.size)
  have hz4 := hb4.size
  have k4 := k3.next hb4
  go_wp2_with fail
  refine (implSquatOf_any ⟨x0, x1, x2, x3, x4, x5⟩ _ hn).mono ?_
  rintro e w5 ⟨rfl, hb5⟩
  have hB5 := hB4.trans (hb5.mono hB4.size)
  have hz5 := hb5.size
  have k5 := k4.next hb5
  go_wp2_with fail
  go_ret
  exact ⟨rfl, hB5⟩

set_option maxRecDepth 100000 in
theorem fnExactSquatOf_lifted (os : Os) (started : os.Started) (H : Type) (enc : TypeId × Value → H) :
    ReturnsInHanded {} Try.checked os 4 .any (Rows.fnExactSquatOfSpec.pre6 enc Try.prog Try.f4 Rows.fnExactSquatOfRow.domain false) (Rows.fnExactSquatOfSpec.post enc Try.prog Try.f4 false true false false) := by
  refine returnsInHanded_of_change (C := Try.checked) own_ started (by kernel_rfl) Try.func4
    (ChangeSpec.witness6 (enc := enc) (C := Try.checked) false ⟨#[], #[.agg #[.string ⟨#[]⟩, .int .i64 0, .int .i64 0, .int .i64 0, .int .i64 0, .bool false]], []⟩ 8 (by kernel_rfl) (by kernel_rfl) (by kernel_rfl) (by kernel_rfl)) ?_
  intro W base args ds gs before hval0 hW hcnd _
  have hval : ∀ (j : Nat) t v, Try.f4.params[j]? = some t → args[j]? = some v → Value.okWide Try.prog W .any base t v := hval0
  have hW' := hW
  obtain ⟨p, q, hA0, hV, rfl, hfz, hnd⟩ := hW
  have hA : DataW.TrodAll enc Try.prog W 0 (fun _ => true) true Try.f4.params.toList args.toList ds p := hA0
  rw [Try.params4] at hA hval
  obtain ⟨v0, d0, rfl, rfl, h0⟩ := trodAll_one hA
  obtain ⟨rfl, rfl⟩ := trodVars_none hV
  obtain ⟨x0, hx0⟩ := open_Ship Try.underlying23 (by kernel_rfl) (by kernel_rfl) Try.underlying9 Try.underlying3 Try.underlying3 Try.underlying3 Try.underlying3 Try.underlying4 (hval 0 23 v0 rfl rfl) h0
  refine (fnExactSquatOf_walk W hx0).mono fun e W' ⟨he, hb⟩ => ?_
  subst he
  exact ⟨_, rfl, law_post laidOut_ (by kernel_rfl) rfl (by kernel_rfl) Try.underlying4 hW' rfl hb⟩

theorem fnExactSquatOf_holds : Rows.FnExactSquatOfSaid :=
  OpenClaim.holds_of_wide 4 Try.f4 rfl rfl rfl rfl rfl rfl rfl ⟨rfl, rfl, rfl, rfl, rfl⟩ rfl rfl rfl rfl rfl (by kernel_rfl) Try.func4 (by kernel_rfl)
    (of_decide_eq_true (by kernel_rfl)) (by unfold Func.isWrapper; rw [if_neg (of_decide_eq_false (by kernel_rfl))]; exact ⟨rfl, rfl⟩)
    (fun os started H enc _ => fnExactSquatOf_lifted os started H enc)
#print axioms fnExactSquatOf_holds

end Go.Proofs.Ytjnoihilhmhihaa
