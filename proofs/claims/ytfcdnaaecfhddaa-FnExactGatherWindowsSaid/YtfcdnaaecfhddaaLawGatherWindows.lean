/-
  FnExactGatherWindows: for all arguments the program's GatherWindows and the reference's give one answer, in new memory that no other call shares, and leave their arguments alone. No condition.
-/
import Derived.Test.YtfcdnaaecfhddaaGatherI
import Derived.Test.YtfcdnaaecfhddaaOpenW
namespace Go.Proofs.Ytfcdnaaecfhddaa
open Go.ChangeShapes Go.WideShapes Go.ChangeAt Go.RowKit

set_option maxHeartbeats 4000000 in
theorem fnExactGatherWindows_walk {v0 : Value} {ps : List Window} (w : World) (h0 : IsWindows w v0 ps)  :
    Calls Try.prog 10 #[v0] w fun e w' => e = .returned (.bool true) ∧ Below w.heap.size w w' := by
  obtain ⟨A0, c0, rfl, hr0, hml0, hwf0⟩ := h0
  unfold maxLen at hml0
  have hB0 : Below w.heap.size w w := Below.refl _ _
  go_enter Try.func10, Try.ntmps10
  go_wp2_with fail
  refine (szWindowS_any _ _ _ _ (by omega) (by omega) (by omega) _).mono ?_
  rintro e w1 ⟨r0, rfl, hr01, hr02, hb1⟩
  have hB1 := hB0.trans (hb1.mono hB0.size)
  have hz1 := hb1.size
  by_cases hneg0 : r0 < 0
  · go_wp2_with fail
    go_ret
    exact ⟨rfl, hB1⟩
  have hlen0 : ps.length ≤ 1048576 := by omega
  have hrl : (gatherF ps).length ≤ 1048576 := by have := gatherF_le ps; omega
  go_wp2_with fail
  refine (toWindowS_any _ _ _ _ ((hr0.below hB1).more hB1.size) hlen0).mono ?_
  rintro e w2 ⟨rfl, hsx0, hb2⟩
  have hB2 := hB1.trans (hb2.mono hB1.size)
  have hz2 := hb2.size
  go_wp2_with fail
  refine (specGatherWindows_any _ _ _ _ hsx0.rd hlen0).mono ?_
  rintro e w3 ⟨Aw, cw, rfl, hsw, hb3⟩
  have hB3 := hB2.trans (hb3.mono hB2.size)
  have hz3 := hb3.size
  have sx0_3 := hsx0.next hb3
  go_wp2_with fail
  refine (toWindowS_any _ _ _ _ ((hr0.below hB3).more hB3.size) hlen0).mono ?_
  rintro e w4 ⟨rfl, hx0, hb4⟩
  have hB4 := hB3.trans (hb4.mono hB3.size)
  have hz4 := hb4.size
  have fw4 := hsw.next hb4
  have hxs0 := hx0.sl (Nat.le_refl _) (Nat.lt_succ_self _)
  have hxl0 := hx0.lt
  go_wp2_with fail
  refine (implGatherWindows_any _ _ _ _ hxs0.rd hlen0).mono ?_
  rintro e w5 ⟨Ag, cg, rfl, hsg, hb5⟩
  have hB5 := hB4.trans (hb5.mono hB4.size)
  have hz5 := hb5.size
  have fw5 := fw4.next hb5
  have fx0_5 := hxs0.next hb5
  go_wp2_with fail
  refine (eqWindowS_same _ _ _ _ _ _ hsg.rd fw5.rd hrl).mono ?_
  rintro e w6 ⟨rfl, hb6⟩
  have hB6 := hB5.trans (hb6.mono hB5.size)
  have hz6 := hb6.size
  have fw6 := fw5.next hb6
  have fx0_6 := fx0_5.next hb6
  have fg6 := hsg.next hb6
  go_wp2_with fail
  refine (toWindowS_any _ _ _ _ ((hr0.below hB6).more hB6.size) hlen0).mono ?_
  rintro e w7 ⟨rfl, hy0, hb7⟩
  have hB7 := hB6.trans (hb7.mono hB6.size)
  have hz7 := hb7.size
  have fw7 := fw6.next hb7
  have fx0_7 := fx0_6.next hb7
  have fg7 := fg6.next hb7
  go_wp2_with fail
  refine (eqWindowS_same _ _ _ _ _ _ fx0_7.rd hy0.rd hlen0).mono ?_
  rintro e w8 ⟨rfl, hb8⟩
  have hB8 := hB7.trans (hb8.mono hB7.size)
  have hz8 := hb8.size
  have fw8 := fw7.next hb8
  have fx0_8 := fx0_7.next hb8
  have fg8 := fg7.next hb8
  go_wp2_with fail
  refine (markWindowS_any _ _ _ _ _ _ _ fx0_8 hlen0 (by omega) (by omega)).mono ?_
  rintro e w9 ⟨rfl, hxm0, hb9⟩
  have hB9 := hB8.trans (hb9.below hB3.size hB8.size)
  have hz9 := hb9.size
  have fw9 := fw8.out hb9 (.inl (by omega))
  have fg9 := fg8.out hb9 (.inr (by omega))
  go_wp2_with fail
  refine (eqWindowS_same _ _ _ _ _ _ fg9.rd fw9.rd hrl).mono ?_
  rintro e w10 ⟨rfl, hb10⟩
  have hB10 := hB9.trans (hb10.mono hB9.size)
  have hz10 := hb10.size
  have fw10 := fw9.next hb10
  have fg10 := fg9.next hb10
  go_wp2_with fail
  refine (markWindowS_any _ _ _ _ _ _ _ fg10 hrl (by omega) (by omega)).mono ?_
  rintro e w11 ⟨rfl, hgm, hb11⟩
  have hB11 := hB10.trans (hb11.below hB4.size hB10.size)
  have hz11 := hb11.size
  have fw11 := fw10.out hb11 (.inl (by omega))
  go_wp2_with fail
  refine (heldWindowS_any _ _ _ _ _ hgm.rd hrl (by omega) (by omega)).mono ?_
  rintro e w' ⟨rfl, rfl⟩
  go_wp2_with fail
  refine (toWindowS_any _ _ _ _ ((hr0.below hB11).more hB11.size) hlen0).mono ?_
  rintro e w12 ⟨rfl, hzz0, hb12⟩
  have hB12 := hB11.trans (hb12.mono hB11.size)
  have hz12 := hb12.size
  have fw12 := fw11.next hb12
  have fm12 := hgm.next hb12
  go_wp2_with fail
  refine (implGatherWindows_any _ _ _ _ hzz0.rd hlen0).mono ?_
  rintro e w13 ⟨Ah, ch, rfl, hsh, hb13⟩
  have hB13 := hB12.trans (hb13.mono hB12.size)
  have hz13 := hb13.size
  have fw13 := fw12.next hb13
  have fm13 := fm12.next hb13
  have fz0_13 := hzz0.next hb13
  go_wp2_with fail
  refine (eqWindowS_same _ _ _ _ _ _ hsh.rd fw13.rd hrl).mono ?_
  rintro e w14 ⟨rfl, hb14⟩
  have hB14 := hB13.trans (hb14.mono hB13.size)
  have hz14 := hb14.size
  have fw14 := fw13.next hb14
  have fm14 := fm13.next hb14
  have fh14 := hsh.next hb14
  go_wp2_with fail
  refine (heldWindowS_any _ _ _ _ _ fm14.rd hrl (by omega) (by omega)).mono ?_
  rintro e w' ⟨rfl, rfl⟩
  go_wp2_with fail
  go_ret
  exact ⟨rfl, hB14⟩

set_option maxRecDepth 100000 in
theorem fnExactGatherWindows_lifted (os : Os) (started : os.Started) (H : Type) (enc : TypeId × Value → H) :
    ReturnsInHanded {} Try.checked os 10 .any (Rows.fnExactGatherWindowsSpec.pre6 enc Try.prog Try.f10 Rows.fnExactGatherWindowsRow.domain false) (Rows.fnExactGatherWindowsSpec.post enc Try.prog Try.f10 false true false false) := by
  refine returnsInHanded_of_change (C := Try.checked) own_ started (by kernel_rfl) Try.func10
    (ChangeSpec.witness6 (enc := enc) (C := Try.checked) false ⟨#[], #[.slice none 0 0], []⟩ 8 (by kernel_rfl) (by kernel_rfl) (by kernel_rfl) (by kernel_rfl)) ?_
  intro W base args ds gs before hval0 hW hcnd _
  have hval : ∀ (j : Nat) t v, Try.f10.params[j]? = some t → args[j]? = some v → Value.okWide Try.prog W .any base t v := hval0
  have hW' := hW
  obtain ⟨p, q, hA0, hV, rfl, hfz, hnd⟩ := hW
  have hA : DataW.TrodAll enc Try.prog W 0 (fun _ => true) true Try.f10.params.toList args.toList ds p := hA0
  rw [Try.params10] at hA hval
  obtain ⟨v0, d0, rfl, rfl, h0⟩ := trodAll_one hA
  obtain ⟨rfl, rfl⟩ := trodVars_none hV
  obtain ⟨x0, hx0⟩ := open_Windows Try.underlying22 Try.underlying46 (by kernel_rfl) (by kernel_rfl) Try.underlying3 Try.underlying3 (hval 0 22 v0 rfl rfl) h0
  refine (fnExactGatherWindows_walk W hx0).mono fun e W' ⟨he, hb⟩ => ?_
  subst he
  exact ⟨_, rfl, law_post laidOut_ (by kernel_rfl) rfl (by kernel_rfl) Try.underlying4 hW' rfl hb⟩

theorem fnExactGatherWindows_holds : Rows.FnExactGatherWindowsSaid :=
  OpenClaim.holds_of_wide 10 Try.f10 rfl rfl rfl rfl rfl rfl rfl ⟨rfl, rfl, rfl, rfl, rfl⟩ rfl rfl rfl rfl rfl (by kernel_rfl) Try.func10 (by kernel_rfl)
    (of_decide_eq_true (by kernel_rfl)) (by unfold Func.isWrapper; rw [if_neg (of_decide_eq_false (by kernel_rfl))]; exact ⟨rfl, rfl⟩)
    (fun os started H enc _ => fnExactGatherWindows_lifted os started H enc)
#print axioms fnExactGatherWindows_holds

end Go.Proofs.Ytfcdnaaecfhddaa
