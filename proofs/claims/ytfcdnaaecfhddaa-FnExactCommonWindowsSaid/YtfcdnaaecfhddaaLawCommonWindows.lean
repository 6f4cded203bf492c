/-
  FnExactCommonWindows: for all arguments the program's CommonWindows and the reference's give one answer, in new memory that no other call shares, and leave their arguments alone. No condition.
-/
import Derived.Test.YtfcdnaaecfhddaaWinComI
import Derived.Test.YtfcdnaaecfhddaaWinComS
import Derived.Test.YtfcdnaaecfhddaaOpenW
namespace Go.Proofs.Ytfcdnaaecfhddaa
open Go.ChangeShapes Go.WideShapes Go.ChangeAt Go.RowKit

set_option maxHeartbeats 4000000 in
theorem fnExactCommonWindows_walk {v0 v1 : Value} {ps qs : List Window} (w : World) (h0 : IsWindows w v0 ps) (h1 : IsWindows w v1 qs)  :
    Calls Try.prog 9 #[v0, v1] w fun e w' => e = .returned (.bool true) ∧ Below w.heap.size w w' := by
  obtain ⟨A0, c0, rfl, hr0, hml0, hwf0⟩ := h0
  obtain ⟨A1, c1, rfl, hr1, hml1, hwf1⟩ := h1
  unfold maxLen at hml0
  unfold maxLen at hml1
  have hB0 : Below w.heap.size w w := Below.refl _ _
  go_enter Try.func9, Try.ntmps9
  go_wp2_with fail
  refine (szWindowS_any _ _ _ _ (by omega) (by omega) (by omega) _).mono ?_
  rintro e w1 ⟨r0, rfl, hr01, hr02, hb1⟩
  have hB1 := hB0.trans (hb1.mono hB0.size)
  have hz1 := hb1.size
  by_cases hneg0 : r0 < 0
  · go_wp2_with fail
    go_ret
    exact ⟨rfl, hB1⟩
  have hlen0 : ps.length ≤ 1048576 := by omega
  go_wp2_with fail
  refine (szWindowS_any _ _ _ _ (by omega) (by omega) (by omega) _).mono ?_
  rintro e w2 ⟨r1, rfl, hr11, hr12, hb2⟩
  have hB2 := hB1.trans (hb2.mono hB1.size)
  have hz2 := hb2.size
  by_cases hneg1 : r1 < 0
  · go_wp2_with fail
    go_ret
    exact ⟨rfl, hB2⟩
  have hlen1 : qs.length ≤ 1048576 := by omega
  have hrl : (commonF ps qs).length ≤ 1048576 := by have := commonF_small ps qs; omega
  go_wp2_with fail
  refine (toWindowS_any _ _ _ _ ((hr0.below hB2).more hB2.size) hlen0).mono ?_
  rintro e w3 ⟨rfl, hsx0, hb3⟩
  have hB3 := hB2.trans (hb3.mono hB2.size)
  have hz3 := hb3.size
  go_wp2_with fail
  refine (toWindowS_any _ _ _ _ ((hr1.below hB3).more hB3.size) hlen1).mono ?_
  rintro e w4 ⟨rfl, hsx1, hb4⟩
  have hB4 := hB3.trans (hb4.mono hB3.size)
  have hz4 := hb4.size
  have sx0_4 := hsx0.next hb4
  go_wp2_with fail
  refine (specCommonWindows_any _ _ _ _ _ _ _ sx0_4.rd hsx1.rd hlen0 hlen1).mono ?_
  rintro e w5 ⟨Aw, cw, rfl, hsw, hb5⟩
  have hB5 := hB4.trans (hb5.mono hB4.size)
  have hz5 := hb5.size
  have sx0_5 := sx0_4.next hb5
  have sx1_5 := hsx1.next hb5
  go_wp2_with fail
  refine (toWindowS_any _ _ _ _ ((hr0.below hB5).more hB5.size) hlen0).mono ?_
  rintro e w6 ⟨rfl, hx0, hb6⟩
  have hB6 := hB5.trans (hb6.mono hB5.size)
  have hz6 := hb6.size
  have fw6 := hsw.next hb6
  have hxs0 := hx0.sl (Nat.le_refl _) (Nat.lt_succ_self _)
  have hxl0 := hx0.lt
  go_wp2_with fail
  refine (toWindowS_any _ _ _ _ ((hr1.below hB6).more hB6.size) hlen1).mono ?_
  rintro e w7 ⟨rfl, hx1, hb7⟩
  have hB7 := hB6.trans (hb7.mono hB6.size)
  have hz7 := hb7.size
  have fw7 := fw6.next hb7
  have fx0_7 := hxs0.next hb7
  have hxs1 := hx1.sl (Nat.le_refl _) (Nat.lt_succ_self _)
  have hxl1 := hx1.lt
  go_wp2_with fail
  refine (implCommonWindows_any _ _ _ _ _ _ _ fx0_7.rd hxs1.rd hlen0 hlen1).mono ?_
  rintro e w8 ⟨Ag, cg, rfl, hsg, hb8⟩
  have hB8 := hB7.trans (hb8.mono hB7.size)
  have hz8 := hb8.size
  have fw8 := fw7.next hb8
  have fx0_8 := fx0_7.next hb8
  have fx1_8 := hxs1.next hb8
  go_wp2_with fail
  refine (eqWindowS_same _ _ _ _ _ _ hsg.rd fw8.rd hrl).mono ?_
  rintro e w9 ⟨rfl, hb9⟩
  have hB9 := hB8.trans (hb9.mono hB8.size)
  have hz9 := hb9.size
  have fw9 := fw8.next hb9
  have fx0_9 := fx0_8.next hb9
  have fx1_9 := fx1_8.next hb9
  have fg9 := hsg.next hb9
  go_wp2_with fail
  refine (toWindowS_any _ _ _ _ ((hr0.below hB9).more hB9.size) hlen0).mono ?_
  rintro e w10 ⟨rfl, hy0, hb10⟩
  have hB10 := hB9.trans (hb10.mono hB9.size)
  have hz10 := hb10.size
  have fw10 := fw9.next hb10
  have fx0_10 := fx0_9.next hb10
  have fx1_10 := fx1_9.next hb10
  have fg10 := fg9.next hb10
  go_wp2_with fail
  refine (eqWindowS_same _ _ _ _ _ _ fx0_10.rd hy0.rd hlen0).mono ?_
  rintro e w11 ⟨rfl, hb11⟩
  have hB11 := hB10.trans (hb11.mono hB10.size)
  have hz11 := hb11.size
  have fw11 := fw10.next hb11
  have fx0_11 := fx0_10.next hb11
  have fx1_11 := fx1_10.next hb11
  have fg11 := fg10.next hb11
  go_wp2_with fail
  refine (toWindowS_any _ _ _ _ ((hr1.below hB11).more hB11.size) hlen1).mono ?_
  rintro e w12 ⟨rfl, hy1, hb12⟩
  have hB12 := hB11.trans (hb12.mono hB11.size)
  have hz12 := hb12.size
  have fw12 := fw11.next hb12
  have fx0_12 := fx0_11.next hb12
  have fx1_12 := fx1_11.next hb12
  have fg12 := fg11.next hb12
  go_wp2_with fail
  refine (eqWindowS_same _ _ _ _ _ _ fx1_12.rd hy1.rd hlen1).mono ?_
  rintro e w13 ⟨rfl, hb13⟩
  have hB13 := hB12.trans (hb13.mono hB12.size)
  have hz13 := hb13.size
  have fw13 := fw12.next hb13
  have fx0_13 := fx0_12.next hb13
  have fx1_13 := fx1_12.next hb13
  have fg13 := fg12.next hb13
  go_wp2_with fail
  refine (markWindowS_any _ _ _ _ _ _ _ fx0_13 hlen0 (by omega) (by omega)).mono ?_
  rintro e w14 ⟨rfl, hxm0, hb14⟩
  have hB14 := hB13.trans (hb14.below hB5.size hB13.size)
  have hz14 := hb14.size
  have fw14 := fw13.out hb14 (.inl (by omega))
  have fx1_14 := fx1_13.out hb14 (by omega)
  have fg14 := fg13.out hb14 (.inr (by omega))
  go_wp2_with fail
  refine (markWindowS_any _ _ _ _ _ _ _ fx1_14 hlen1 (by omega) (by omega)).mono ?_
  rintro e w15 ⟨rfl, hxm1, hb15⟩
  have hB15 := hB14.trans (hb15.below hB6.size hB14.size)
  have hz15 := hb15.size
  have fw15 := fw14.out hb15 (.inl (by omega))
  have fg15 := fg14.out hb15 (.inr (by omega))
  go_wp2_with fail
  refine (eqWindowS_same _ _ _ _ _ _ fg15.rd fw15.rd hrl).mono ?_
  rintro e w16 ⟨rfl, hb16⟩
  have hB16 := hB15.trans (hb16.mono hB15.size)
  have hz16 := hb16.size
  have fw16 := fw15.next hb16
  have fg16 := fg15.next hb16
  go_wp2_with fail
  refine (markWindowS_any _ _ _ _ _ _ _ fg16 hrl (by omega) (by omega)).mono ?_
  rintro e w17 ⟨rfl, hgm, hb17⟩
  have hB17 := hB16.trans (hb17.below hB7.size hB16.size)
  have hz17 := hb17.size
  have fw17 := fw16.out hb17 (.inl (by omega))
  go_wp2_with fail
  refine (heldWindowS_any _ _ _ _ _ hgm.rd hrl (by omega) (by omega)).mono ?_
  rintro e w' ⟨rfl, rfl⟩
  go_wp2_with fail
  refine (toWindowS_any _ _ _ _ ((hr0.below hB17).more hB17.size) hlen0).mono ?_
  rintro e w18 ⟨rfl, hzz0, hb18⟩
  have hB18 := hB17.trans (hb18.mono hB17.size)
  have hz18 := hb18.size
  have fw18 := fw17.next hb18
  have fm18 := hgm.next hb18
  go_wp2_with fail
  refine (toWindowS_any _ _ _ _ ((hr1.below hB18).more hB18.size) hlen1).mono ?_
  rintro e w19 ⟨rfl, hzz1, hb19⟩
  have hB19 := hB18.trans (hb19.mono hB18.size)
  have hz19 := hb19.size
  have fw19 := fw18.next hb19
  have fm19 := fm18.next hb19
  have fz0_19 := hzz0.next hb19
  go_wp2_with fail
  refine (implCommonWindows_any _ _ _ _ _ _ _ fz0_19.rd hzz1.rd hlen0 hlen1).mono ?_
  rintro e w20 ⟨Ah, ch, rfl, hsh, hb20⟩
  have hB20 := hB19.trans (hb20.mono hB19.size)
  have hz20 := hb20.size
  have fw20 := fw19.next hb20
  have fm20 := fm19.next hb20
  have fz0_20 := fz0_19.next hb20
  have fz1_20 := hzz1.next hb20
  go_wp2_with fail
  refine (eqWindowS_same _ _ _ _ _ _ hsh.rd fw20.rd hrl).mono ?_
  rintro e w21 ⟨rfl, hb21⟩
  have hB21 := hB20.trans (hb21.mono hB20.size)
  have hz21 := hb21.size
  have fw21 := fw20.next hb21
  have fm21 := fm20.next hb21
  have fh21 := hsh.next hb21
  go_wp2_with fail
  refine (heldWindowS_any _ _ _ _ _ fm21.rd hrl (by omega) (by omega)).mono ?_
  rintro e w' ⟨rfl, rfl⟩
  go_wp2_with fail
  go_ret
  exact ⟨rfl, hB21⟩

set_option maxRecDepth 100000 in
theorem fnExactCommonWindows_lifted (os : Os) (started : os.Started) (H : Type) (enc : TypeId × Value → H) :
    ReturnsInHanded {} Try.checked os 9 .any (Rows.fnExactCommonWindowsSpec.pre6 enc Try.prog Try.f9 Rows.fnExactCommonWindowsRow.domain false) (Rows.fnExactCommonWindowsSpec.post enc Try.prog Try.f9 false true false false) := by
  refine returnsInHanded_of_change (C := Try.checked) own_ started (by kernel_rfl) Try.func9
    (ChangeSpec.witness6 (enc := enc) (C := Try.checked) false ⟨#[], #[.slice none 0 0, .slice none 0 0], []⟩ 8 (by kernel_rfl) (by kernel_rfl) (by kernel_rfl) (by kernel_rfl)) ?_
  intro W base args ds gs before hval0 hW hcnd _
  have hval : ∀ (j : Nat) t v, Try.f9.params[j]? = some t → args[j]? = some v → Value.okWide Try.prog W .any base t v := hval0
  have hW' := hW
  obtain ⟨p, q, hA0, hV, rfl, hfz, hnd⟩ := hW
  have hA : DataW.TrodAll enc Try.prog W 0 (fun _ => true) true Try.f9.params.toList args.toList ds p := hA0
  rw [Try.params9] at hA hval
  obtain ⟨v0, v1, d0, d1, p0, p1, rfl, rfl, rfl, h0, h1⟩ := trodAll_two hA
  obtain ⟨rfl, rfl⟩ := trodVars_none hV
  obtain ⟨x0, hx0⟩ := open_Windows Try.underlying22 Try.underlying46 (by kernel_rfl) (by kernel_rfl) Try.underlying3 Try.underlying3 (hval 0 22 v0 rfl rfl) h0
  obtain ⟨x1, hx1⟩ := open_Windows Try.underlying22 Try.underlying46 (by kernel_rfl) (by kernel_rfl) Try.underlying3 Try.underlying3 (hval 1 22 v1 rfl rfl) h1
  refine (fnExactCommonWindows_walk W hx0 hx1).mono fun e W' ⟨he, hb⟩ => ?_
  subst he
  exact ⟨_, rfl, law_post laidOut_ (by kernel_rfl) rfl (by kernel_rfl) Try.underlying4 hW' rfl hb⟩

theorem fnExactCommonWindows_holds : Rows.FnExactCommonWindowsSaid :=
  OpenClaim.holds_of_wide 9 Try.f9 rfl rfl rfl rfl rfl rfl rfl ⟨rfl, rfl, rfl, rfl, rfl⟩ rfl rfl rfl rfl rfl (by kernel_rfl) Try.func9 (by kernel_rfl)
    (of_decide_eq_true (by kernel_rfl)) (by unfold Func.isWrapper; rw [if_neg (of_decide_eq_false (by kernel_rfl))]; exact ⟨rfl, rfl⟩)
    (fun os started H enc _ => fnExactCommonWindows_lifted os started H enc)
#print axioms fnExactCommonWindows_holds

end Go.Proofs.Ytfcdnaaecfhddaa
