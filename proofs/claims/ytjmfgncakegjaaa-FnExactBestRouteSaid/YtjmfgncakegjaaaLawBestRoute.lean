/-
  FnExactBestRoute: for all arguments the program's BestRoute and the reference's give one answer, and the arguments are left alone. No condition.
-/
import Derived.Test.YtjmfgncakegjaaaBestI
import Derived.Test.YtjmfgncakegjaaaBestS
import Derived.Test.YtjmfgncakegjaaaMarkC
import Derived.Test.YtjmfgncakegjaaaOpenC
import Derived.Test.YtjmfgncakegjaaaOpenI
namespace Go.Proofs.Ytjmfgncakegjaaa
open Go.ChangeShapes Go.WideShapes Go.ChangeAt Go.RowKit

set_option maxHeartbeats 4000000 in
theorem fnExactBestRoute_walk {v0 v1 v2 : Value} {x0 : Chart} {a : Int} {b : Int} (w : World) (h0 : IsChart w v0 x0) (h1 : IsInt w v1 a) (h2 : IsInt w v2 b) :
    Calls Try.prog 11 #[v0, v1, v2] w fun e w' => e = .returned (.bool true) ∧ Below w.heap.size w w' := by
  obtain ⟨A0, c0, A1, c1, rfl, ⟨hr0, hml0, hwf0⟩, ⟨hr1, hml1, hwf1⟩⟩ := h0
  obtain ⟨ps, ss⟩ := x0
  dsimp only at hr0 hml0 hwf0
  unfold maxLen at hml0
  dsimp only at hr1 hml1 hwf1
  unfold maxLen at hml1
  obtain ⟨rfl, _⟩ := h1
  obtain ⟨rfl, _⟩ := h2
  have hk0 := Blk.new w 25 #[.slice A0 ps.length c0, .slice A1 ss.length c1]
  have hB0 : Below w.heap.size w (w.alloc (.cells #[.slice A0 ps.length c0, .slice A1 ss.length c1] 25)) := (Below.refl _ _).alloc (Nat.le_refl _) _
  go_enter Try.func11, Try.ntmps11
  go_wp2_with fail
  refine (szChart_any _ _ _ _ _ _ _ (by omega) (by omega) (by omega) (by omega) _ ((hr0.below hB0).more hB0.size) hwf0).mono ?_
  rintro e w1 ⟨r0, rfl, hr01, hr02, hb1⟩
  have hB1 := hB0.trans (hb1.mono hB0.size)
  have hz1 := hb1.size
  have hk_1 := hk0.next hb1
  have hkl := hk_1.lt
  by_cases hneg0 : r0 < 0
  · go_wp2_with fail
    go_ret
    exact ⟨rfl, hB1⟩
  have hlen0 : ps.length ≤ 1048576 := by omega
  have hlen1 : ss.length ≤ 1048576 := by omega
  have c1_0 := hk_1.cell 0
  have c1_1 := hk_1.cell 1
  go_wp2_with fail
  refine (toChart_any _ _ _ _ _ _ _ ((hr0.below hB1).more hB1.size) ((hr1.below hB1).more hB1.size) hlen0 hlen1).mono ?_
  rintro e w2 ⟨As0, cs0, As1, cs1, rfl, hcaps, hs0, hs1, hb2⟩
  have hB2 := hB1.trans (hb2.mono hB1.size)
  have hz2 := hb2.size
  have hk_2 := hk_1.next hb2
  have c2_0 := hk_2.cell 0
  have c2_1 := hk_2.cell 1
  have hrl : (listOf (bestF (minsF ps ss) (routesB ps ss a b))).length ≤ 1048576 := by have := bestL_le ps ss a b; omega
  go_wp2_with fail
  refine (specBestRoute_any _ _ _ _ _ _ _ _ _ hs0.rd hs1.rd hwf0 hwf1 hlen0 hlen1 hcaps).mono ?_
  rintro e w3 ⟨Aw, cw, rfl, hsw, hb3⟩
  have hB3 := hB2.trans (hb3.mono hB2.size)
  have hz3 := hb3.size
  have hk_3 := hk_2.next hb3
  have s0_3 := hs0.next hb3
  have s1_3 := hs1.next hb3
  have c3_0 := hk_3.cell 0
  have c3_1 := hk_3.cell 1
  go_wp2_with fail
  refine (toChart_any _ _ _ _ _ _ _ ((hr0.below hB3).more hB3.size) ((hr1.below hB3).more hB3.size) hlen0 hlen1).mono ?_
  rintro e w4 ⟨Ax0, cx0, Ax1, cx1, rfl, hcapx, hx0, hx1, hb4⟩
  have hB4 := hB3.trans (hb4.mono hB3.size)
  have hz4 := hb4.size
  have hk_4 := hk_3.next hb4
  have fw_4 := hsw.next hb4
  obtain ⟨wb, hwb⟩ : ∃ wb, wb = w4.alloc (.cells #[.slice Ax0 ps.length cx0, .slice Ax1 ss.length cx1] 31) := ⟨_, rfl⟩
  have hbb : Below w4.heap.size w4 wb := by rw [hwb]; exact (Below.refl _ _).alloc (Nat.le_refl _) _
  have hbk : Blk wb w4.heap.size 31 #[.slice Ax0 ps.length cx0, .slice Ax1 ss.length cx1] := by rw [hwb]; exact Blk.new _ _ _
  have hBb := hB4.trans (hbb.mono hB4.size)
  have hzb := hbb.size
  have hk_b := hk_4.next hbb
  have fw_b := fw_4.next hbb
  have x0_b := hx0.next hbb
  have x1_b := hx1.next hbb
  have HWB := Lib.hid hwb
  clear hwb
  go_wp2_with fail
  rw [← HWB.out]
  refine (implBestRoute_any _ _ _ _ _ _ _ _ _ x0_b.rd x1_b.rd hwf0 hwf1 hlen0 hlen1 hcapx).mono ?_
  rintro e w5 ⟨Ag, cg, rfl, hsg, hb5⟩
  have hB5 := hBb.trans (hb5.mono hBb.size)
  have hz5 := hb5.size
  have hk_5 := hk_b.next hb5
  have fw_5 := fw_b.next hb5
  have x0_5 := x0_b.next hb5
  have x1_5 := x1_b.next hb5
  have xb_5 := hbk.next hb5
  go_wp2_with fail
  refine (eqIntS_same _ _ _ _ _ _ hsg.rd fw_5.rd hrl).mono ?_
  rintro e w6 ⟨rfl, hb6⟩
  have hB6 := hB5.trans (hb6.mono hB5.size)
  have hz6 := hb6.size
  have hk_6 := hk_5.next hb6
  have fw_6 := fw_5.next hb6
  have x0_6 := x0_5.next hb6
  have x1_6 := x1_5.next hb6
  have xb_6 := xb_5.next hb6
  have fg_6 := hsg.next hb6
  have c6_0 := hk_6.cell 0
  have c6_1 := hk_6.cell 1
  have e0 := xb_6.cell 0
  have e1 := xb_6.cell 1
  have hla : w.heap.size < w6.heap.size := hk_6.lt
  have hlx : w4.heap.size < w6.heap.size := xb_6.lt
  have hxd0 : Sl w6.drew _ _ _ _ _ _ _ := x0_6
  have hrd0 : Rd w6.drew w6.drew.heap.size Point.at_ 2 A0 ps := ((hr0.below hB6).more hB6.size)
  have hxd1 : Sl w6.drew _ _ _ _ _ _ _ := x1_6
  have hrd1 : Rd w6.drew w6.drew.heap.size Segment.at_ 5 A1 ss := ((hr1.below hB6).more hB6.size)
  go_wp2_with fail
  go_region_held3 (fun w' => w'.cell? ⟨w4.heap.size, 0, none⟩ = some (.slice Ax0 ps.length cx0) ∧ w'.cell? ⟨w4.heap.size, 1, none⟩ = some (.slice Ax1 ss.length cx1) ∧ w'.cell? ⟨w.heap.size, 0, none⟩ = some (.slice A0 ps.length c0) ∧ w'.cell? ⟨w.heap.size, 1, none⟩ = some (.slice A1 ss.length c1)) (go_keep)
    (first
      | (go_at_call 15; refine (toChart_any _ _ _ _ _ _ _ hrd0 hrd1 hlen0 hlen1).mono ?_; rintro e w7 ⟨Ay0, cy0, Ay1, cy1, rfl, hcapy, hy0, hy1, hb7⟩; have hcc7 : ∀ b o, b < w6.heap.size → w7.cell? ⟨b, o, none⟩ = w6.cell? ⟨b, o, none⟩ := (bcell hb7).1; have hlA7 : w.heap.size < w7.heap.size := Nat.lt_of_lt_of_le hla hb7.size; have hlB7 : w4.heap.size < w7.heap.size := Nat.lt_of_lt_of_le hlx hb7.size)
      | (go_at_call 17; refine (eqChart_same _ _ _ _ _ _ _ _ _ _ _ ?_ ?_ ?_ ?_ hlen0 hlen1).mono ?_; exact (hxd0.next hb7).rd; exact (hxd1.next hb7).rd; exact hy0.rd; exact hy1.rd; rintro e w8 ⟨rfl, hb8⟩; have hcc8 : ∀ b o, b < w7.heap.size → w8.cell? ⟨b, o, none⟩ = w7.cell? ⟨b, o, none⟩ := (bcell hb8).1))
  have hB7 := hB6.drew.trans (hb7.mono hB6.drew.size)
  have hB8 := hB7.trans (hb8.mono hB7.size)
  have hk_d : Blk w6.drew _ _ _ := hk_6
  have hk_8 := (hk_d.next hb7).next hb8
  have fw_d : Sl w6.drew _ _ _ _ _ _ _ := fw_6
  have fw_8 := (fw_d.next hb7).next hb8
  have x0_d : Sl w6.drew _ _ _ _ _ _ _ := x0_6
  have x0_8 := (x0_d.next hb7).next hb8
  have x1_d : Sl w6.drew _ _ _ _ _ _ _ := x1_6
  have x1_8 := (x1_d.next hb7).next hb8
  have xb_d : Blk w6.drew _ _ _ := xb_6
  have xb_8 := (xb_d.next hb7).next hb8
  have fg_d : Sl w6.drew _ _ _ _ _ _ _ := fg_6
  have fg_8 := (fg_d.next hb7).next hb8
  have hz7 := hb7.size
  have hz8 := hb8.size
  have hzd : w6.drew.heap.size = w6.heap.size := rfl
  have m8_0 := xb_8.cell 0
  have m8_1 := xb_8.cell 1
  go_wp2_with fail
  refine (markChart_weak _ _ _ _ _ _ _ _ _ x0_8 x1_8 hlen0 hlen1).mono ?_
  rintro e w9 ⟨rm, rfl, hrm0, hrm1, hb9⟩
  have hB9 := hB8.trans (hb9.below hB3.size hB8.size)
  have hz9 := hb9.size
  have hk_9 := hk_8.out hb9 (.inl (by omega))
  have fw_9 := fw_8.out hb9 (.inl (by omega))
  have fg_9 := fg_8.out hb9 (.inr (by omega))
  go_wp2_with fail
  refine (eqIntS_same _ _ _ _ _ _ fg_9.rd fw_9.rd hrl).mono ?_
  rintro e w10 ⟨rfl, hb10⟩
  have hB10 := hB9.trans (hb10.mono hB9.size)
  have hz10 := hb10.size
  have hk_10 := hk_9.next hb10
  have fw_10 := fw_9.next hb10
  have fg_10 := fg_9.next hb10
  go_wp2_with fail
  refine (markIntS_any _ _ _ _ _ _ _ fg_10 hrl (by omega) (by omega)).mono ?_
  rintro e w11 ⟨rfl, hgm, hb11⟩
  have hB11 := hB10.trans (hb11.below hBb.size hB10.size)
  have hz11 := hb11.size
  have hk_11 := hk_10.out hb11 (.inl (by omega))
  have fw_11 := fw_10.out hb11 (.inl (by omega))
  go_wp2_with fail
  refine (heldIntS_any _ _ _ _ _ hgm.rd hrl (by omega) (by omega)).mono ?_
  rintro e w' ⟨rfl, rfl⟩
  have c11_0 := hk_11.cell 0
  have c11_1 := hk_11.cell 1
  go_wp2_with fail
  refine (toChart_any _ _ _ _ _ _ _ ((hr0.below hB11).more hB11.size) ((hr1.below hB11).more hB11.size) hlen0 hlen1).mono ?_
  rintro e w12 ⟨Az0, cz0, Az1, cz1, rfl, hcapz, hz0, hz1, hb12⟩
  have hB12 := hB11.trans (hb12.mono hB11.size)
  have hz12 := hb12.size
  have hk_12 := hk_11.next hb12
  have fw_12 := fw_11.next hb12
  have fm_12 := hgm.next hb12
  have c12_0 := hk_12.cell 0
  have c12_1 := hk_12.cell 1
  go_wp2_with fail
  refine (implBestRoute_any _ _ _ _ _ _ _ _ _ hz0.rd hz1.rd hwf0 hwf1 hlen0 hlen1 hcapz).mono ?_
  rintro e w13 ⟨Ah, ch, rfl, hsh, hb13⟩
  have hB13 := hB12.trans (hb13.mono hB12.size)
  have hz13 := hb13.size
  have hk_13 := hk_12.next hb13
  have fw_13 := fw_12.next hb13
  have fm_13 := fm_12.next hb13
  have z0_13 := hz0.next hb13
  have z1_13 := hz1.next hb13
  go_wp2_with fail
  refine (eqIntS_same _ _ _ _ _ _ hsh.rd fw_13.rd hrl).mono ?_
  rintro e w14 ⟨rfl, hb14⟩
  have hB14 := hB13.trans (hb14.mono hB13.size)
  have hz14 := hb14.size
  have hk_14 := hk_13.next hb14
  have fw_14 := fw_13.next hb14
  have fm_14 := fm_13.next hb14
  have z0_14 := z0_13.next hb14
  have z1_14 := z1_13.next hb14
  have fh_14 := hsh.next hb14
  go_wp2_with fail
  refine (heldIntS_any _ _ _ _ _ fm_14.rd hrl (by omega) (by omega)).mono ?_
  rintro e w' ⟨rfl, rfl⟩
  go_wp2_with fail
  go_ret
  exact ⟨rfl, hB14⟩

set_option maxRecDepth 100000 in
theorem fnExactBestRoute_lifted (os : Os) (started : os.Started) (H : Type) (enc : TypeId × Value → H) :
    ReturnsInHanded {} Try.checked os 11 .any (Rows.fnExactBestRouteSpec.pre6 enc Try.prog Try.f11 Rows.fnExactBestRouteRow.domain false) (Rows.fnExactBestRouteSpec.post enc Try.prog Try.f11 false true false false) := by
  refine returnsInHanded_of_change (C := Try.checked) own_ started (by kernel_rfl) Try.func11
    (ChangeSpec.witness6 (enc := enc) (C := Try.checked) false ⟨#[], #[.agg #[.slice none 0 0, .slice none 0 0], .int .i64 0, .int .i64 0], []⟩ 8 (by kernel_rfl) (by kernel_rfl) (by kernel_rfl) (by kernel_rfl)) ?_
  intro W base args ds gs before hval0 hW hcnd _
  have hval : ∀ (j : Nat) t v, Try.f11.params[j]? = some t → args[j]? = some v → Value.okWide Try.prog W .any base t v := hval0
  have hW' := hW
  obtain ⟨p, q, hA0, hV, rfl, hfz, hnd⟩ := hW
  have hA : DataW.TrodAll enc Try.prog W 0 (fun _ => true) true Try.f11.params.toList args.toList ds p := hA0
  rw [Try.params11] at hA hval
  obtain ⟨v0, v1, v2, d0, d1, d2, p0, p1, p2, rfl, rfl, rfl, h0, h1, h2⟩ := trodAll_three hA
  obtain ⟨rfl, rfl⟩ := trodVars_none hV
  obtain ⟨x0, hx0⟩ := open_Chart Try.underlying25 (by kernel_rfl) (by kernel_rfl) rfl rfl Try.underlying22 Try.underlying88 (by kernel_rfl) (by kernel_rfl) Try.underlying9 Try.underlying4 Try.underlying23 Try.underlying91 (by kernel_rfl) (by kernel_rfl) Try.underlying3 Try.underlying3 Try.underlying3 Try.underlying3 Try.underlying4 (hval 0 25 v0 rfl rfl) h0
  obtain ⟨x1, hx1⟩ := open_Int Try.underlying3 (hval 1 3 v1 rfl rfl) h1
  obtain ⟨x2, hx2⟩ := open_Int Try.underlying3 (hval 2 3 v2 rfl rfl) h2
  refine (fnExactBestRoute_walk W hx0 hx1 hx2).mono fun e W' ⟨he, hb⟩ => ?_
  subst he
  exact ⟨_, rfl, law_post laidOut_ (by kernel_rfl) rfl (by kernel_rfl) Try.underlying4 hW' rfl hb⟩

theorem fnExactBestRoute_holds : Rows.FnExactBestRouteSaid :=
  OpenClaim.holds_of_wide 11 Try.f11 rfl rfl rfl rfl rfl rfl rfl ⟨rfl, rfl, rfl, rfl, rfl⟩ rfl rfl rfl rfl rfl (by kernel_rfl) Try.func11 (by kernel_rfl)
    (of_decide_eq_true (by kernel_rfl)) (by unfold Func.isWrapper; rw [if_neg (of_decide_eq_false (by kernel_rfl))]; exact ⟨rfl, rfl⟩)
    (fun os started H enc _ => fnExactBestRoute_lifted os started H enc)
#print axioms fnExactBestRoute_holds

end Go.Proofs.Ytjmfgncakegjaaa
