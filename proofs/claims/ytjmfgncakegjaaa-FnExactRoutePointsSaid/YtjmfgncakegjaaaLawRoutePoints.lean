/-
  FnExactRoutePoints: for all arguments the program's RoutePoints and the reference's give one answer, and the arguments are left alone. No condition.
-/
import Derived.Test.YtjmfgncakegjaaaRouteP
import Derived.Test.YtjmfgncakegjaaaMarkC
import Derived.Test.YtjmfgncakegjaaaOpenC
import Derived.Test.YtjmfgncakegjaaaOpenI
namespace Go.Proofs.Ytjmfgncakegjaaa
open Go.ChangeShapes Go.WideShapes Go.ChangeAt Go.RowKit

set_option maxHeartbeats 4000000 in
theorem fnExactRoutePoints_walk {v0 v1 v2 : Value} {x0 : Chart} {f : Int} {rs : List Int} (w : World) (h0 : IsChart w v0 x0) (h1 : IsInt w v1 f) (h2 : IsInts w v2 rs) :
    Calls Try.prog 9 #[v0, v1, v2] w fun e w' => e = .returned (.bool true) ∧ Below w.heap.size w w' := by
  obtain ⟨A0, c0, A1, c1, rfl, ⟨hr0, hml0, hwf0⟩, ⟨hr1, hml1, hwf1⟩⟩ := h0
  obtain ⟨ps, ss⟩ := x0
  dsimp only at hr0 hml0 hwf0
  unfold maxLen at hml0
  dsimp only at hr1 hml1 hwf1
  unfold maxLen at hml1
  obtain ⟨rfl, _⟩ := h1
  obtain ⟨R, d, rfl, hq, hmq, _⟩ := h2
  unfold maxLen at hmq
  have hk0 := Blk.new w 25 #[.slice A0 ps.length c0, .slice A1 ss.length c1]
  have hB0 : Below w.heap.size w (w.alloc (.cells #[.slice A0 ps.length c0, .slice A1 ss.length c1] 25)) := (Below.refl _ _).alloc (Nat.le_refl _) _
  by_cases hbig : 1048576 < rs.length
  · go_enter Try.func9, Try.ntmps9
    go_wp2_with fail
    go_ret
    exact ⟨rfl, hB0⟩
  have hlq : rs.length ≤ 1048576 := by omega
  go_enter Try.func9, Try.ntmps9
  go_wp2_with fail
  refine (szChart_any _ _ _ _ _ _ _ (by omega) (by omega) (by omega) (by omega) _ ((hr0.below hB0).more hB0.size) hwf0).mono ?_
  rintro e w1 ⟨r0, rfl, hr01, hr02, hb1⟩
  have hB1 := hB0.trans (hb1.mono hB0.size)
  have hz1 := hb1.size
  have hk_1 := hk0.next hb1
  have hkl := hk_1.lt
  by_cases hneg0 : r0 < 0
  · go_wp2_with fail
    go_ret
    exact ⟨rfl, hB1⟩
  have hlen0 : ps.length ≤ 1048576 := by omega
  have hlen1 : ss.length ≤ 1048576 := by omega
  have c1_0 := hk_1.cell 0
  have c1_1 := hk_1.cell 1
  go_wp2_with fail
  refine (toChart_any _ _ _ _ _ _ _ ((hr0.below hB1).more hB1.size) ((hr1.below hB1).more hB1.size) hlen0 hlen1).mono ?_
  rintro e w2 ⟨As0, cs0, As1, cs1, rfl, hcaps, hs0, hs1, hb2⟩
  have hB2 := hB1.trans (hb2.mono hB1.size)
  have hz2 := hb2.size
  have hk_2 := hk_1.next hb2
  go_wp2_with fail
  refine (toIntS_any _ _ _ _ ((hq.below hB2).more hB2.size) hlq).mono ?_
  rintro e w3 ⟨rfl, hsq, hb3⟩
  have hB3 := hB2.trans (hb3.mono hB2.size)
  have hz3 := hb3.size
  have hk_3 := hk_2.next hb3
  have s0_3 := hs0.next hb3
  have s1_3 := hs1.next hb3
  have c3_0 := hk_3.cell 0
  have c3_1 := hk_3.cell 1
  have hrl : (routePts ps ss f rs).length ≤ 1048576 := by have := routePts_le ps ss f rs; omega
  go_wp2_with fail
  refine (specRoutePoints_any _ _ _ _ _ _ _ _ _ _ _ s0_3.rd s1_3.rd hsq.rd hwf0 hwf1 hlen0 hlen1 hlq hcaps).mono ?_
  rintro e w4 ⟨Aw, cw, rfl, hsw, hb4⟩
  have hB4 := hB3.trans (hb4.mono hB3.size)
  have hz4 := hb4.size
  have hk_4 := hk_3.next hb4
  have s0_4 := s0_3.next hb4
  have s1_4 := s1_3.next hb4
  have sq_4 := hsq.next hb4
  have c4_0 := hk_4.cell 0
  have c4_1 := hk_4.cell 1
  go_wp2_with fail
  refine (toChart_any _ _ _ _ _ _ _ ((hr0.below hB4).more hB4.size) ((hr1.below hB4).more hB4.size) hlen0 hlen1).mono ?_
  rintro e w5 ⟨Ax0, cx0, Ax1, cx1, rfl, hcapx, hx0, hx1, hb5⟩
  have hB5 := hB4.trans (hb5.mono hB4.size)
  have hz5 := hb5.size
  have hk_5 := hk_4.next hb5
  have fw_5 := hsw.next hb5
  obtain ⟨wb, hwb⟩ : ∃ wb, wb = w5.alloc (.cells #[.slice Ax0 ps.length cx0, .slice Ax1 ss.length cx1] 31) := ⟨_, rfl⟩
  have hbb : Below w5.heap.size w5 wb := by rw [hwb]; exact (Below.refl _ _).alloc (Nat.le_refl _) _
  have hbk : Blk wb w5.heap.size 31 #[.slice Ax0 ps.length cx0, .slice Ax1 ss.length cx1] := by rw [hwb]; exact Blk.new _ _ _
  have hBb := hB5.trans (hbb.mono hB5.size)
  have hzb := hbb.size
  have hk_b := hk_5.next hbb
  have fw_b := fw_5.next hbb
  have x0_b := hx0.next hbb
  have x1_b := hx1.next hbb
  have HWB := Lib.hid hwb
  clear hwb
  go_wp2_with fail
  rw [← HWB.out]
  refine (toIntS_any _ _ _ _ ((hq.below hBb).more hBb.size) hlq).mono ?_
  rintro e w6 ⟨rfl, hxq, hb6⟩
  have hB6 := hBb.trans (hb6.mono hBb.size)
  have hz6 := hb6.size
  have hk_6 := hk_b.next hb6
  have fw_6 := fw_b.next hb6
  have x0_6 := x0_b.next hb6
  have x1_6 := x1_b.next hb6
  have xb_6 := hbk.next hb6
  have hxqs := hxq.sl (Nat.le_refl _) (Nat.lt_succ_self _)
  have hxql := hxq.lt
  have y0 := xb_6.cell 0
  have y1 := xb_6.cell 1
  go_wp2_with fail
  refine (implRoutePoints_any _ _ _ _ _ _ _ _ _ _ _ x0_6.rd x1_6.rd hxqs.rd hwf0 hwf1 hlen0 hlen1 hlq hcapx).mono ?_
  rintro e w7 ⟨Ag, cg, rfl, hsg, hb7⟩
  have hB7 := hB6.trans (hb7.mono hB6.size)
  have hz7 := hb7.size
  have hk_7 := hk_6.next hb7
  have fw_7 := fw_6.next hb7
  have x0_7 := x0_6.next hb7
  have x1_7 := x1_6.next hb7
  have xb_7 := xb_6.next hb7
  have xq_7 := hxqs.next hb7
  go_wp2_with fail
  refine (eqIntS_same _ _ _ _ _ _ hsg.rd fw_7.rd hrl).mono ?_
  rintro e w8 ⟨rfl, hb8⟩
  have hB8 := hB7.trans (hb8.mono hB7.size)
  have hz8 := hb8.size
  have hk_8 := hk_7.next hb8
  have fw_8 := fw_7.next hb8
  have x0_8 := x0_7.next hb8
  have x1_8 := x1_7.next hb8
  have xb_8 := xb_7.next hb8
  have xq_8 := xq_7.next hb8
  have fg_8 := hsg.next hb8
  have c8_0 := hk_8.cell 0
  have c8_1 := hk_8.cell 1
  have e0 := xb_8.cell 0
  have e1 := xb_8.cell 1
  have hla : w.heap.size < w8.heap.size := hk_8.lt
  have hlx : w5.heap.size < w8.heap.size := xb_8.lt
  have hxd0 : Sl w8.drew _ _ _ _ _ _ _ := x0_8
  have hrd0 : Rd w8.drew w8.drew.heap.size Point.at_ 2 A0 ps := ((hr0.below hB8).more hB8.size)
  have hxd1 : Sl w8.drew _ _ _ _ _ _ _ := x1_8
  have hrd1 : Rd w8.drew w8.drew.heap.size Segment.at_ 5 A1 ss := ((hr1.below hB8).more hB8.size)
  go_wp2_with fail
  go_region_held3 (fun w' => w'.cell? ⟨w5.heap.size, 0, none⟩ = some (.slice Ax0 ps.length cx0) ∧ w'.cell? ⟨w5.heap.size, 1, none⟩ = some (.slice Ax1 ss.length cx1) ∧ w'.cell? ⟨w.heap.size, 0, none⟩ = some (.slice A0 ps.length c0) ∧ w'.cell? ⟨w.heap.size, 1, none⟩ = some (.slice A1 ss.length c1)) (go_keep)
    (first
      | (go_at_call 15; refine (toChart_any _ _ _ _ _ _ _ hrd0 hrd1 hlen0 hlen1).mono ?_; rintro e w9 ⟨Ay0, cy0, Ay1, cy1, rfl, hcapy, hy0, hy1, hb9⟩; have hcc9 : ∀ b o, b < w8.heap.size → w9.cell? ⟨b, o, none⟩ = w8.cell? ⟨b, o, none⟩ := (bcell hb9).1; have hlA9 : w.heap.size < w9.heap.size := Nat.lt_of_lt_of_le hla hb9.size; have hlB9 : w5.heap.size < w9.heap.size := Nat.lt_of_lt_of_le hlx hb9.size)
      | (go_at_call 17; refine (eqChart_same _ _ _ _ _ _ _ _ _ _ _ ?_ ?_ ?_ ?_ hlen0 hlen1).mono ?_; exact (hxd0.next hb9).rd; exact (hxd1.next hb9).rd; exact hy0.rd; exact hy1.rd; rintro e w10 ⟨rfl, hb10⟩; have hcc10 : ∀ b o, b < w9.heap.size → w10.cell? ⟨b, o, none⟩ = w9.cell? ⟨b, o, none⟩ := (bcell hb10).1))
  have hB9 := hB8.drew.trans (hb9.mono hB8.drew.size)
  have hB10 := hB9.trans (hb10.mono hB9.size)
  have hk_d : Blk w8.drew _ _ _ := hk_8
  have hk_10 := (hk_d.next hb9).next hb10
  have fw_d : Sl w8.drew _ _ _ _ _ _ _ := fw_8
  have fw_10 := (fw_d.next hb9).next hb10
  have x0_d : Sl w8.drew _ _ _ _ _ _ _ := x0_8
  have x0_10 := (x0_d.next hb9).next hb10
  have x1_d : Sl w8.drew _ _ _ _ _ _ _ := x1_8
  have x1_10 := (x1_d.next hb9).next hb10
  have xb_d : Blk w8.drew _ _ _ := xb_8
  have xb_10 := (xb_d.next hb9).next hb10
  have xq_d : Sl w8.drew _ _ _ _ _ _ _ := xq_8
  have xq_10 := (xq_d.next hb9).next hb10
  have fg_d : Sl w8.drew _ _ _ _ _ _ _ := fg_8
  have fg_10 := (fg_d.next hb9).next hb10
  have hz9 := hb9.size
  have hz10 := hb10.size
  have hzd : w8.drew.heap.size = w8.heap.size := rfl
  go_wp2_with fail
  refine (toIntS_any _ _ _ _ ((hq.below hB10).more hB10.size) hlq).mono ?_
  rintro e w11 ⟨rfl, hyq, hb11⟩
  have hB11 := hB10.trans (hb11.mono hB10.size)
  have hz11 := hb11.size
  have hk_11 := hk_10.next hb11
  have fw_11 := fw_10.next hb11
  have x0_11 := x0_10.next hb11
  have x1_11 := x1_10.next hb11
  have xb_11 := xb_10.next hb11
  have xq_11 := xq_10.next hb11
  have fg_11 := fg_10.next hb11
  go_wp2_with fail
  refine (eqIntS_same _ _ _ _ _ _ xq_11.rd hyq.rd hlq).mono ?_
  rintro e w12 ⟨rfl, hb12⟩
  have hB12 := hB11.trans (hb12.mono hB11.size)
  have hz12 := hb12.size
  have hk_12 := hk_11.next hb12
  have fw_12 := fw_11.next hb12
  have x0_12 := x0_11.next hb12
  have x1_12 := x1_11.next hb12
  have xb_12 := xb_11.next hb12
  have xq_12 := xq_11.next hb12
  have fg_12 := fg_11.next hb12
  have m12_0 := xb_12.cell 0
  have m12_1 := xb_12.cell 1
  go_wp2_with fail
  refine (markChart_weak _ _ _ _ _ _ _ _ _ x0_12 x1_12 hlen0 hlen1).mono ?_
  rintro e w13 ⟨rm, rfl, hrm0, hrm1, hb13⟩
  have hB13 := hB12.trans (hb13.below hB4.size hB12.size)
  have hz13 := hb13.size
  have hk_13 := hk_12.out hb13 (.inl (by omega))
  have fw_13 := fw_12.out hb13 (.inl (by omega))
  have xq_13 := xq_12.out hb13 (.inr (by omega))
  have fg_13 := fg_12.out hb13 (.inr (by omega))
  go_wp2_with fail
  refine (markIntS_any _ _ _ _ _ _ _ xq_13 hlq (by omega) (by omega)).mono ?_
  rintro e w14 ⟨rfl, hqm, hb14⟩
  have hB14 := hB13.trans (hb14.below hBb.size hB13.size)
  have hz14 := hb14.size
  have hk_14 := hk_13.out hb14 (.inl (by omega))
  have fw_14 := fw_13.out hb14 (.inl (by omega))
  have fg_14 := fg_13.out hb14 (.inr (by omega))
  go_wp2_with fail
  refine (eqIntS_same _ _ _ _ _ _ fg_14.rd fw_14.rd hrl).mono ?_
  rintro e w15 ⟨rfl, hb15⟩
  have hB15 := hB14.trans (hb15.mono hB14.size)
  have hz15 := hb15.size
  have hk_15 := hk_14.next hb15
  have fw_15 := fw_14.next hb15
  have fg_15 := fg_14.next hb15
  go_wp2_with fail
  refine (markIntS_any _ _ _ _ _ _ _ fg_15 hrl (by omega) (by omega)).mono ?_
  rintro e w16 ⟨rfl, hgm, hb16⟩
  have hB16 := hB15.trans (hb16.below hB6.size hB15.size)
  have hz16 := hb16.size
  have hk_16 := hk_15.out hb16 (.inl (by omega))
  have fw_16 := fw_15.out hb16 (.inl (by omega))
  go_wp2_with fail
  refine (heldIntS_any _ _ _ _ _ hgm.rd hrl (by omega) (by omega)).mono ?_
  rintro e w' ⟨rfl, rfl⟩
  have c16_0 := hk_16.cell 0
  have c16_1 := hk_16.cell 1
  go_wp2_with fail
  refine (toChart_any _ _ _ _ _ _ _ ((hr0.below hB16).more hB16.size) ((hr1.below hB16).more hB16.size) hlen0 hlen1).mono ?_
  rintro e w17 ⟨Az0, cz0, Az1, cz1, rfl, hcapz, hz0, hz1, hb17⟩
  have hB17 := hB16.trans (hb17.mono hB16.size)
  have hz17 := hb17.size
  have hk_17 := hk_16.next hb17
  have fw_17 := fw_16.next hb17
  have fm_17 := hgm.next hb17
  go_wp2_with fail
  refine (toIntS_any _ _ _ _ ((hq.below hB17).more hB17.size) hlq).mono ?_
  rintro e w18 ⟨rfl, hzq, hb18⟩
  have hB18 := hB17.trans (hb18.mono hB17.size)
  have hz18 := hb18.size
  have hk_18 := hk_17.next hb18
  have fw_18 := fw_17.next hb18
  have fm_18 := fm_17.next hb18
  have z0_18 := hz0.next hb18
  have z1_18 := hz1.next hb18
  have c18_0 := hk_18.cell 0
  have c18_1 := hk_18.cell 1
  go_wp2_with fail
  refine (implRoutePoints_any _ _ _ _ _ _ _ _ _ _ _ z0_18.rd z1_18.rd hzq.rd hwf0 hwf1 hlen0 hlen1 hlq hcapz).mono ?_
  rintro e w19 ⟨Ah, ch, rfl, hsh, hb19⟩
  have hB19 := hB18.trans (hb19.mono hB18.size)
  have hz19 := hb19.size
  have hk_19 := hk_18.next hb19
  have fw_19 := fw_18.next hb19
  have fm_19 := fm_18.next hb19
  have z0_19 := z0_18.next hb19
  have z1_19 := z1_18.next hb19
  have zq_19 := hzq.next hb19
  go_wp2_with fail
  refine (eqIntS_same _ _ _ _ _ _ hsh.rd fw_19.rd hrl).mono ?_
  rintro e w20 ⟨rfl, hb20⟩
  have hB20 := hB19.trans (hb20.mono hB19.size)
  have hz20 := hb20.size
  have hk_20 := hk_19.next hb20
  have fw_20 := fw_19.next hb20
  have fm_20 := fm_19.next hb20
  have z0_20 := z0_19.next hb20
  have z1_20 := z1_19.next hb20
  have zq_20 := zq_19.next hb20
  have fh_20 := hsh.next hb20
  go_wp2_with fail
  refine (heldIntS_any _ _ _ _ _ fm_20.rd hrl (by omega) (by omega)).mono ?_
  rintro e w' ⟨rfl, rfl⟩
  go_wp2_with fail
  go_ret
  exact ⟨rfl, hB20⟩

set_option maxRecDepth 100000 in
theorem fnExactRoutePoints_lifted (os : Os) (started : os.Started) (H : Type) (enc : TypeId × Value → H) :
    ReturnsInHanded {} Try.checked os 9 .any (Rows.fnExactRoutePointsSpec.pre6 enc Try.prog Try.f9 Rows.fnExactRoutePointsRow.domain false) (Rows.fnExactRoutePointsSpec.post enc Try.prog Try.f9 false true false false) := by
  refine returnsInHanded_of_change (C := Try.checked) own_ started (by kernel_rfl) Try.func9
    (ChangeSpec.witness6 (enc := enc) (C := Try.checked) false ⟨#[], #[.agg #[.slice none 0 0, .slice none 0 0], .int .i64 0, .slice none 0 0], []⟩ 8 (by kernel_rfl) (by kernel_rfl) (by kernel_rfl) (by kernel_rfl)) ?_
  intro W base args ds gs before hval0 hW hcnd _
  have hval : ∀ (j : Nat) t v, Try.f9.params[j]? = some t → args[j]? = some v → Value.okWide Try.prog W .any base t v := hval0
  have hW' := hW
  obtain ⟨p, q, hA0, hV, rfl, hfz, hnd⟩ := hW
  have hA : DataW.TrodAll enc Try.prog W 0 (fun _ => true) true Try.f9.params.toList args.toList ds p := hA0
  rw [Try.params9] at hA hval
  obtain ⟨v0, v1, v2, d0, d1, d2, p0, p1, p2, rfl, rfl, rfl, h0, h1, h2⟩ := trodAll_three hA
  obtain ⟨rfl, rfl⟩ := trodVars_none hV
  obtain ⟨x0, hx0⟩ := open_Chart Try.underlying25 (by kernel_rfl) (by kernel_rfl) rfl rfl Try.underlying22 Try.underlying88 (by kernel_rfl) (by kernel_rfl) Try.underlying9 Try.underlying4 Try.underlying23 Try.underlying91 (by kernel_rfl) (by kernel_rfl) Try.underlying3 Try.underlying3 Try.underlying3 Try.underlying3 Try.underlying4 (hval 0 25 v0 rfl rfl) h0
  obtain ⟨x1, hx1⟩ := open_Int Try.underlying3 (hval 1 3 v1 rfl rfl) h1
  obtain ⟨x2, hx2⟩ := open_Ints Try.underlying39 Try.underlying3 (by kernel_rfl) (hval 2 39 v2 rfl rfl) h2
  refine (fnExactRoutePoints_walk W hx0 hx1 hx2).mono fun e W' ⟨he, hb⟩ => ?_
  subst he
  exact ⟨_, rfl, law_post laidOut_ (by kernel_rfl) rfl (by kernel_rfl) Try.underlying4 hW' rfl hb⟩

theorem fnExactRoutePoints_holds : Rows.FnExactRoutePointsSaid :=
  OpenClaim.holds_of_wide 9 Try.f9 rfl rfl rfl rfl rfl rfl rfl ⟨rfl, rfl, rfl, rfl, rfl⟩ rfl rfl rfl rfl rfl (by kernel_rfl) Try.func9 (by kernel_rfl)
    (of_decide_eq_true (by kernel_rfl)) (by unfold Func.isWrapper; rw [if_neg (of_decide_eq_false (by kernel_rfl))]; exact ⟨rfl, rfl⟩)
    (fun os started H enc _ => fnExactRoutePoints_lifted os started H enc)
#print axioms fnExactRoutePoints_holds

end Go.Proofs.Ytjmfgncakegjaaa
