/-
  FnExactRouteOk: for all arguments the program's RouteOk and the reference's give one answer, and the arguments are left alone. No condition.
-/
import Derived.Test.YtjmfgncakegjaaaRouteO
import Derived.Test.YtjmfgncakegjaaaOpenC
import Derived.Test.YtjmfgncakegjaaaOpenI
namespace Go.Proofs.Ytjmfgncakegjaaa
open Go.ChangeShapes Go.WideShapes Go.ChangeAt Go.RowKit

set_option maxHeartbeats 4000000 in
theorem fnExactRouteOk_walk {v0 v1 v2 : Value} {x0 : Chart} {f : Int} {rs : List Int} (w : World) (h0 : IsChart w v0 x0) (h1 : IsInt w v1 f) (h2 : IsInts w v2 rs) :
    Calls Try.prog 8 #[v0, v1, v2] w fun e w' => e = .returned (.bool true) ∧ Below w.heap.size w w' := by
  obtain ⟨A0, c0, A1, c1, rfl, ⟨hr0, hml0, hwf0⟩, ⟨hr1, hml1, hwf1⟩⟩ := h0
  obtain ⟨ps, ss⟩ := x0
  dsimp only at hr0 hml0 hwf0
  unfold maxLen at hml0
  dsimp only at hr1 hml1 hwf1
  unfold maxLen at hml1
  obtain ⟨rfl, _⟩ := h1
  obtain ⟨R, d, rfl, hq, hmq, _⟩ := h2
  unfold maxLen at hmq
  have hk0 := Blk.new w 25 #[.slice A0 ps.length c0, .slice A1 ss.length c1]
  have hB0 : Below w.heap.size w (w.alloc (.cells #[.slice A0 ps.length c0, .slice A1 ss.length c1] 25)) := (Below.refl _ _).alloc (Nat.le_refl _) _
  by_cases hbig : 1048576 < rs.length
  · go_enter Try.func8, Try.ntmps8
    go_wp2_with fail
    go_ret
    exact ⟨rfl, hB0⟩
  have hlq : rs.length ≤ 1048576 := by omega
  go_enter Try.func8, Try.ntmps8
  go_wp2_with fail
  refine (szChart_any _ _ _ _ _ _ _ (by omega) (by omega) (by omega) (by omega) _ ((hr0.below hB0).more hB0.size) hwf0).mono ?_
  rintro e w1 ⟨r0, rfl, hr01, hr02, hb1⟩
  have hB1 := hB0.trans (hb1.mono hB0.size)
  have hz1 := hb1.size
  have hk_1 := hk0.next hb1
  by_cases hneg0 : r0 < 0
  · go_wp2_with fail
    go_ret
    exact ⟨rfl, hB1⟩
  have hlen0 : ps.length ≤ 1048576 := by omega
  have hlen1 : ss.length ≤ 1048576 := by omega
  have c1_0 := hk_1.cell 0
  have c1_1 := hk_1.cell 1
  go_wp2_with fail
  refine (toChart_any _ _ _ _ _ _ _ ((hr0.below hB1).more hB1.size) ((hr1.below hB1).more hB1.size) hlen0 hlen1).mono ?_
  rintro e w2 ⟨As0, cs0, As1, cs1, rfl, hcaps, hs0, hs1, hb2⟩
  have hB2 := hB1.trans (hb2.mono hB1.size)
  have hz2 := hb2.size
  have hk_2 := hk_1.next hb2
  go_wp2_with fail
  refine (toIntS_any _ _ _ _ ((hq.below hB2).more hB2.size) hlq).mono ?_
  rintro e w3 ⟨rfl, hsq, hb3⟩
  have hB3 := hB2.trans (hb3.mono hB2.size)
  have hz3 := hb3.size
  have hk_3 := hk_2.next hb3
  have s0_3 := hs0.next hb3
  have s1_3 := hs1.next hb3
  have c3_0 := hk_3.cell 0
  have c3_1 := hk_3.cell 1
  go_wp2_with fail
  refine (specRouteOk_any _ _ _ _ _ _ _ _ _ _ _ s0_3.rd s1_3.rd hsq.rd hwf0 hwf1 hlen0 hlen1 hlq hcaps).mono ?_
  rintro e w4 ⟨rfl, hb4⟩
  have hB4 := hB3.trans (hb4.mono hB3.size)
  have hz4 := hb4.size
  have hk_4 := hk_3.next hb4
  have s0_4 := s0_3.next hb4
  have s1_4 := s1_3.next hb4
  have sq_4 := hsq.next hb4
  have c4_0 := hk_4.cell 0
  have c4_1 := hk_4.cell 1
  go_wp2_with fail
  refine (toChart_any _ _ _ _ _ _ _ ((hr0.below hB4).more hB4.size) ((hr1.below hB4).more hB4.size) hlen0 hlen1).mono ?_
  rintro e w5 ⟨Ax0, cx0, Ax1, cx1, rfl, hcapx, hx0, hx1, hb5⟩
  have hB5 := hB4.trans (hb5.mono hB4.size)
  have hz5 := hb5.size
  have hk_5 := hk_4.next hb5
  obtain ⟨wb, hwb⟩ : ∃ wb, wb = w5.alloc (.cells #[.slice Ax0 ps.length cx0, .slice Ax1 ss.length cx1] 31) := ⟨_, rfl⟩
  have hbb : Below w5.heap.size w5 wb := by rw [hwb]; exact (Below.refl _ _).alloc (Nat.le_refl _) _
  have hbk : Blk wb w5.heap.size 31 #[.slice Ax0 ps.length cx0, .slice Ax1 ss.length cx1] := by rw [hwb]; exact Blk.new _ _ _
  have hBb := hB5.trans (hbb.mono hB5.size)
  have hzb := hbb.size
  have hk_b := hk_5.next hbb
  have x0_b := hx0.next hbb
  have x1_b := hx1.next hbb
  have HWB := Lib.hid hwb
  clear hwb
  go_wp2_with fail
  rw [← HWB.out]
  refine (toIntS_any _ _ _ _ ((hq.below hBb).more hBb.size) hlq).mono ?_
  rintro e w6 ⟨rfl, hxq, hb6⟩
  have hB6 := hBb.trans (hb6.mono hBb.size)
  have hz6 := hb6.size
  have hk_6 := hk_b.next hb6
  have x0_6 := x0_b.next hb6
  have x1_6 := x1_b.next hb6
  have xb_6 := hbk.next hb6
  have y0 := xb_6.cell 0
  have y1 := xb_6.cell 1
  go_wp2_with fail
  refine (implRouteOk_any _ _ _ _ _ _ _ _ _ _ _ x0_6.rd x1_6.rd hxq.rd hwf0 hwf1 hlen0 hlen1 hlq hcapx).mono ?_
  rintro e w7 ⟨rfl, hb7⟩
  have hB7 := hB6.trans (hb7.mono hB6.size)
  have hz7 := hb7.size
  have hk_7 := hk_6.next hb7
  have x0_7 := x0_6.next hb7
  have x1_7 := x1_6.next hb7
  have xb_7 := xb_6.next hb7
  have xq_7 := hxq.next hb7
  have c7_0 := hk_7.cell 0
  have c7_1 := hk_7.cell 1
  have e0 := xb_7.cell 0
  have e1 := xb_7.cell 1
  have hla : w.heap.size < w7.heap.size := hk_7.lt
  have hlx : w5.heap.size < w7.heap.size := xb_7.lt
  have hxd0 : Sl w7.drew _ _ _ _ _ _ _ := x0_7
  have hrd0 : Rd w7.drew w7.drew.heap.size Point.at_ 2 A0 ps := ((hr0.below hB7).more hB7.size)
  have hxd1 : Sl w7.drew _ _ _ _ _ _ _ := x1_7
  have hrd1 : Rd w7.drew w7.drew.heap.size Segment.at_ 5 A1 ss := ((hr1.below hB7).more hB7.size)
  go_wp2_with fail
  go_region_held3 (fun w' => w'.cell? ⟨w5.heap.size, 0, none⟩ = some (.slice Ax0 ps.length cx0) ∧ w'.cell? ⟨w5.heap.size, 1, none⟩ = some (.slice Ax1 ss.length cx1) ∧ w'.cell? ⟨w.heap.size, 0, none⟩ = some (.slice A0 ps.length c0) ∧ w'.cell? ⟨w.heap.size, 1, none⟩ = some (.slice A1 ss.length c1)) (go_keep)
    (first
      | (go_at_call 15; refine (toChart_any _ _ _ _ _ _ _ hrd0 hrd1 hlen0 hlen1).mono ?_; rintro e w8 ⟨Ay0, cy0, Ay1, cy1, rfl, hcapy, hy0, hy1, hb8⟩; have hcc8 : ∀ b o, b < w7.heap.size → w8.cell? ⟨b, o, none⟩ = w7.cell? ⟨b, o, none⟩ := (bcell hb8).1; have hlA8 : w.heap.size < w8.heap.size := Nat.lt_of_lt_of_le hla hb8.size; have hlB8 : w5.heap.size < w8.heap.size := Nat.lt_of_lt_of_le hlx hb8.size)
      | (go_at_call 17; refine (eqChart_same _ _ _ _ _ _ _ _ _ _ _ ?_ ?_ ?_ ?_ hlen0 hlen1).mono ?_; exact (hxd0.next hb8).rd; exact (hxd1.next hb8).rd; exact hy0.rd; exact hy1.rd; rintro e w9 ⟨rfl, hb9⟩; have hcc9 : ∀ b o, b < w8.heap.size → w9.cell? ⟨b, o, none⟩ = w8.cell? ⟨b, o, none⟩ := (bcell hb9).1))
  have hB8 := hB7.drew.trans (hb8.mono hB7.drew.size)
  have hB9 := hB8.trans (hb9.mono hB8.size)
  have xqd : Has w7.drew _ _ _ _ _ := xq_7
  go_wp2_with fail
  refine (toIntS_any _ _ _ _ ((hq.below hB9).more hB9.size) hlq).mono ?_
  rintro e w10 ⟨rfl, hyq, hb10⟩
  have hB10 := hB9.trans (hb10.mono hB9.size)
  have hz10 := hb10.size
  have xq_10 := ((xqd.next hb8).next hb9).next hb10
  go_wp2_with fail
  refine (eqIntS_same _ _ _ _ _ _ xq_10.rd hyq.rd hlq).mono ?_
  rintro e w11 ⟨rfl, hb11⟩
  have hB11 := hB10.trans (hb11.mono hB10.size)
  have hz11 := hb11.size
  have xq_11 := xq_10.next hb11
  go_wp2_with fail
  go_ret
  exact ⟨rfl, hB11⟩

set_option maxRecDepth 100000 in
theorem fnExactRouteOk_lifted (os : Os) (started : os.Started) (H : Type) (enc : TypeId × Value → H) :
    ReturnsInHanded {} Try.checked os 8 .any (Rows.fnExactRouteOkSpec.pre6 enc Try.prog Try.f8 Rows.fnExactRouteOkRow.domain false) (Rows.fnExactRouteOkSpec.post enc Try.prog Try.f8 false true false false) := by
  refine returnsInHanded_of_change (C := Try.checked) own_ started (by kernel_rfl) Try.func8
    (ChangeSpec.witness6 (enc := enc) (C := Try.checked) false ⟨#[], #[.agg #[.slice none 0 0, .slice none 0 0], .int .i64 0, .slice none 0 0], []⟩ 8 (by kernel_rfl) (by kernel_rfl) (by kernel_rfl) (by kernel_rfl)) ?_
  intro W base args ds gs before hval0 hW hcnd _
  have hval : ∀ (j : Nat) t v, Try.f8.params[j]? = some t → args[j]? = some v → Value.okWide Try.prog W .any base t v := hval0
  have hW' := hW
  obtain ⟨p, q, hA0, hV, rfl, hfz, hnd⟩ := hW
  have hA : DataW.TrodAll enc Try.prog W 0 (fun _ => true) true Try.f8.params.toList args.toList ds p := hA0
  rw [Try.params8] at hA hval
  obtain ⟨v0, v1, v2, d0, d1, d2, p0, p1, p2, rfl, rfl, rfl, h0, h1, h2⟩ := trodAll_three hA
  obtain ⟨rfl, rfl⟩ := trodVars_none hV
  obtain ⟨x0, hx0⟩ := open_Chart Try.underlying25 (by kernel_rfl) (by kernel_rfl) rfl rfl Try.underlying22 Try.underlying88 (by kernel_rfl) (by kernel_rfl) Try.underlying9 Try.underlying4 Try.underlying23 Try.underlying91 (by kernel_rfl) (by kernel_rfl) Try.underlying3 Try.underlying3 Try.underlying3 Try.underlying3 Try.underlying4 (hval 0 25 v0 rfl rfl) h0
  obtain ⟨x1, hx1⟩ := open_Int Try.underlying3 (hval 1 3 v1 rfl rfl) h1
  obtain ⟨x2, hx2⟩ := open_Ints Try.underlying39 Try.underlying3 (by kernel_rfl) (hval 2 39 v2 rfl rfl) h2
  refine (fnExactRouteOk_walk W hx0 hx1 hx2).mono fun e W' ⟨he, hb⟩ => ?_
  subst he
  exact ⟨_, rfl, law_post laidOut_ (by kernel_rfl) rfl (by kernel_rfl) Try.underlying4 hW' rfl hb⟩

theorem fnExactRouteOk_holds : Rows.FnExactRouteOkSaid :=
  OpenClaim.holds_of_wide 8 Try.f8 rfl rfl rfl rfl rfl rfl rfl ⟨rfl, rfl, rfl, rfl, rfl⟩ rfl rfl rfl rfl rfl (by kernel_rfl) Try.func8 (by kernel_rfl)
    (of_decide_eq_true (by kernel_rfl)) (by unfold Func.isWrapper; rw [if_neg (of_decide_eq_false (by kernel_rfl))]; exact ⟨rfl, rfl⟩)
    (fun os started H enc _ => fnExactRouteOk_lifted os started H enc)
#print axioms fnExactRouteOk_holds

end Go.Proofs.Ytjmfgncakegjaaa
