/-
  FnExactSameTides: for all arguments the program's SameTides and the reference's give one answer, and the arguments are left alone. No condition.
-/
import Derived.Test.YtjbfpbcobpodaaaTideS
import Derived.Test.YtjbfpbcobpodaaaOpenT
namespace Go.Proofs.Ytjbfpbcobpodaaa
open Go.ChangeShapes Go.WideShapes Go.ChangeAt Go.RowKit

set_option maxHeartbeats 8000000 in
theorem fnExactSameTides_walk {v0 v1 : Value} {x0 x1 : Tide} (w : World) (h0 : IsTide w v0 x0) (h1 : IsTide w v1 x1) :
    Calls Try.prog 8 #[v0, v1] w fun e w' => e = .returned (.bool true) ∧ Below w.heap.size w w' := by
  obtain ⟨A, c, rfl, hr0, hml0, hwf0⟩ := h0
  obtain ⟨m, ps⟩ := x0
  dsimp only at hr0 hml0 hwf0
  unfold maxLen at hml0
  obtain ⟨A', c', rfl, hr1, hml1, hwf1⟩ := h1
  obtain ⟨n, qs⟩ := x1
  dsimp only at hr1 hml1 hwf1
  unfold maxLen at hml1
  clear hwf0 hwf1
  obtain ⟨wa, hwa⟩ : ∃ wa, wa = (w.alloc (.cells #[.int .i64 m, .slice A ps.length c] 41)).alloc (.cells #[.int .i64 n, .slice A' qs.length c'] 41) := ⟨_, rfl⟩
  have hB0 : Below w.heap.size w wa := by rw [hwa]; exact ((Below.refl _ _).alloc (Nat.le_refl _) _).alloc (by simp) _
  have hk0 : Blk wa w.heap.size 41 #[.int .i64 m, .slice A ps.length c] := by rw [hwa]; exact (Blk.new _ _ _).alloc _
  have hl0 : Blk wa (w.heap.size + 1) 41 #[.int .i64 n, .slice A' qs.length c'] := by rw [hwa]; have := Blk.new (w.alloc (.cells #[.int .i64 m, .slice A ps.length c] 41)) 41 #[.int .i64 n, .slice A' qs.length c']; simpa using this
  go_enter Try.func8, Try.ntmps8
  go_wp2_with fail
  obtain ⟨gb, hgb⟩ : ∃ gb, gb = w.heap.size + 1 := ⟨_, rfl⟩
  rw [← hwa, ← hgb]
  rw [← hgb] at hl0
  have hgw : w.heap.size < gb := by omega
  clear hgb
  have HWA := Lib.hid hwa
  clear hwa
  refine (szTide_any _ _ _ _ _ (by omega) (by omega) (by omega) _).mono ?_
  rintro e w1 ⟨r0, rfl, hr01, hr02, hb1⟩
  have hB1 := hB0.trans (hb1.mono hB0.size)
  have hk1 := hk0.next hb1
  have hl1 := hl0.next hb1
  by_cases hneg0 : r0 < 0
  · go_wp2_with fail
    go_ret
    exact ⟨rfl, hB1⟩
  have hlen0 : ps.length ≤ 1048576 := by omega
  have c1_0 := hk1.cell 0
  have c1_1 := hk1.cell 1
  have d1_0 := hl1.cell 0
  have d1_1 := hl1.cell 1
  go_wp2_with fail
  refine (szTide_any _ _ _ _ _ (by omega) (by omega) (by omega) _).mono ?_
  rintro e w2 ⟨r1, rfl, hr11, hr12, hb2⟩
  have hB2 := hB1.trans (hb2.mono hB1.size)
  have hk2 := hk1.next hb2
  have hl2 := hl1.next hb2
  clear c1_0 c1_1 d1_0 d1_1
  by_cases hneg1 : r1 < 0
  · go_wp2_with fail
    go_ret
    exact ⟨rfl, hB2⟩
  have hlen1 : qs.length ≤ 1048576 := by omega
  have c2_0 := hk2.cell 0
  have c2_1 := hk2.cell 1
  have d2_0 := hl2.cell 0
  have d2_1 := hl2.cell 1
  have hla2 : w.heap.size < w2.heap.size := hk2.lt
  have hlb2 : gb < w2.heap.size := hl2.lt
  have hrd0 : Rd w2.drew w2.drew.heap.size Part.at_ 3 A ps := (hr0.below hB2).more hB2.size
  have hrd1 : Rd w2.drew w2.drew.heap.size Part.at_ 3 A' qs := (hr1.below hB2).more hB2.size
  go_wp2_with fail
  clear hk0 hl0 hk1 hl1 HWA hb1 hb2 hB0 hB1 hr01 hr02 hr11 hr12 hneg0 hneg1 hml0 hml1
  go_region_held3 (fun w' => w'.cell? ⟨w.heap.size, 0, none⟩ = some (.int .i64 m) ∧ w'.cell? ⟨w.heap.size, 1, none⟩ = some (.slice A ps.length c) ∧ w'.cell? ⟨gb, 0, none⟩ = some (.int .i64 n) ∧ w'.cell? ⟨gb, 1, none⟩ = some (.slice A' qs.length c')) (go_keep)
    (first
      | (go_at_call 28; refine (specSameTides_any _ _ _ _ _ _ _ _ _ (hs0.next hb4).rd hs1.rd hlen0 hlen1).mono ?_; rintro e w5 ⟨rfl, hb5⟩; have hcc5 : ∀ b o, b < w4.heap.size → w5.cell? ⟨b, o, none⟩ = w4.cell? ⟨b, o, none⟩ := (bcell hb5).1)
      | (go_at_call 25; refine (toTide_any n A' c' qs _ ((hrd1.below hb3).more hb3.size) hlen1).mono ?_; rintro e w4 ⟨As1, cs1, rfl, hs1, hb4⟩; have hcc4 : ∀ b o, b < w3.heap.size → w4.cell? ⟨b, o, none⟩ = w3.cell? ⟨b, o, none⟩ := (bcell hb4).1; have hla4 : w.heap.size < w4.heap.size := Nat.lt_of_lt_of_le hla3 hb4.size; have hlb4 : gb < w4.heap.size := Nat.lt_of_lt_of_le hlb3 hb4.size)
      | (go_at_call 25; refine (toTide_any m A c ps _ hrd0 hlen0).mono ?_; rintro e w3 ⟨As0, cs0, rfl, hs0, hb3⟩; have hcc3 : ∀ b o, b < w2.heap.size → w3.cell? ⟨b, o, none⟩ = w2.cell? ⟨b, o, none⟩ := (bcell hb3).1; have hla3 : w.heap.size < w3.heap.size := Nat.lt_of_lt_of_le hla2 hb3.size; have hlb3 : gb < w3.heap.size := Nat.lt_of_lt_of_le hlb2 hb3.size))
  have hB3 := hB2.drew.trans (hb3.mono hB2.drew.size)
  have hB4 := hB3.trans (hb4.mono hB3.size)
  have hk4 := ((hk2.drew).next hb3).next hb4
  have hl4 := ((hl2.drew).next hb3).next hb4
  have hB5 := hB4.trans (hb5.mono hB4.size)
  have hk5 := hk4.next hb5
  have hl5 := hl4.next hb5
  clear c2_0 c2_1 d2_0 d2_1 hs0 hs1 hcc3 hcc4 hcc5 hla3 hlb3 hla4 hlb4 hrd0 hrd1
  have c5_0 := hk5.cell 0
  have c5_1 := hk5.cell 1
  have d5_0 := hl5.cell 0
  have d5_1 := hl5.cell 1
  go_wp2_with fail
  refine (toTide_any _ _ _ _ _ ((hr0.below hB5).more hB5.size) hlen0).mono ?_
  rintro e w6 ⟨Ax0, cx0, rfl, hx0, hb6⟩
  have hB6 := hB5.trans (hb6.mono hB5.size)
  have hk6 := hk5.next hb6
  have hl6 := hl5.next hb6
  clear c5_0 c5_1 d5_0 d5_1
  obtain ⟨wb, hwb⟩ : ∃ wb, wb = w6.alloc (.cells #[.int .i64 m, .slice Ax0 ps.length cx0] 46) := ⟨_, rfl⟩
  have hbb : Below w6.heap.size w6 wb := by rw [hwb]; exact (Below.refl _ _).alloc (Nat.le_refl _) _
  have xk0 : Blk wb w6.heap.size 46 #[.int .i64 m, .slice Ax0 ps.length cx0] := by rw [hwb]; exact Blk.new _ _ _
  have hBb := hB6.trans (hbb.mono hB6.size)
  have hkb := hk6.next hbb
  have hlb := hl6.next hbb
  have hxb := hx0.next hbb
  have HWB := Lib.hid hwb
  clear hwb
  have dA0 : ∀ o, (w6.alloc o).cell? ⟨gb, 0, none⟩ = some (.int .i64 n) := fun o => (hl6.alloc o).cell 0
  have dA1 : ∀ o, (w6.alloc o).cell? ⟨gb, 1, none⟩ = some (.slice A' qs.length c') := fun o => (hl6.alloc o).cell 1
  go_wp2_with fail
  rw [← HWB.out]
  clear dA0 dA1
  refine (toTide_any _ _ _ _ _ ((hr1.below hBb).more hBb.size) hlen1).mono ?_
  rintro e w7 ⟨Ax1, cx1, rfl, hy0, hb7⟩
  have hB7 := hBb.trans (hb7.mono hBb.size)
  have hk7 := hkb.next hb7
  have hl7 := hlb.next hb7
  have hx7 := hxb.next hb7
  have xk7 := xk0.next hb7
  obtain ⟨wc, hwc⟩ : ∃ wc, wc = w7.alloc (.cells #[.int .i64 n, .slice Ax1 qs.length cx1] 46) := ⟨_, rfl⟩
  have hbc : Below w7.heap.size w7 wc := by rw [hwc]; exact (Below.refl _ _).alloc (Nat.le_refl _) _
  have yk0 : Blk wc w7.heap.size 46 #[.int .i64 n, .slice Ax1 qs.length cx1] := by rw [hwc]; exact Blk.new _ _ _
  have hBc := hB7.trans (hbc.mono hB7.size)
  have hkc := hk7.next hbc
  have hlc := hl7.next hbc
  have hxc := hx7.next hbc
  have xkc := xk7.next hbc
  have hyc := hy0.next hbc
  have dA0 : ∀ o, (w7.alloc o).cell? ⟨w6.heap.size, 0, none⟩ = some (.int .i64 m) := fun o => (xk7.alloc o).cell 0
  have dA1 : ∀ o, (w7.alloc o).cell? ⟨w6.heap.size, 1, none⟩ = some (.slice Ax0 ps.length cx0) := fun o => (xk7.alloc o).cell 1
  have HWC := Lib.hid hwc
  clear hwc
  go_wp2_with fail
  rw [← HWC.out]
  clear dA0 dA1
  refine (implSameTides_any _ _ _ _ _ _ _ _ _ hxc.rd hyc.rd hlen0 hlen1).mono ?_
  rintro e w8 ⟨rfl, hb8⟩
  have hB8 := hBc.trans (hb8.mono hBc.size)
  have hk8 := hkc.next hb8
  have hl8 := hlc.next hb8
  have hx8 := hxc.next hb8
  have hy8 := hyc.next hb8
  have xk8 := xkc.next hb8
  have yk8 := yk0.next hb8
  have A0 := hk8.cell 0
  have A1 := hk8.cell 1
  have X0 := xk8.cell 0
  have X1 := xk8.cell 1
  have hla8 : w.heap.size < w8.heap.size := hk8.lt
  have hlx8 : w6.heap.size < w8.heap.size := xk8.lt
  have hxd0 : Sl w8.drew _ _ _ _ _ _ _ := hx8
  have hrd0 : Rd w8.drew w8.drew.heap.size Part.at_ 3 A ps := ((hr0.below hB8).more hB8.size)
  go_wp2_with fail
  clear hk6 hl6 hkb hlb hxb hk7 hl7 hx7 xk7 hkc hlc hxc xkc hyc hbb hbc hb7 hb8
  go_region_held3 (fun w' => w'.cell? ⟨w6.heap.size, 0, none⟩ = some (.int .i64 m) ∧ w'.cell? ⟨w6.heap.size, 1, none⟩ = some (.slice Ax0 ps.length cx0) ∧ w'.cell? ⟨w.heap.size, 0, none⟩ = some (.int .i64 m) ∧ w'.cell? ⟨w.heap.size, 1, none⟩ = some (.slice A ps.length c)) (go_keep)
    (first
      | (go_at_call 27; refine (eqTide_same _ _ _ _ _ ps _ ?_ ?_ hlen0).mono ?_; exact (hxd0.next hb9).rd; exact hz9.rd; rintro e w10 ⟨rfl, hb10⟩; have hcc10 : ∀ b o, b < w9.heap.size → w10.cell? ⟨b, o, none⟩ = w9.cell? ⟨b, o, none⟩ := (bcell hb10).1)
      | (go_at_call 25; refine (toTide_any _ _ _ _ _ hrd0 hlen0).mono ?_; rintro e w9 ⟨Az0, cz0, rfl, hz9, hb9⟩; have hcc9 : ∀ b o, b < w8.heap.size → w9.cell? ⟨b, o, none⟩ = w8.cell? ⟨b, o, none⟩ := (bcell hb9).1; have hlA9 : w.heap.size < w9.heap.size := Nat.lt_of_lt_of_le hla8 hb9.size; have hlB9 : w6.heap.size < w9.heap.size := Nat.lt_of_lt_of_le hlx8 hb9.size))
  clear A0 A1 X0 X1 hcc9 hcc10 hlA9 hlB9 hla8 hlx8 hrd0
  have hB9 := hB8.drew.trans (hb9.mono hB8.drew.size)
  have hB10 := hB9.trans (hb10.mono hB9.size)
  have hl10 := ((hl8.drew).next hb9).next hb10
  have yk10 := ((yk8.drew).next hb9).next hb10
  have hy8d : Sl w8.drew _ _ _ _ _ _ _ := hy8
  have hyd10' := (hy8d.next hb9).next hb10
  have hyd10 : Sl w10.drew _ _ _ _ _ _ _ := hyd10'
  have A0 := hl10.cell 0
  have A1 := hl10.cell 1
  have X0 := yk10.cell 0
  have X1 := yk10.cell 1
  have hla10 : gb < w10.heap.size := hl10.lt
  have hlx10 : w7.heap.size < w10.heap.size := yk10.lt
  have hrd1 : Rd w10.drew w10.drew.heap.size Part.at_ 3 A' qs := ((hr1.below hB10).more hB10.size)
  go_wp2_with fail
  clear hb9 hb10 hk8 hl8 xk8 yk8
  go_region_held3 (fun w' => w'.cell? ⟨w7.heap.size, 0, none⟩ = some (.int .i64 n) ∧ w'.cell? ⟨w7.heap.size, 1, none⟩ = some (.slice Ax1 qs.length cx1) ∧ w'.cell? ⟨gb, 0, none⟩ = some (.int .i64 n) ∧ w'.cell? ⟨gb, 1, none⟩ = some (.slice A' qs.length c')) (go_keep)
    (first
      | (go_at_call 27; refine (eqTide_same _ _ _ _ _ qs _ ?_ ?_ hlen1).mono ?_; exact (hyd10.next hb11).rd; exact hz11.rd; rintro e w12 ⟨rfl, hb12⟩; have hcc12 : ∀ b o, b < w11.heap.size → w12.cell? ⟨b, o, none⟩ = w11.cell? ⟨b, o, none⟩ := (bcell hb12).1)
      | (go_at_call 25; refine (toTide_any _ _ _ _ _ hrd1 hlen1).mono ?_; rintro e w11 ⟨Az1, cz1, rfl, hz11, hb11⟩; have hcc11 : ∀ b o, b < w10.heap.size → w11.cell? ⟨b, o, none⟩ = w10.cell? ⟨b, o, none⟩ := (bcell hb11).1; have hlA11 : gb < w11.heap.size := Nat.lt_of_lt_of_le hla10 hb11.size; have hlB11 : w7.heap.size < w11.heap.size := Nat.lt_of_lt_of_le hlx10 hb11.size))
  have hB11 := hB10.drew.trans (hb11.mono hB10.drew.size)
  have hB12 := hB11.trans (hb12.mono hB11.size)
  go_wp2_with fail
  go_ret
  exact ⟨rfl, hB12⟩

set_option maxRecDepth 100000 in
theorem fnExactSameTides_lifted (os : Os) (started : os.Started) (H : Type) (enc : TypeId × Value → H) :
    ReturnsInHanded {} Try.checked os 8 .any (Rows.fnExactSameTidesSpec.pre6 enc Try.prog Try.f8 Rows.fnExactSameTidesRow.domain false) (Rows.fnExactSameTidesSpec.post enc Try.prog Try.f8 false true false false) := by
  refine returnsInHanded_of_change (C := Try.checked) own_ started (by kernel_rfl) Try.func8
    (ChangeSpec.witness6 (enc := enc) (C := Try.checked) false ⟨#[], #[.agg #[.int .i64 0, .slice none 0 0], .agg #[.int .i64 0, .slice none 0 0]], []⟩ 8 (by kernel_rfl) (by kernel_rfl) (by kernel_rfl) (by kernel_rfl)) ?_
  intro W base args ds gs before hval0 hW hcnd _
  have hval : ∀ (j : Nat) t v, Try.f8.params[j]? = some t → args[j]? = some v → Value.okWide Try.prog W .any base t v := hval0
  have hW' := hW
  obtain ⟨p, q, hA0, hV, rfl, hfz, hnd⟩ := hW
  have hA : DataW.TrodAll enc Try.prog W 0 (fun _ => true) true Try.f8.params.toList args.toList ds p := hA0
  rw [Try.params8] at hA hval
  obtain ⟨v0, v1, d0, d1, p0, p1, rfl, rfl, rfl, h0, h1⟩ := trodAll_two hA
  obtain ⟨rfl, rfl⟩ := trodVars_none hV
  obtain ⟨x0, hx0⟩ := open_Tide Try.underlying41 (by kernel_rfl) (by kernel_rfl) Try.underlying3 rfl Try.underlying39 Try.underlying23 (by kernel_rfl) (by kernel_rfl) Try.underlying3 Try.underlying3 Try.underlying3 (hval 0 41 v0 rfl rfl) h0
  obtain ⟨x1, hx1⟩ := open_Tide Try.underlying41 (by kernel_rfl) (by kernel_rfl) Try.underlying3 rfl Try.underlying39 Try.underlying23 (by kernel_rfl) (by kernel_rfl) Try.underlying3 Try.underlying3 Try.underlying3 (hval 1 41 v1 rfl rfl) h1
  refine (fnExactSameTides_walk W hx0 hx1).mono fun e W' ⟨he, hb⟩ => ?_
  subst he
  exact ⟨_, rfl, law_post laidOut_ (by kernel_rfl) rfl (by kernel_rfl) Try.underlying4 hW' rfl hb⟩

theorem fnExactSameTides_holds : Rows.FnExactSameTidesSaid :=
  OpenClaim.holds_of_wide 8 Try.f8 rfl rfl rfl rfl rfl rfl rfl ⟨rfl, rfl, rfl, rfl, rfl⟩ rfl rfl rfl rfl rfl (by kernel_rfl) Try.func8 (by kernel_rfl)
    (of_decide_eq_true (by kernel_rfl)) (by unfold Func.isWrapper; rw [if_neg (of_decide_eq_false (by kernel_rfl))]; exact ⟨rfl, rfl⟩)
    (fun os started H enc _ => fnExactSameTides_lifted os started H enc)
#print axioms fnExactSameTides_holds

end Go.Proofs.Ytjbfpbcobpodaaa
