/-
  FnExactNarrowerBand: for all arguments the program's NarrowerBand and the reference's give one answer, and the arguments are left alone. No condition.
-/
import Derived.Test.YtmhiohijpnmcpaaNarI
import Derived.Test.YtmhiohijpnmcpaaNarS
import Derived.Test.YtmhiohijpnmcpaaOpenF
namespace Go.Proofs.Ytmhiohijpnmcpaa
open Go.ChangeShapes Go.WideShapes Go.ChangeAt Go.RowKit

set_option maxHeartbeats 16000000 in
theorem fnExactNarrowerBand_walk {v0 v1 : Value} {x0 x1 : Forecast} (w : World) (h0 : IsForecast w v0 x0) (h1 : IsForecast w v1 x1) :
    Calls Try.prog 9 #[v0, v1] w fun e w' => e = .returned (.bool true) ∧ Below w.heap.size w w' := by
  obtain ⟨A, c, B, d, rfl, ⟨hr0, hml0, hwf0⟩, ⟨hs0, hml0', hws0⟩⟩ := h0
  obtain ⟨m, ps, ss⟩ := x0
  dsimp only at hr0 hml0 hwf0 hs0 hml0'
  unfold maxLen at hml0 hml0'
  obtain ⟨A', c', B', d', rfl, ⟨hr1, hml1, hwf1⟩, ⟨hs1, hml1', hws1⟩⟩ := h1
  obtain ⟨n, qs, ts⟩ := x1
  dsimp only at hr1 hml1 hwf1 hs1 hml1'
  unfold maxLen at hml1 hml1'
  clear hws0 hws1
  have HWF0 := Lib.hid hwf0
  have HWF1 := Lib.hid hwf1
  clear hwf0 hwf1
  obtain ⟨wa, hwa⟩ : ∃ wa, wa = (w.alloc (.cells #[.int .i64 m, .slice A ps.length c, .slice B ss.length d] 27)).alloc (.cells #[.int .i64 n, .slice A' qs.length c', .slice B' ts.length d'] 27) := ⟨_, rfl⟩
  have hB0 : Below w.heap.size w wa := by rw [hwa]; exact ((Below.refl _ _).alloc (Nat.le_refl _) _).alloc (by simp) _
  have hk0 : Blk wa w.heap.size 27 #[.int .i64 m, .slice A ps.length c, .slice B ss.length d] := by rw [hwa]; exact (Blk.new _ _ _).alloc _
  have hl0 : Blk wa (w.heap.size + 1) 27 #[.int .i64 n, .slice A' qs.length c', .slice B' ts.length d'] := by rw [hwa]; exact Blk.new' _ _ (by simp)
  go_enter Try.func9, Try.ntmps9
  go_wp2_with fail
  obtain ⟨gb, hgb⟩ : ∃ gb, gb = w.heap.size + 1 := ⟨_, rfl⟩
  rw [← hwa, ← hgb]
  rw [← hgb] at hl0
  have hgw : w.heap.size < gb := by omega
  clear hgb
  have HWA := Lib.hid hwa
  clear hwa
  refine (szForecast_any _ _ _ _ _ _ _ _ (by omega) (by omega) (by omega) (by omega) _).mono ?_
  rintro e w1 ⟨r0, rfl, hr01, hr02, hb1⟩
  have hB1 := hB0.trans (hb1.mono hB0.size)
  have hk1 := hk0.next hb1
  have hl1 := hl0.next hb1
  by_cases hneg0 : r0 < 0
  · go_wp2_with fail
    go_ret
    exact ⟨rfl, hB1⟩
  have hlen0 : ps.length ≤ 1048576 := by omega
  have hles0 : ss.length ≤ 1048576 := by omega
  have c1_0 := hk1.cell 0
  have d1_0 := hl1.cell 0
  have c1_1 := hk1.cell 1
  have d1_1 := hl1.cell 1
  have c1_2 := hk1.cell 2
  have d1_2 := hl1.cell 2
  go_wp2_with fail
  refine (szForecast_any _ _ _ _ _ _ _ _ (by omega) (by omega) (by omega) (by omega) _).mono ?_
  rintro e w2 ⟨r1, rfl, hr11, hr12, hb2⟩
  have hB2 := hB1.trans (hb2.mono hB1.size)
  have hk2 := hk1.next hb2
  have hl2 := hl1.next hb2
  clear c1_0 c1_1 c1_2 d1_0 d1_1 d1_2
  by_cases hneg1 : r1 < 0
  · go_wp2_with fail
    go_ret
    exact ⟨rfl, hB2⟩
  have hlen1 : qs.length ≤ 1048576 := by omega
  have hles1 : ts.length ≤ 1048576 := by omega
  have c2_0 := hk2.cell 0
  have d2_0 := hl2.cell 0
  have c2_1 := hk2.cell 1
  have d2_1 := hl2.cell 1
  have c2_2 := hk2.cell 2
  have d2_2 := hl2.cell 2
  have hla2 : w.heap.size < w2.heap.size := hk2.lt
  have hlb2 : gb < w2.heap.size := hl2.lt
  have hrd0 : Rd w2.drew w2.drew.heap.size Part.at_ 3 A ps := (hr0.below hB2).more hB2.size
  have hsd0 : Rd w2.drew w2.drew.heap.size Surge.at_ 3 B ss := (hs0.below hB2).more hB2.size
  have hrd1 : Rd w2.drew w2.drew.heap.size Part.at_ 3 A' qs := (hr1.below hB2).more hB2.size
  have hsd1 : Rd w2.drew w2.drew.heap.size Surge.at_ 3 B' ts := (hs1.below hB2).more hB2.size
  go_wp2_with fail
  clear hk0 hl0 hk1 hl1 HWA hb1 hb2 hB0 hB1 hr01 hr02 hr11 hr12 hneg0 hneg1 hml0 hml1 hml0' hml1'
  go_region_held3 (fun w' => w'.cell? ⟨w.heap.size, 0, none⟩ = some (.int .i64 m) ∧ w'.cell? ⟨w.heap.size, 1, none⟩ = some (.slice A ps.length c) ∧ w'.cell? ⟨w.heap.size, 2, none⟩ = some (.slice B ss.length d) ∧ w'.cell? ⟨gb, 0, none⟩ = some (.int .i64 n) ∧ w'.cell? ⟨gb, 1, none⟩ = some (.slice A' qs.length c') ∧ w'.cell? ⟨gb, 2, none⟩ = some (.slice B' ts.length d')) (go_keep)
    (first
      | (go_at_call 31; refine (specNarrowerBand_any _ _ _ _ _ _ _ _ _ _ _ _ _ _ _ (has1.next hb4).rd (has2.next hb4).rd hbs1.rd hbs2.rd HWF0.out HWF1.out hlen0 hles0 hlen1 hles1).mono ?_; rintro e w5 ⟨rfl, hb5⟩; have hcc5 : ∀ b o, b < w4.heap.size → w5.cell? ⟨b, o, none⟩ = w4.cell? ⟨b, o, none⟩ := (bcell hb5).1)
      | (go_at_call 16; refine (toForecast_any n A' B' c' d' qs ts _ ((hrd1.below hb3).more hb3.size) ((hsd1.below hb3).more hb3.size) hlen1 hles1).mono ?_; rintro e w4 ⟨A's, c's, B's, d's, rfl, hcaphbs, hbs1, hbs2, hb4⟩; have hcc4 : ∀ b o, b < w3.heap.size → w4.cell? ⟨b, o, none⟩ = w3.cell? ⟨b, o, none⟩ := (bcell hb4).1; have hla4 : w.heap.size < w4.heap.size := Nat.lt_of_lt_of_le hla3 hb4.size; have hlb4 : gb < w4.heap.size := Nat.lt_of_lt_of_le hlb3 hb4.size)
      | (go_at_call 16; refine (toForecast_any m A B c d ps ss _ hrd0 hsd0 hlen0 hles0).mono ?_; rintro e w3 ⟨As, cs, Bs, ds, rfl, hcaphas, has1, has2, hb3⟩; have hcc3 : ∀ b o, b < w2.heap.size → w3.cell? ⟨b, o, none⟩ = w2.cell? ⟨b, o, none⟩ := (bcell hb3).1; have hla3 : w.heap.size < w3.heap.size := Nat.lt_of_lt_of_le hla2 hb3.size; have hlb3 : gb < w3.heap.size := Nat.lt_of_lt_of_le hlb2 hb3.size))
  have hB3 := hB2.drew.trans (hb3.mono hB2.drew.size)
  have hB4 := hB3.trans (hb4.mono hB3.size)
  have hk4 := ((hk2.drew).next hb3).next hb4
  have hl4 := ((hl2.drew).next hb3).next hb4
  have hB5 := hB4.trans (hb5.mono hB4.size)
  have hk5 := hk4.next hb5
  have hl5 := hl4.next hb5
  clear c2_0 c2_1 c2_2 d2_0 d2_1 d2_2 has1 has2 hbs1 hbs2 hcc3 hcc4 hcc5 hla3 hlb3 hla4 hlb4 hrd0 hrd1 hsd0 hsd1
  have c5_0 := hk5.cell 0
  have d5_0 := hl5.cell 0
  have c5_1 := hk5.cell 1
  have d5_1 := hl5.cell 1
  have c5_2 := hk5.cell 2
  have d5_2 := hl5.cell 2
  go_wp2_with fail
  refine (toForecast_any _ _ _ _ _ _ _ _ ((hr0.below hB5).more hB5.size) ((hs0.below hB5).more hB5.size) hlen0 hles0).mono ?_
  rintro e w6 ⟨Ax, cx, Bx, dx, rfl, hcaphx, hx1, hx2, hb6⟩
  have hB6 := hB5.trans (hb6.mono hB5.size)
  have hk6 := hk5.next hb6
  have hl6 := hl5.next hb6
  clear c5_0 c5_1 c5_2 d5_0 d5_1 d5_2
  obtain ⟨wb, hwb⟩ : ∃ wb, wb = w6.alloc (.cells #[.int .i64 m, .slice Ax ps.length cx, .slice Bx ss.length dx] 35) := ⟨_, rfl⟩
  have hbb : Below w6.heap.size w6 wb := by rw [hwb]; exact (Below.refl _ _).alloc (Nat.le_refl _) _
  have xk0 : Blk wb w6.heap.size 35 #[.int .i64 m, .slice Ax ps.length cx, .slice Bx ss.length dx] := by rw [hwb]; exact Blk.new _ _ _
  have hBb := hB6.trans (hbb.mono hB6.size)
  have hkb := hk6.next hbb
  have hlb := hl6.next hbb
  have hxb1 := hx1.next hbb
  have hxb2 := hx2.next hbb
  have HWB := Lib.hid hwb
  clear hwb
  have dA0 : ∀ o, (w6.alloc o).cell? ⟨gb, 0, none⟩ = some (.int .i64 n) := fun o => (hl6.alloc o).cell 0
  have dA1 : ∀ o, (w6.alloc o).cell? ⟨gb, 1, none⟩ = some (.slice A' qs.length c') := fun o => (hl6.alloc o).cell 1
  have dA2 : ∀ o, (w6.alloc o).cell? ⟨gb, 2, none⟩ = some (.slice B' ts.length d') := fun o => (hl6.alloc o).cell 2
  go_wp2_with fail
  rw [← HWB.out]
  clear dA0 dA1 dA2
  refine (toForecast_any _ _ _ _ _ _ _ _ ((hr1.below hBb).more hBb.size) ((hs1.below hBb).more hBb.size) hlen1 hles1).mono ?_
  rintro e w7 ⟨A'x, c'x, B'x, d'x, rfl, hcaphy, hy1, hy2, hb7⟩
  have hB7 := hBb.trans (hb7.mono hBb.size)
  have hk7 := hkb.next hb7
  have hl7 := hlb.next hb7
  have hx71 := hxb1.next hb7
  have hx72 := hxb2.next hb7
  have xk7 := xk0.next hb7
  obtain ⟨wc, hwc⟩ : ∃ wc, wc = w7.alloc (.cells #[.int .i64 n, .slice A'x qs.length c'x, .slice B'x ts.length d'x] 35) := ⟨_, rfl⟩
  have hbc : Below w7.heap.size w7 wc := by rw [hwc]; exact (Below.refl _ _).alloc (Nat.le_refl _) _
  have yk0 : Blk wc w7.heap.size 35 #[.int .i64 n, .slice A'x qs.length c'x, .slice B'x ts.length d'x] := by rw [hwc]; exact Blk.new _ _ _
  have hBc := hB7.trans (hbc.mono hB7.size)
  have hkc := hk7.next hbc
  have hlc := hl7.next hbc
  have hxc1 := hx71.next hbc
  have hxc2 := hx72.next hbc
  have xkc := xk7.next hbc
  have hyc1 := hy1.next hbc
  have hyc2 := hy2.next hbc
  have dA0 : ∀ o, (w7.alloc o).cell? ⟨w6.heap.size, 0, none⟩ = some (.int .i64 m) := fun o => (xk7.alloc o).cell 0
  have dA1 : ∀ o, (w7.alloc o).cell? ⟨w6.heap.size, 1, none⟩ = some (.slice Ax ps.length cx) := fun o => (xk7.alloc o).cell 1
  have dA2 : ∀ o, (w7.alloc o).cell? ⟨w6.heap.size, 2, none⟩ = some (.slice Bx ss.length dx) := fun o => (xk7.alloc o).cell 2
  have HWC := Lib.hid hwc
  clear hwc
  go_wp2_with fail
  rw [← HWC.out]
  clear dA0 dA1 dA2
  refine (implNarrowerBand_any _ _ _ _ _ _ _ _ _ _ _ _ _ _ _ hxc1.rd hxc2.rd hyc1.rd hyc2.rd HWF0.out HWF1.out hlen0 hles0 hlen1 hles1).mono ?_
  rintro e w8 ⟨rfl, hb8⟩
  have hB8 := hBc.trans (hb8.mono hBc.size)
  have hk8 := hkc.next hb8
  have hl8 := hlc.next hb8
  have hx81 := hxc1.next hb8
  have hx82 := hxc2.next hb8
  have hy81 := hyc1.next hb8
  have hy82 := hyc2.next hb8
  have xk8 := xkc.next hb8
  have yk8 := yk0.next hb8
  have A_0 := hk8.cell 0
  have X_0 := xk8.cell 0
  have A_1 := hk8.cell 1
  have X_1 := xk8.cell 1
  have A_2 := hk8.cell 2
  have X_2 := xk8.cell 2
  have hla8 : w.heap.size < w8.heap.size := hk8.lt
  have hlx8 : w6.heap.size < w8.heap.size := xk8.lt
  have hxd1 : Sl w8.drew _ _ _ _ _ _ _ := hx81
  have hxd2 : Sl w8.drew _ _ _ _ _ _ _ := hx82
  have hrd0 : Rd w8.drew w8.drew.heap.size Part.at_ 3 A ps := ((hr0.below hB8).more hB8.size)
  have hsd0 : Rd w8.drew w8.drew.heap.size Surge.at_ 3 B ss := ((hs0.below hB8).more hB8.size)
  go_wp2_with fail
  clear hk6 hl6 hkb hlb hxb1 hxb2 hk7 hl7 hx71 hx72 xk7 hkc hlc hxc1 hxc2 xkc hyc1 hyc2 hbb hbc hb7 hb8
  go_region_held3 (fun w' => w'.cell? ⟨w6.heap.size, 0, none⟩ = some (.int .i64 m) ∧ w'.cell? ⟨w6.heap.size, 1, none⟩ = some (.slice Ax ps.length cx) ∧ w'.cell? ⟨w6.heap.size, 2, none⟩ = some (.slice Bx ss.length dx) ∧ w'.cell? ⟨w.heap.size, 0, none⟩ = some (.int .i64 m) ∧ w'.cell? ⟨w.heap.size, 1, none⟩ = some (.slice A ps.length c) ∧ w'.cell? ⟨w.heap.size, 2, none⟩ = some (.slice B ss.length d)) (go_keep)
    (first
      | (go_at_call 18; refine (eqForecast_same _ _ _ _ _ _ _ _ _ _ _ _ ?_ ?_ ?_ ?_ hlen0 hles0).mono ?_; exact (hxd1.next hb9).rd; exact (hxd2.next hb9).rd; exact hz91.rd; exact hz92.rd; rintro e w10 ⟨rfl, hb10⟩; have hcc10 : ∀ b o, b < w9.heap.size → w10.cell? ⟨b, o, none⟩ = w9.cell? ⟨b, o, none⟩ := (bcell hb10).1)
      | (go_at_call 16; refine (toForecast_any _ _ _ _ _ _ _ _ hrd0 hsd0 hlen0 hles0).mono ?_; rintro e w9 ⟨Az0, cz0, Bz0, dz0, rfl, hcaphz9, hz91, hz92, hb9⟩; have hcc9 : ∀ b o, b < w8.heap.size → w9.cell? ⟨b, o, none⟩ = w8.cell? ⟨b, o, none⟩ := (bcell hb9).1; have hlA9 : w.heap.size < w9.heap.size := Nat.lt_of_lt_of_le hla8 hb9.size; have hlB9 : w6.heap.size < w9.heap.size := Nat.lt_of_lt_of_le hlx8 hb9.size))
  clear A_0 A_1 A_2 X_0 X_1 X_2 hcc9 hcc10 hlA9 hlB9 hla8 hlx8 hrd0 hsd0
  have hB9 := hB8.drew.trans (hb9.mono hB8.drew.size)
  have hB10 := hB9.trans (hb10.mono hB9.size)
  have hl10 := ((hl8.drew).next hb9).next hb10
  have yk10 := ((yk8.drew).next hb9).next hb10
  have hy8d1 : Sl w8.drew _ _ _ _ _ _ _ := hy81
  have hye1' := (hy8d1.next hb9).next hb10
  have hye1 : Sl w10.drew _ _ _ _ _ _ _ := hye1'
  have hy8d2 : Sl w8.drew _ _ _ _ _ _ _ := hy82
  have hye2' := (hy8d2.next hb9).next hb10
  have hye2 : Sl w10.drew _ _ _ _ _ _ _ := hye2'
  have A_0 := hl10.cell 0
  have X_0 := yk10.cell 0
  have A_1 := hl10.cell 1
  have X_1 := yk10.cell 1
  have A_2 := hl10.cell 2
  have X_2 := yk10.cell 2
  have hla10 : gb < w10.heap.size := hl10.lt
  have hlx10 : w7.heap.size < w10.heap.size := yk10.lt
  have hrd1 : Rd w10.drew w10.drew.heap.size Part.at_ 3 A' qs := ((hr1.below hB10).more hB10.size)
  have hsd1 : Rd w10.drew w10.drew.heap.size Surge.at_ 3 B' ts := ((hs1.below hB10).more hB10.size)
  go_wp2_with fail
  clear hb9 hb10 hk8 hl8 xk8 yk8
  go_region_held3 (fun w' => w'.cell? ⟨w7.heap.size, 0, none⟩ = some (.int .i64 n) ∧ w'.cell? ⟨w7.heap.size, 1, none⟩ = some (.slice A'x qs.length c'x) ∧ w'.cell? ⟨w7.heap.size, 2, none⟩ = some (.slice B'x ts.length d'x) ∧ w'.cell? ⟨gb, 0, none⟩ = some (.int .i64 n) ∧ w'.cell? ⟨gb, 1, none⟩ = some (.slice A' qs.length c') ∧ w'.cell? ⟨gb, 2, none⟩ = some (.slice B' ts.length d')) (go_keep)
    (first
      | (go_at_call 18; refine (eqForecast_same _ _ _ _ _ _ _ _ _ _ _ _ ?_ ?_ ?_ ?_ hlen1 hles1).mono ?_; exact (hye1.next hb11).rd; exact (hye2.next hb11).rd; exact hz111.rd; exact hz112.rd; rintro e w12 ⟨rfl, hb12⟩; have hcc12 : ∀ b o, b < w11.heap.size → w12.cell? ⟨b, o, none⟩ = w11.cell? ⟨b, o, none⟩ := (bcell hb12).1)
      | (go_at_call 16; refine (toForecast_any _ _ _ _ _ _ _ _ hrd1 hsd1 hlen1 hles1).mono ?_; rintro e w11 ⟨A'z1, c'z1, B'z1, d'z1, rfl, hcaphz11, hz111, hz112, hb11⟩; have hcc11 : ∀ b o, b < w10.heap.size → w11.cell? ⟨b, o, none⟩ = w10.cell? ⟨b, o, none⟩ := (bcell hb11).1; have hlA11 : gb < w11.heap.size := Nat.lt_of_lt_of_le hla10 hb11.size; have hlB11 : w7.heap.size < w11.heap.size := Nat.lt_of_lt_of_le hlx10 hb11.size))
  have hB11 := hB10.drew.trans (hb11.mono hB10.drew.size)
  have hB12 := hB11.trans (hb12.mono hB11.size)
  go_wp2_with fail
  go_ret
  exact ⟨rfl, hB12⟩

set_option maxRecDepth 100000 in
theorem fnExactNarrowerBand_lifted (os : Os) (started : os.Started) (H : Type) (enc : TypeId × Value → H) :
    ReturnsInHanded {} Try.checked os 9 .any (Rows.fnExactNarrowerBandSpec.pre6 enc Try.prog Try.f9 Rows.fnExactNarrowerBandRow.domain false) (Rows.fnExactNarrowerBandSpec.post enc Try.prog Try.f9 false true false false) := by
  refine returnsInHanded_of_change (C := Try.checked) own_ started (by kernel_rfl) Try.func9
    (ChangeSpec.witness6 (enc := enc) (C := Try.checked) false ⟨#[], #[.agg #[.int .i64 0, .slice none 0 0, .slice none 0 0], .agg #[.int .i64 0, .slice none 0 0, .slice none 0 0]], []⟩ 8 (by kernel_rfl) (by kernel_rfl) (by kernel_rfl) (by kernel_rfl)) ?_
  intro W base args ds gs before hval0 hW hcnd _
  have hval : ∀ (j : Nat) t v, Try.f9.params[j]? = some t → args[j]? = some v → Value.okWide Try.prog W .any base t v := hval0
  have hW' := hW
  obtain ⟨p, q, hA0, hV, rfl, hfz, hnd⟩ := hW
  have hA : DataW.TrodAll enc Try.prog W 0 (fun _ => true) true Try.f9.params.toList args.toList ds p := hA0
  rw [Try.params9] at hA hval
  obtain ⟨v0, v1, d0, d1, p0, p1, rfl, rfl, rfl, h0, h1⟩ := trodAll_two hA
  obtain ⟨rfl, rfl⟩ := trodVars_none hV
  obtain ⟨x0, hx0⟩ := open_Forecast Try.underlying27 (by kernel_rfl) rfl (by kernel_rfl) rfl (by kernel_rfl) rfl rfl Try.underlying24 rfl (by kernel_rfl) rfl (by kernel_rfl) Try.underlying3 rfl Try.underlying22 Try.underlying109 (by kernel_rfl) (by kernel_rfl) Try.underlying3 Try.underlying3 Try.underlying3 Try.underlying25 Try.underlying95 (by kernel_rfl) (by kernel_rfl) Try.underlying3 Try.underlying3 Try.underlying3 (hval 0 27 v0 rfl rfl) h0
  obtain ⟨x1, hx1⟩ := open_Forecast Try.underlying27 (by kernel_rfl) rfl (by kernel_rfl) rfl (by kernel_rfl) rfl rfl Try.underlying24 rfl (by kernel_rfl) rfl (by kernel_rfl) Try.underlying3 rfl Try.underlying22 Try.underlying109 (by kernel_rfl) (by kernel_rfl) Try.underlying3 Try.underlying3 Try.underlying3 Try.underlying25 Try.underlying95 (by kernel_rfl) (by kernel_rfl) Try.underlying3 Try.underlying3 Try.underlying3 (hval 1 27 v1 rfl rfl) h1
  refine (fnExactNarrowerBand_walk W hx0 hx1).mono fun e W' ⟨he, hb⟩ => ?_
  subst he
  exact ⟨_, rfl, law_post laidOut_ (by kernel_rfl) rfl (by kernel_rfl) Try.underlying4 hW' rfl hb⟩

theorem fnExactNarrowerBand_holds : Rows.FnExactNarrowerBandSaid :=
  OpenClaim.holds_of_wide 9 Try.f9 rfl rfl rfl rfl rfl rfl rfl ⟨rfl, rfl, rfl, rfl, rfl⟩ rfl rfl rfl rfl rfl (by kernel_rfl) Try.func9 (by kernel_rfl)
    (of_decide_eq_true (by kernel_rfl)) (by unfold Func.isWrapper; rw [if_neg (of_decide_eq_false (by kernel_rfl))]; exact ⟨rfl, rfl⟩)
    (fun os started H enc _ => fnExactNarrowerBand_lifted os started H enc)
#print axioms fnExactNarrowerBand_holds

end Go.Proofs.Ytmhiohijpnmcpaa
