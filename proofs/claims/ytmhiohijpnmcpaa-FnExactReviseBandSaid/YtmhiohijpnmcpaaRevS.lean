/-
  The contract of ReviseBand, the reference's.
-/
import Derived.Test.YtmhiohijpnmcpaaRevC
import Derived.Test.YtmhiohijpnmcpaaCopyT
import Derived.Test.YtmhiohijpnmcpaaForeG
import Derived.Test.YtmhiohijpnmcpaaForeS
import Derived.Deep.RegionLaw
namespace Go.Proofs.Ytmhiohijpnmcpaa
open Go.RowKit

set_option maxHeartbeats 16000000 in
theorem specReviseBand_any (m : Int) (A A' : Option Addr) (c c' : Nat) (ps : List Part) (ss : List Surge) (t x y : Int) (w : World) (hr : Rd w w.heap.size Part.at_ 3 A ps) (hr' : Rd w w.heap.size Surge.at_ 3 A' ss)
    (hwf : ∀ p ∈ ps, p.wf) (hlen : ps.length ≤ 1048576) (hlen' : ss.length ≤ 1048576) :
    Calls Try.prog 27 #[.agg #[.int .i64 m, .slice A ps.length c, .slice A' ss.length c'], .int .i64 t, .int .i64 x, .int .i64 y] w (ResRev m ps ss t x y w) := by
  obtain ⟨wa, hwa⟩ : ∃ wa, wa = (w.alloc (.cells #[.int .i64 m, .slice A ps.length c, .slice A' ss.length c'] 35)).alloc (.cells #[.int .i64 0, .slice none 0 0, .slice none 0 0] 35) := ⟨_, rfl⟩
  obtain ⟨br, hbr⟩ : ∃ br, br = w.heap.size + 1 := ⟨_, rfl⟩
  have hB0 : Below w.heap.size w wa := by rw [hwa]; exact ((Below.refl _ _).alloc (Nat.le_refl _) _).alloc (by simp) _
  have hk0 : Blk wa w.heap.size 35 #[.int .i64 m, .slice A ps.length c, .slice A' ss.length c'] := by rw [hwa]; exact (Blk.new _ _ _).alloc _
  have hl0 : Blk wa br 35 #[.int .i64 0, .slice none 0 0, .slice none 0 0] := by rw [hwa, hbr]; exact Blk.new' _ _ (by simp)
  have HWA := Lib.hid hwa
  have hwbr : w.heap.size < br := by omega
  have HBR := Lib.hid hbr
  have RR : Hid (∀ W, Below w.heap.size w W → Rd W W.heap.size Part.at_ 3 A ps) := Lib.hid fun W h => (hr.below h).more h.size
  have RR' : Hid (∀ W, Below w.heap.size w W → Rd W W.heap.size Surge.at_ 3 A' ss) := Lib.hid fun W h => (hr'.below h).more h.size
  have HR' := Lib.hid hr'
  have HWF := Lib.hid hwf
  have HCA : Hid (∀ W, Below w.heap.size w W → Calls Try.prog 15 #[.agg #[.int .i64 m, .slice A ps.length c, .slice A' ss.length c']] W fun e w' => e = .returned (.bool (foreOk m ps ss)) ∧ Below W.heap.size W w') := Lib.hid fun W h => specForecastOk_any _ _ _ _ _ _ _ _ (RR.out W h) (RR'.out W h) hwf hlen hlen'
  clear hwa hbr hr hr' hwf
  have c0 := hk0.cell 0
  have c1 := hk0.cell 1
  have c2 := hk0.cell 2
  go_enter Try.func27, Try.ntmps27
  go_wp2_with fail
  rw [← HWA.out, ← HBR.out]
  refine (HCA.out _ hB0).mono ?_
  rintro e w1 ⟨rfl, hb1⟩
  have hB1 := hB0.trans (hb1.mono hB0.size)
  have hk1 := hk0.next hb1
  have hl1 := hl0.next hb1
  have r0 := hl1.cell 0
  have r1 := hl1.cell 1
  have r2 := hl1.cell 2
  have g0 := hl1.frozen 0
  have g1 := hl1.frozen 1
  have g2 := hl1.frozen 2
  have hlr := hl1.lt
  have HB1 := Lib.hid hB1
  have HBW : Hid (∀ W, Below w.heap.size w W → Below w.heap.size w (((W.setCell ⟨br, 0, none⟩ (.int .i64 0)).setCell ⟨br, 1, none⟩ (.slice none 0 0)).setCell ⟨br, 2, none⟩ (.slice none 0 0))) := Lib.hid fun W h => ((h.setCell (by show w.heap.size ≤ br; omega) _).setCell (by show w.heap.size ≤ br; omega) _).setCell (by show w.heap.size ≤ br; omega) _
  clear hk0 hl0 hb1 c0 c1 c2 hB0 hB1
  cases h1 : foreOk m ps ss
  · have HNO : Hid (revC m ps ss t x y = false) := Lib.hid (by simp [revC, surgeC, h1])
    go_wp2_with fail
    refine bodyPost_ret (v := .tuple #[.agg #[.int .i64 0, .slice none 0 0, .slice none 0 0], .bool false]) ?_ rfl ?_
    · simp [results, Try.results27, go_sem, r0, r1, r2]
    · exact ResRev.no HNO.out (HBW.out _ HB1.out)
  cases h2 : inB t 0 2880
  · have HNO : Hid (revC m ps ss t x y = false) := Lib.hid (by simp [revC, surgeC, h1, h2])
    go_wp2_with (go_at_call 49; refine (l01In_any _ _ _ _).mono ?_; rintro e w' ⟨rfl, rfl⟩)
    refine bodyPost_ret (v := .tuple #[.agg #[.int .i64 0, .slice none 0 0, .slice none 0 0], .bool false]) ?_ rfl ?_
    · simp [results, Try.results27, go_sem, r0, r1, r2]
    · exact ResRev.no HNO.out (HBW.out _ HB1.out)
  have HRC : Hid (revC m ps ss t x y = foreOk m ps (revL ss t x y)) := Lib.hid (by simp [revC, surgeC, h1, h2])
  have HOK := Lib.hid h1
  have HT := Lib.hid (inB_true h2)
  have hls := foreOk_len h1
  have c0 := hk1.cell 0
  have c1 := hk1.cell 1
  have c2 := hk1.cell 2
  have h2' := h2
  clear h1
  go_wp2_with (go_at_call 49; refine (l01In_any _ _ _ _).mono ?_; rintro e w' ⟨rfl, rfl⟩)
  obtain ⟨i0, hi, hz0, hz1, hz2⟩ := info_parts infoSurgeA
  obtain ⟨g, off, rfl, hg, hc⟩ := HR'.out (by omega)
  have HC := Lib.hid hc
  have HK1 := Lib.hid hk1
  have HL1 := Lib.hid hl1
  have hls1 := hls.1
  have hls2 := hls.2
  clear hc hk1 hl1 hls r0 r1 r2 g0 g1 g2
  refine (specCopyTide_any m A c ps _ (RR.out _ HB1.out) hlen).mono ?_
  rintro e w2 ⟨P, cp, rfl, hslp, hb2⟩
  have hB2 := HB1.out.trans (hb2.mono HB1.out.size)
  have hk2 := HK1.out.next hb2
  have hl2 := HL1.out.next hb2
  obtain ⟨bt, hbt⟩ : ∃ bt, bt = w2.heap.size := ⟨_, rfl⟩
  obtain ⟨wb, hwb⟩ : ∃ wb, wb = w2.alloc (.cells #[.int .i64 m, .slice P ps.length cp, .slice none 0 0] 35) := ⟨_, rfl⟩
  have hBb : Below w2.heap.size w2 wb := by rw [hwb]; exact (Below.refl _ _).alloc (Nat.le_refl _) _
  have hkb : Blk wb bt 35 #[.int .i64 m, .slice P ps.length cp, .slice none 0 0] := by rw [hwb, hbt]; exact Blk.new _ _ _
  have hk3 := hk2.next hBb
  have hB3 := hB2.trans (hBb.mono hB2.size)
  have hbrl : br < bt := by have := hl2.lt; omega
  have hwl : w.heap.size < bt := by omega
  have HSLP := Lib.hid (show Sl w2 (br + 1) bt P 91 Part.at_ 3 ps by rw [hbt]; exact hslp.mono (by omega) (Nat.le_refl _))
  have HL2 := Lib.hid hl2
  have HBB := Lib.hid (show Below bt w2 wb by rw [hbt]; exact hBb)
  have HB3 := Lib.hid hB3
  have HK3 := Lib.hid hk3
  have HWB := Lib.hid hwb
  have HBT := Lib.hid hbt
  have c0 := hk2.cell 0
  have c1 := hk2.cell 1
  have c2 := hk2.cell 2
  have hlw2 : w.heap.size < w2.heap.size := hk2.lt
  clear hwb hbt hl2 hslp hb2 hBb hB3 hk3
  go_wp2_with fail
  rw [← HWB.out, ← HBT.out]
  refine (specSurge_any m A (some ⟨g, off, none⟩) c c' ps ss t wb (RR'.out wb HB3.out) hlen' hls1).mono ?_
  rintro e w3 ⟨rfl, hb3⟩
  obtain ⟨sv, hsv⟩ : ∃ sv, sv = surgeV ss t := ⟨_, rfl⟩
  have HSV := Lib.hid hsv
  rw [← hsv]
  obtain ⟨ba, hba⟩ : ∃ ba, ba = w3.heap.size := ⟨_, rfl⟩
  obtain ⟨wc, hwc⟩ : ∃ wc, wc = w3.alloc (.cells #[.int .i64 sv.frm, .int .i64 sv.low, .int .i64 sv.high] 66) := ⟨_, rfl⟩
  have hBc' : Below w3.heap.size w3 wc := by rw [hwc]; exact (Below.refl _ _).alloc (Nat.le_refl _) _
  have hBc : Below wb.heap.size wb wc := hb3.trans (hBc'.mono hb3.size)
  have hkc : Blk wc ba 66 #[.int .i64 sv.frm, .int .i64 sv.low, .int .i64 sv.high] := by rw [hwc, hba]; exact Blk.new _ _ _
  have hk3 := HK3.out.next hb3
  have hbl := hkb.lt
  have hkbc := hkb.next hBc
  have hbtba : bt < ba := by have := hb3.size; omega
  obtain ⟨base, hbase⟩ : ∃ base, base = wc.heap.size := ⟨_, rfl⟩
  have hbab : ba < base := by rw [hbase]; exact hkc.lt
  have HBC := Lib.hid (show Below bt w2 wc from HBB.out.trans (hBc.mono (by omega)))
  have HKB := Lib.hid hkbc
  have HKC := Lib.hid hkc
  have HWC := Lib.hid hwc
  have HBA := Lib.hid hba
  have HBASE := Lib.hid hbase
  have HTOW : Hid (∀ W, Below bt w2 W → Below w.heap.size w W) := Lib.hid fun W h => hB2.trans (h.mono (by omega))
  have HKW : Hid (∀ W, Below bt w2 W → Blk W w.heap.size 35 #[.int .i64 m, .slice A ps.length c, .slice (some ⟨g, off, none⟩) ss.length c']) := Lib.hid fun W h => hk2.below h (by omega)
  have d0 := hk3.cell 0
  have d1 := hk3.cell 1
  have d2 := hk3.cell 2
  have hlw3 : w.heap.size < w3.heap.size := hk3.lt
  clear hwc hba hbase hsv hkb hk2 hk3 hkbc hkc hBc hBc' hb3 c0 c1 c2 hB2
  go_wp2_with fail
  rw [← HWC.out, ← HBA.out]
  clear d0 d1 d2
  go_loopw [35] (fun i wr => ∃ (k : Nat) (v : Value), k ≤ ss.length ∧ i = .int .i64 k ∧ wr.ownsRow base 66 3 v ((ss.take k).filter fun q => decide (q.frm < t)).length (flat Surge.at_ 3 ((ss.take k).filter fun q => decide (q.frm < t))) ∧ Blk wr bt 35 #[.int .i64 m, .slice P ps.length cp, v] ∧ Blk wr ba 66 #[.int .i64 sv.frm, .int .i64 sv.low, .int .i64 sv.high] ∧ Below bt w2 wr ∧ base ≤ wr.heap.size) (fun i _ => ss.length - (intOf i).toNat)
  case atStart => exact ⟨0, .slice none 0 0, Nat.zero_le _, rfl, World.ownsRow_nil _ _ _ _, HKB.out, HKC.out, HBC.out, Nat.le_of_eq HBASE.out⟩
  case round =>
    obtain ⟨k, v, hk, rfl, hown, hkb, hka, hbel, hs⟩ := hrel
    by_cases hlt : k < ss.length
    · obtain ⟨p, hp⟩ : ∃ p, ss[k]? = some p := ⟨_, List.getElem?_eq_getElem hlt⟩
      have hBr := HTOW.out _ hbel
      have s0 := (hBr.cell (p := ⟨g, off + k * 3 + 0, none⟩) hg).trans (HC.out k p hp 0 (by omega))
      have s1 := (hBr.cell (p := ⟨g, off + k * 3 + 1, none⟩) hg).trans (HC.out k p hp 1 (by omega))
      have s2 := (hBr.cell (p := ⟨g, off + k * 3 + 2, none⟩) hg).trans (HC.out k p hp 2 (by omega))
      simp only [Surge.at_, Nat.add_zero] at s0 s1 s2
      have HP := Lib.hid hp
      have hk0 : (0 : Int) ≤ (k : Int) := Int.natCast_nonneg _
      have hk1 : (k : Int) < (ss.length : Int) := by omega
      have HKA := Lib.hid hka
      have HBE := Lib.hid hbel
      obtain ⟨acc, hacc⟩ : ∃ acc, acc = (ss.take k).filter fun q => decide (q.frm < t) := ⟨_, rfl⟩
      rw [← hacc] at hown
      have hal : acc.length ≤ 6 := by
        have h1 := List.length_filter_le (fun q : Surge => decide (q.frm < t)) (ss.take k)
        rw [← hacc, List.length_take] at h1
        omega
      have HACC := Lib.hid hacc
      have HOW := Lib.hid hown
      have e2 := hkb.cell 2
      have hbl1 := hkb.lt
      have HKBR := Lib.hid hkb
      obtain ⟨x0, x1, x2⟩ := p
      dsimp only at s0 s1 s2
      clear hp hka hbel hacc hown hBr hkb
      by_cases hle : x0 < t
      · have HX := Lib.hid (filt_yes (f := fun q : Surge => decide (q.frm < t)) HP.out (decide_eq_true hle))
        go_wp2_with (at_builtin; refine wpAppendSurge rfl _ _ rfl base v acc rfl ((HOW.out.alloc _).alloc _) (wr.heap.size + 1) rfl x0 x1 x2 (Blk.new' _ _ (by simp)) (by omega) (by simp; omega) ?_)
        intro gg cap w6 hown6 hbn6
        have hk6 := ((HKBR.out.alloc (.cells #[.int .i64 x0, .int .i64 x1, .int .i64 x2] 66)).alloc (.cells #[.int .i64 x0, .int .i64 x1, .int .i64 x2] 66)).below hbn6 (by omega)
        have HKA6 := Lib.hid (((HKA.out.alloc (.cells #[.int .i64 x0, .int .i64 x1, .int .i64 x2] 66)).alloc (.cells #[.int .i64 x0, .int .i64 x1, .int .i64 x2] 66)).below hbn6 hbab)
        have HB6 := Lib.hid (((HBE.out.alloc (by omega) (.cells #[.int .i64 x0, .int .i64 x1, .int .i64 x2] 66)).alloc (by simp; omega) (.cells #[.int .i64 x0, .int .i64 x1, .int .i64 x2] 66)).trans (hbn6.mono (by omega)))
        have hs6 : base ≤ w6.heap.size := Nat.le_trans (by simp; omega) hbn6.size
        have f2 := hk6.frozen 2
        have d2 := hk6.cell 2
        have hl6 := hk6.lt
        have HK6 := Lib.hid hk6
        have HO6 := Lib.hid hown6
        clear hk6 hown6 hbn6
        go_wp2_with fail
        go_roundw
        case rel => exact ⟨k + 1, .slice (some ⟨gg, 0, none⟩) (acc.length + 1) cap, by omega, by go_num, by rw [HX.out, ← HACC.out, List.length_append]; exact ownsRow_setCell_below HO6.out (a := ⟨bt, 2, none⟩) (by show bt < base; omega) _, HK6.out.set_ 2 _, HKA6.out.far (by show ba ≠ bt; omega) _, HB6.out.setCell (Nat.le_refl _) _, by simp [World.setCell]; omega⟩
        case measure => simp [intOf]; omega
      · have HX := Lib.hid (filt_no (f := fun q : Surge => decide (q.frm < t)) HP.out (decide_eq_false hle))
        go_wp2_with fail
        go_roundw
        case rel => exact ⟨k + 1, v, by omega, by go_num, by rw [HX.out, ← HACC.out]; exact HOW.out.alloc _, HKBR.out.alloc _, HKA.out.alloc _, HBE.out.alloc (by omega) _, by simp; omega⟩
        case measure => simp [intOf]; omega
    · have hk' : k = ss.length := by omega
      subst hk'
      rw [List.take_length] at hown
      obtain ⟨acc, hacc⟩ : ∃ acc, acc = ss.filter fun q => decide (q.frm < t) := ⟨_, rfl⟩
      rw [← hacc] at hown
      have hal : acc.length ≤ 6 := by
        have h1 := List.length_filter_le (fun q : Surge => decide (q.frm < t)) ss
        rw [← hacc] at h1
        omega
      have HACC := Lib.hid hacc
      have hk1 : ¬ (ss.length : Int) < (ss.length : Int) := Int.lt_irrefl _
      have e0 := hka.cell 0
      have g0 := hka.frozen 0
      have hal2 := hka.lt
      have hbl1 := hkb.lt
      obtain ⟨wd, hwd⟩ : ∃ wd, wd = wr.setCell ⟨ba, 0, none⟩ (.int .i64 t) := ⟨_, rfl⟩
      have hsd : wd.heap.size = wr.heap.size := by rw [hwd]; simp [World.setCell]
      have hkad : Blk wd ba 66 #[.int .i64 t, .int .i64 sv.low, .int .i64 sv.high] := by rw [hwd]; exact hka.set_ 0 _
      have hkbd : Blk wd bt 35 #[.int .i64 m, .slice P ps.length cp, v] := by rw [hwd]; exact hkb.far (by show bt ≠ ba; omega) _
      have HOWD := Lib.hid (show wd.ownsRow base 66 3 v acc.length (flat Surge.at_ 3 acc) by rw [hwd]; exact ownsRow_setCell_below hown (a := ⟨ba, 0, none⟩) (by show ba < base; omega) _)
      have HBD := Lib.hid (show Below bt w2 wd by rw [hwd]; exact hbel.setCell (by show bt ≤ ba; omega) _)
      have hsd2 : base ≤ wd.heap.size := by omega
      have HWD := Lib.hid hwd
      have HSD := Lib.hid hsd
      clear hown hacc hka hkb hbel hwd hsd hs
      have q0 := hkad.cell 0
      have q1 := hkad.cell 1
      have q2 := hkad.cell 2
      have p2 := hkbd.cell 2
      have hald := hkad.lt
      have hbld := hkbd.lt
      have HKAD := Lib.hid hkad
      have HKBD := Lib.hid hkbd
      obtain ⟨mx, hmx⟩ : ∃ mx, mx = max sv.low x := ⟨_, rfl⟩
      obtain ⟨mn, hmn⟩ : ∃ mn, mn = min sv.high y := ⟨_, rfl⟩
      have HCUT := Lib.hid (l03Cut_any ⟨t, sv.low, sv.high⟩ x y wd.drew)
      dsimp only at HCUT
      rw [← hmx, ← hmn] at HCUT
      have HMX := Lib.hid hmx
      have HMN := Lib.hid hmn
      clear hkad hkbd hmx hmn
      go_wp2_with fail
      rw [← HWD.out]
      clear e0 g0
      go_region_law (first
        | (go_simp; go_at_call 65; refine HCUT.out.mono ?_; rintro e w4 ⟨rfl, hb4⟩; have hown4 := ownsRow_out (show wd.drew.ownsRow _ _ _ _ _ _ from HOWD.out) (Out.of_below 0 0 hb4) (Nat.zero_le _); have hblk4 := (show Blk wd.drew _ _ _ from HKBD.out).next hb4; have d2 := hblk4.cell 2; have hl4 := hblk4.lt; have hs4 : base ≤ w4.heap.size := Nat.le_trans hsd2 hb4.size)
        | (refine step_append_lies _ rfl (.tmp 53) (.tmp 58) 33 rfl base 66 i0 _ 3 24 Try.underlying33 hi hz0 hz1 hz2 rfl (by decide) v acc.length (flat Surge.at_ 3 acc) (by simp [Act.eval]) (hown4.alloc _) ⟨w4.heap.size, 0, none⟩ 1 1 [.int .i64 t, .int .i64 mx, .int .i64 mn] (by simp [Act.eval]) rfl (World.news_of_block (cs := #[.int .i64 t, .int .i64 mx, .int .i64 mn]) (heap_alloc_new w4 _)) (by simp [Value.oneCell']) (by omega) (by unfold maxLen; omega) (by omega) (by simp; omega) (w4.heap.size + 1) (by simp) ?_; intro g6 cap6 w6 hown6 hgrow6 hat6 hlt6; have hb6 : Below base w4 w6 := ((Below.refl base w4).alloc hs4 _).grown hgrow6 (by simp; omega) (fun q hq => (hown4.lt q hq).1); have hk6 := hblk4.below hb6 (by omega); have f6 := hk6.frozen 2; have d6 := hk6.cell 2; have hl6 := hk6.lt))
      all_goals
        obtain ⟨w7, hw7⟩ : ∃ w7, w7 = w6.setCell ⟨bt, 2, none⟩ (.slice (some ⟨g6, 0, none⟩) (acc.length + 1) cap6) := ⟨_, rfl⟩
        have hB46 : Below bt w2 w6 := ((HBD.out.drew).trans (hb4.mono (by show bt ≤ wd.heap.size; omega))).trans (hb6.mono (by omega))
        have hB7 : Below bt w2 w7 := by rw [hw7]; exact hB46.setCell (Nat.le_refl _) _
        have hk7 : Blk w7 bt 35 #[.int .i64 m, .slice P ps.length cp, .slice (some ⟨g6, 0, none⟩) (acc.length + 1) cap6] := by rw [hw7]; exact hk6.set_ 2 _
        have ho7 : w7.ownsRow base 66 3 (.slice (some ⟨g6, 0, none⟩) (acc.length + 1) cap6) (acc.length + 1) (flat Surge.at_ 3 acc ++ [.int .i64 t, .int .i64 mx, .int .i64 mn]) := by rw [hw7]; exact ownsRow_setCell_below hown6 (a := ⟨bt, 2, none⟩) (by show bt < base; omega) _
        obtain ⟨pre, hpre⟩ : ∃ pre, pre = acc ++ [cutS sv t x y] := ⟨_, rfl⟩
        have hprel : pre.length ≤ 7 := by rw [hpre, List.length_append]; simp; omega
        have HO7 := Lib.hid (show w7.ownsRow base 66 3 (.slice (some ⟨g6, 0, none⟩) (acc.length + 1) cap6) pre.length (flat Surge.at_ 3 pre) by
          rw [hpre, List.length_append, flat_snoc]
          unfold cutS
          rw [← HMX.out, ← HMN.out]
          exact ho7)
        have hs7 : base ≤ w7.heap.size := by rw [hw7]; simp [World.setCell]; exact Nat.le_trans hs4 hb6.size
        have hkw := HKW.out _ hB46
        have a2 := hkw.cell 2
        have hlw6 : w.heap.size < w6.heap.size := hkw.lt
        have hne : ¬ w.heap.size = bt := by omega
        have HPRE := Lib.hid hpre
        have HW7 := Lib.hid hw7
        have HB7 := Lib.hid hB7
        have HK7 := Lib.hid hk7
        clear hw7 hB46 hB7 hk7 ho7 hpre hkw hk6 hown6 hgrow6 hb6 hblk4 hown4 hb4 d2 q0 q1 q2 p2
        go_wp2_with fail
        rw [← HW7.out]
        clear f6 d6 a2
        go_loopw [64] (fun i wr => ∃ (k : Nat) (v : Value), k ≤ ss.length ∧ i = .int .i64 k ∧ wr.ownsRow base 66 3 v (pre ++ (ss.take k).filter fun q => decide (t < q.frm)).length (flat Surge.at_ 3 (pre ++ (ss.take k).filter fun q => decide (t < q.frm))) ∧ Blk wr bt 35 #[.int .i64 m, .slice P ps.length cp, v] ∧ Below bt w2 wr ∧ base ≤ wr.heap.size) (fun i _ => ss.length - (intOf i).toNat)
        case atStart => exact ⟨0, .slice (some ⟨g6, 0, none⟩) (acc.length + 1) cap6, Nat.zero_le _, rfl, by simpa using HO7.out, HK7.out, HB7.out, hs7⟩
        case round =>
          clear HO7 HK7 HB7 HOWD HBD HKAD HKBD
          obtain ⟨k, v, hk, rfl, hown, hkb, hbel, hs⟩ := hrel
          by_cases hlt : k < ss.length
          · obtain ⟨p, hp⟩ : ∃ p, ss[k]? = some p := ⟨_, List.getElem?_eq_getElem hlt⟩
            have hBr := HTOW.out _ hbel
            have s0 := (hBr.cell (p := ⟨g, off + k * 3 + 0, none⟩) hg).trans (HC.out k p hp 0 (by omega))
            have s1 := (hBr.cell (p := ⟨g, off + k * 3 + 1, none⟩) hg).trans (HC.out k p hp 1 (by omega))
            have s2 := (hBr.cell (p := ⟨g, off + k * 3 + 2, none⟩) hg).trans (HC.out k p hp 2 (by omega))
            simp only [Surge.at_, Nat.add_zero] at s0 s1 s2
            have HP := Lib.hid hp
            have hk0 : (0 : Int) ≤ (k : Int) := Int.natCast_nonneg _
            have hk1 : (k : Int) < (ss.length : Int) := by omega
            have HBE := Lib.hid hbel
            obtain ⟨acd, hacd⟩ : ∃ acd, acd = pre ++ (ss.take k).filter fun q => decide (t < q.frm) := ⟨_, rfl⟩
            rw [← hacd] at hown
            have hal : acd.length ≤ 13 := by
              have h1 := List.length_filter_le (fun q : Surge => decide (t < q.frm)) (ss.take k)
              rw [List.length_take] at h1
              rw [hacd, List.length_append]
              omega
            have HACC := Lib.hid hacd
            have HOW := Lib.hid hown
            have e2 := hkb.cell 2
            have hbl1 := hkb.lt
            have HKBR := Lib.hid hkb
            obtain ⟨x0, x1, x2⟩ := p
            dsimp only at s0 s1 s2
            clear hp hbel hacd hown hBr hkb
            by_cases hle : t < x0
            · have HX := Lib.hid (filt_yes (f := fun q : Surge => decide (t < q.frm)) HP.out (decide_eq_true hle))
              go_wp2_with (at_builtin; refine wpAppendSurge rfl _ _ rfl base v acd rfl ((HOW.out.alloc _).alloc _) (wr.heap.size + 1) rfl x0 x1 x2 (Blk.new' _ _ (by simp)) (by omega) (by simp; omega) ?_)
              intro gg cap wz hownz hbnz
              have hkz := ((HKBR.out.alloc (.cells #[.int .i64 x0, .int .i64 x1, .int .i64 x2] 66)).alloc (.cells #[.int .i64 x0, .int .i64 x1, .int .i64 x2] 66)).below hbnz (by omega)
              have HBZ := Lib.hid (((HBE.out.alloc (by omega) (.cells #[.int .i64 x0, .int .i64 x1, .int .i64 x2] 66)).alloc (by simp; omega) (.cells #[.int .i64 x0, .int .i64 x1, .int .i64 x2] 66)).trans (hbnz.mono (by omega)))
              have hsz : base ≤ wz.heap.size := Nat.le_trans (by simp; omega) hbnz.size
              have fz := hkz.frozen 2
              have dz := hkz.cell 2
              have hlz := hkz.lt
              have HKZ := Lib.hid hkz
              have HOZ := Lib.hid hownz
              clear hkz hownz hbnz
              go_wp2_with fail
              go_roundw
              case rel => exact ⟨k + 1, .slice (some ⟨gg, 0, none⟩) (acd.length + 1) cap, by omega, by go_num, by rw [HX.out, ← List.append_assoc, ← HACC.out, List.length_append]; exact ownsRow_setCell_below HOZ.out (a := ⟨bt, 2, none⟩) (by show bt < base; omega) _, HKZ.out.set_ 2 _, HBZ.out.setCell (Nat.le_refl _) _, by simp [World.setCell]; omega⟩
              case measure => simp [intOf]; omega
            · have HX := Lib.hid (filt_no (f := fun q : Surge => decide (t < q.frm)) HP.out (decide_eq_false hle))
              go_wp2_with fail
              go_roundw
              case rel => exact ⟨k + 1, v, by omega, by go_num, by rw [HX.out, ← HACC.out]; exact HOW.out.alloc _, HKBR.out.alloc _, HBE.out.alloc (by omega) _, by simp; omega⟩
              case measure => simp [intOf]; omega
          · have hk' : k = ss.length := by omega
            subst hk'
            have hrl := revL_len ss t x y
            have HREV := Lib.hid (show pre ++ (ss.take ss.length).filter (fun q => decide (t < q.frm)) = revL ss t x y by
              rw [List.take_length, HPRE.out, HACC.out, HSV.out]
              unfold revL
              rw [List.append_assoc]
              rfl)
            rw [HREV.out] at hown
            obtain ⟨L, hL⟩ : ∃ L, L = revL ss t x y := ⟨_, rfl⟩
            rw [← hL] at hown hrl
            obtain ⟨B2, d, rfl, hsls⟩ := Sl.of_own hown
            have hslp : Sl wr (br + 1) bt P 91 Part.at_ 3 ps := HSLP.out.next (by rw [← HBT.out]; exact hbel)
            have HLr := Lib.hid (HL2.out.below hbel (by omega))
            have HLL := Lib.hid hL
            have hll : L.length ≤ 1048576 := by omega
            have HOKC := Lib.hid (specForecastOk_any m P B2 cp d ps L wr hslp.rd hsls.rd HWF.out hlen hll)
            have hk1 : ¬ (ss.length : Int) < (ss.length : Int) := Int.lt_irrefl _
            have e0 := hkb.cell 0
            have e1 := hkb.cell 1
            have e2 := hkb.cell 2
            have HKB9 := Lib.hid hkb
            have HSP := Lib.hid hslp
            have HSS := Lib.hid hsls
            have HBEL := Lib.hid (HTOW.out _ hbel)
            clear hown hsls hslp hkb hbel hL
            go_wp2_with fail
            refine HOKC.out.mono ?_
            rintro e w9 ⟨rfl, hb9⟩
            have hr9 := HLr.out.next hb9
            have hk9 := HKB9.out.next hb9
            have HSP9 := Lib.hid (HSP.out.next hb9)
            have HSS9 := Lib.hid (HSS.out.next hb9)
            have HB9 := Lib.hid (HBEL.out.trans (hb9.mono HBEL.out.size))
            have hz9 := hb9.size
            have q0 := hk9.cell 0
            have q1 := hk9.cell 1
            have q2 := hk9.cell 2
            have r0 := hr9.cell 0
            have r1 := hr9.cell 1
            have r2 := hr9.cell 2
            have g0 := hr9.frozen 0
            have g1 := hr9.frozen 1
            have g2 := hr9.frozen 2
            have hlr9 := hr9.lt
            clear e0 e1 e2 hb9 hk9 hr9
            cases hf : foreOk m ps L
            · have HNO : Hid (revC m ps ss t x y = false) := Lib.hid (by rw [HRC.out, ← HLL.out]; exact hf)
              go_wp2_with fail
              refine bodyPost_ret (v := .tuple #[.agg #[.int .i64 0, .slice none 0 0, .slice none 0 0], .bool false]) ?_ rfl ?_
              · simp [results, Try.results27, go_sem, r0, r1, r2]
              · exact ResRev.no HNO.out (HBW.out _ HB9.out)
            · have HYES : Hid (revC m ps ss t x y = true) := Lib.hid (by rw [HRC.out, ← HLL.out]; exact hf)
              go_wp2_with fail
              refine bodyPost_ret (v := .tuple #[.agg #[.int .i64 m, .slice P ps.length cp, .slice B2 L.length d], .bool true]) ?_ rfl ?_
              · simp [results, Try.results27, go_sem, r0, r1, r2]
              · have hL := HLL.out
                subst hL
                refine ResRev.yes HYES.out (((HB9.out.setCell (by show w.heap.size ≤ br; omega) _).setCell (by show w.heap.size ≤ br; omega) _).setCell (by show w.heap.size ≤ br; omega) _) ?_ ?_
                · exact (((HSP9.out.setCell (.inl (by show br < br + 1; omega)) _).setCell (.inl (by show br < br + 1; omega)) _).setCell (.inl (by show br < br + 1; omega)) _).mono (by omega) (by simp [World.setCell]; omega)
                · exact (((HSS9.out.setCell (.inl (by show br < base; omega)) _).setCell (.inl (by show br < base; omega)) _).setCell (.inl (by show br < base; omega)) _).mono (by omega) (by simp [World.setCell]; omega)

end Go.Proofs.Ytmhiohijpnmcpaa
