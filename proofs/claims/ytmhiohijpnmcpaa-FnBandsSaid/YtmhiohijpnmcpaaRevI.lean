/-
  The contract of ReviseBand, the program's.
-/
import Derived.Test.YtmhiohijpnmcpaaRevR
import Derived.Test.YtmhiohijpnmcpaaCopyT
import Derived.Test.YtmhiohijpnmcpaaCloneS
import Derived.Test.YtmhiohijpnmcpaaForeF
import Derived.Test.YtmhiohijpnmcpaaForeS
import Derived.Deep.CutRange
import Derived.Deep.RegionLaw
namespace Go.Proofs.Ytmhiohijpnmcpaa
open Go.RowKit

set_option maxRecDepth 20000 in
set_option maxHeartbeats 16000000 in
theorem implReviseBand_any (m : Int) (A A' : Option Addr) (c c' : Nat) (ps : List Part) (ss : List Surge) (t x y : Int) (w : World) (hr : Rd w w.heap.size Part.at_ 3 A ps) (hr' : Rd w w.heap.size Surge.at_ 3 A' ss)
    (hwf : ∀ p ∈ ps, p.wf) (hlen : ps.length ≤ 1048576) (hlen' : ss.length ≤ 1048576) (hcap : ss.length ≤ c') :
    Calls Try.prog 28 #[.agg #[.int .i64 m, .slice A ps.length c, .slice A' ss.length c'], .int .i64 t, .int .i64 x, .int .i64 y] w (ResRev m ps ss t x y w) := by
  obtain ⟨wa, hwa⟩ : ∃ wa, wa = (w.alloc (.cells #[.int .i64 m, .slice A ps.length c, .slice A' ss.length c'] 35)).alloc (.cells #[.int .i64 0, .slice none 0 0, .slice none 0 0] 35) := ⟨_, rfl⟩
  obtain ⟨br, hbr⟩ : ∃ br, br = w.heap.size + 1 := ⟨_, rfl⟩
  have hB0 : Below w.heap.size w wa := by rw [hwa]; exact ((Below.refl _ _).alloc (Nat.le_refl _) _).alloc (by simp) _
  have hk0 : Blk wa w.heap.size 35 #[.int .i64 m, .slice A ps.length c, .slice A' ss.length c'] := by rw [hwa]; exact (Blk.new _ _ _).alloc _
  have hl0 : Blk wa br 35 #[.int .i64 0, .slice none 0 0, .slice none 0 0] := by rw [hwa, hbr]; exact Blk.new' _ _ (by simp)
  have HWA := Lib.hid hwa
  have hwbr : w.heap.size < br := by omega
  have HBR := Lib.hid hbr
  have RR : Hid (∀ W, Below w.heap.size w W → Rd W W.heap.size Part.at_ 3 A ps) := Lib.hid fun W h => (hr.below h).more h.size
  have RR' : Hid (∀ W, Below w.heap.size w W → Rd W W.heap.size Surge.at_ 3 A' ss) := Lib.hid fun W h => (hr'.below h).more h.size
  have HR' := Lib.hid hr'
  have HWF := Lib.hid hwf
  have HCA : Hid (∀ W, Below w.heap.size w W → Calls Try.prog 17 #[.agg #[.int .i64 m, .slice A ps.length c, .slice A' ss.length c']] W fun e w' => e = .returned (.bool (foreOk m ps ss)) ∧ Below W.heap.size W w') := Lib.hid fun W h => implForecastOk_any _ _ _ _ _ _ _ _ (RR.out W h) (RR'.out W h) hwf hlen hlen'
  clear hwa hbr hr hr' hwf
  have c0 := hk0.cell 0
  have c1 := hk0.cell 1
  have c2 := hk0.cell 2
  go_enter Try.func28, Try.ntmps28
  go_wp2_with fail
  rw [← HWA.out, ← HBR.out]
  refine (HCA.out _ hB0).mono ?_
  rintro e w1 ⟨rfl, hb1⟩
  have hB1 := hB0.trans (hb1.mono hB0.size)
  have hk1 := hk0.next hb1
  have hl1 := hl0.next hb1
  have r0 := hl1.cell 0
  have r1 := hl1.cell 1
  have r2 := hl1.cell 2
  have g0 := hl1.frozen 0
  have g1 := hl1.frozen 1
  have g2 := hl1.frozen 2
  have hlr := hl1.lt
  have HB1 := Lib.hid hB1
  have HBW : Hid (∀ W, Below w.heap.size w W → Below w.heap.size w (((W.setCell ⟨br, 0, none⟩ (.int .i64 0)).setCell ⟨br, 1, none⟩ (.slice none 0 0)).setCell ⟨br, 2, none⟩ (.slice none 0 0))) := Lib.hid fun W h => ((h.setCell (by show w.heap.size ≤ br; omega) _).setCell (by show w.heap.size ≤ br; omega) _).setCell (by show w.heap.size ≤ br; omega) _
  clear hk0 hl0 hb1 c0 c1 c2 hB0 hB1
  cases h1 : foreOk m ps ss
  · have HNO : Hid (revC m ps ss t x y = false) := Lib.hid (by simp [revC, surgeC, h1])
    go_wp2_with fail
    refine bodyPost_ret (v := .tuple #[.agg #[.int .i64 0, .slice none 0 0, .slice none 0 0], .bool false]) ?_ rfl ?_
    · simp [results, Try.results28, go_sem, r0, r1, r2]
    · exact ResRev.no HNO.out (HBW.out _ HB1.out)
  cases h2 : inB t 0 2880
  · have HNO : Hid (revC m ps ss t x y = false) := Lib.hid (by simp [revC, surgeC, h1, h2])
    go_wp2_with (go_at_call 59; refine (isMinute_any _ _).mono ?_; rintro e w' ⟨rfl, rfl⟩)
    refine bodyPost_ret (v := .tuple #[.agg #[.int .i64 0, .slice none 0 0, .slice none 0 0], .bool false]) ?_ rfl ?_
    · simp [results, Try.results28, go_sem, r0, r1, r2]
    · exact ResRev.no HNO.out (HBW.out _ HB1.out)
  have HRC : Hid (revC m ps ss t x y = foreOk m ps (revL ss t x y)) := Lib.hid (by simp [revC, surgeC, h1, h2])
  have HOK := Lib.hid h1
  have HT := Lib.hid (inB_true h2)
  have hls := foreOk_len h1
  have c0 := hk1.cell 0
  have c1 := hk1.cell 1
  have c2 := hk1.cell 2
  obtain ⟨i0, hi, hz0, hz1, hz2⟩ := info_parts infoSurgeA
  obtain ⟨g, off, rfl, hg, hc⟩ := HR'.out (by omega)
  have HCS : Hid (∀ W, Below w.heap.size w W → Calls Try.prog 60 #[.agg #[.int .i64 m, .slice A ps.length c, .slice (some ⟨g, off, none⟩) ss.length c'], .int .i64 t] W fun e w' => e = .returned (.int .i64 (surgeIx ss t ss.length : Int)) ∧ Below W.heap.size W w') := Lib.hid fun W h => implSurge_any _ _ _ _ _ _ _ _ _ (RR'.out W h) hlen'
  have HC := Lib.hid hc
  have HK1 := Lib.hid hk1
  have HL1 := Lib.hid hl1
  have hls1 := hls.1
  have hls2 := hls.2
  clear hc hk1 hl1 hls r0 r1 r2 g0 g1 g2
  have h2' := h2
  go_wp2_with (go_at_call 59; refine (isMinute_any _ _).mono ?_; rintro e w' ⟨rfl, rfl⟩)
  refine (HCS.out _ HB1.out).mono ?_
  rintro e w2 ⟨rfl, hb2⟩
  have hixa := surgeIx_lt t hls1 (Nat.le_refl ss.length)
  obtain ⟨ka, hka2⟩ : ∃ ka, ka = surgeIx ss t ss.length := ⟨_, rfl⟩
  rw [← hka2] at hixa
  rw [← hka2]
  obtain ⟨p, hp⟩ : ∃ p, ss[ka]? = some p := ⟨_, List.getElem?_eq_getElem hixa⟩
  have HV1 := Lib.hid (surgeV_at hka2.symm hp)
  have HKA := Lib.hid hka2
  have HP := Lib.hid hp
  have hB2 := HB1.out.trans (hb2.mono HB1.out.size)
  have hk2 := HK1.out.next hb2
  have hl2 := HL1.out.next hb2
  have s0 := (hB2.cell (p := ⟨g, off + ka * 3 + 0, none⟩) hg).trans (HC.out ka p hp 0 (by omega))
  have s1 := (hB2.cell (p := ⟨g, off + ka * 3 + 1, none⟩) hg).trans (HC.out ka p hp 1 (by omega))
  have s2 := (hB2.cell (p := ⟨g, off + ka * 3 + 2, none⟩) hg).trans (HC.out ka p hp 2 (by omega))
  simp only [Surge.at_, Nat.add_zero] at s0 s1 s2
  obtain ⟨p0, p1, p2⟩ := p
  dsimp only at s0 s1 s2
  have c0 := hk2.cell 0
  have c1 := hk2.cell 1
  have c2 := hk2.cell 2
  have hka0 : (0 : Int) ≤ (ka : Int) := Int.natCast_nonneg _
  have hka1 : (ka : Int) < (ss.length : Int) := by omega
  obtain ⟨ba, hba⟩ : ∃ ba, ba = w2.heap.size := ⟨_, rfl⟩
  obtain ⟨wb, hwb⟩ : ∃ wb, wb = w2.alloc (.cells #[.int .i64 p0, .int .i64 p1, .int .i64 p2] 66) := ⟨_, rfl⟩
  have hBb : Below w2.heap.size w2 wb := by rw [hwb]; exact (Below.refl _ _).alloc (Nat.le_refl _) _
  have hkb : Blk wb ba 66 #[.int .i64 p0, .int .i64 p1, .int .i64 p2] := by rw [hwb, hba]; exact Blk.new _ _ _
  have hk3 := hk2.next hBb
  have hB3 := hB2.trans (hBb.mono hB2.size)
  have hbrl : br < ba := by have := hl2.lt; omega
  have hlw2 : w.heap.size < w2.heap.size := hk2.lt
  have hwx : w.heap.size < wb.heap.size := hk3.lt
  have HL3 := Lib.hid (hl2.next hBb)
  have HKB := Lib.hid hkb
  have hbal := hkb.lt
  have HB3 := Lib.hid hB3
  have HK3 := Lib.hid hk3
  have HWB := Lib.hid hwb
  have HBA := Lib.hid hba
  have d0 := hk3.cell 0
  have d1 := hk3.cell 1
  have d2 := hk3.cell 2
  have e1 : IntKind.i64.wrap ((ka : Int) + 1) = (ka : Int) + 1 := IntWalk.i64_in _ (by omega)
  have hs1 : (0 : Int) ≤ (ka : Int) + 1 := by omega
  have hs2 : (ka : Int) + 1 ≤ (c' : Int) := by omega
  have hs3 : (ka : Int) + 1 ≤ (ss.length : Int) := by omega
  have hs4 : ((ka : Int) + 1).toNat = ka + 1 := by omega
  have hs5 : ka + 1 ≤ c' := by omega
  clear hka2 hp hB2 hk2 hl2 hwb hba hBb hkb hk3 hB3 hb2
  go_wp2_with fail
  rw [← HWB.out, ← HBA.out]
  clear c0 c1 c2 s0 s1 s2
  have HCT : Hid (∀ W, Below w.heap.size w W → Calls Try.prog 66 #[.agg #[.int .i64 m, .slice A ps.length c]] W (ResTide m ps W)) := Lib.hid fun W h => implCopyTide_any _ _ _ _ _ (RR.out W h) hlen
  obtain ⟨pre, hpre⟩ : ∃ pre, pre = ss.take (ka + 1) := ⟨_, rfl⟩
  have hpl : pre.length = ka + 1 := by rw [hpre, List.length_take]; omega
  have HCL : Hid (∀ W, Below w.heap.size w W → Calls Try.prog 67 #[.slice (some ⟨g, off, none⟩) (ka + 1) c'] W fun e w' => ∃ v, e = .returned v ∧ w'.ownsRow W.heap.size 66 3 v pre.length (flat Surge.at_ 3 pre) ∧ Below W.heap.size W w') := Lib.hid fun W h => by
    have h1 := cloneSurge_any ⟨g, off, none⟩ c' pre W (by rw [hpre]; exact rd_take _ (RR'.out W h)) (by omega)
    rwa [hpl] at h1 ⊢
  have HPRE := Lib.hid hpre
  have HPL := Lib.hid hpl
  clear hpre hpl
  have hwxn : ¬ w.heap.size = wb.heap.size := Nat.ne_of_lt hwx
  have hwxm : ¬ wb.heap.size = w.heap.size := Nat.ne_of_gt hwx
  have B1 : Below w.heap.size w wb.drew := HB3.out.drew
  have HB1' := Lib.hid B1
  have HB2' : Hid (∀ o, Below w.heap.size w (wb.drew.alloc o)) := Lib.hid fun o => B1.alloc HB3.out.size o
  have HB2d : Hid (∀ o, Below w.heap.size w (wb.alloc o).drew) := Lib.hid fun o => (HB3.out.alloc HB3.out.size o).drew
  have HX1 : Hid (Below wb.heap.size wb wb.drew) := Lib.hid (Below.refl _ _).drew
  have HX2 : Hid (∀ o, Below wb.heap.size wb (wb.drew.alloc o)) := Lib.hid fun o => (Below.refl _ _).drew.alloc (Nat.le_refl _) o
  have HX2d : Hid (∀ o, Below wb.heap.size wb (wb.alloc o).drew) := Lib.hid fun o => ((Below.refl _ _).alloc (Nat.le_refl _) o).drew
  clear B1
  go_cut [12] from 30 to 40 (fun x wc => RevRel wb.heap.size wb m ps pre wc x)
  case first =>
    rename_i J K' hRJ hMK
    go_region_held3 (fun w' => w'.cell? ⟨w.heap.size, 0, none⟩ = some (.int .i64 m) ∧ w'.cell? ⟨w.heap.size, 1, none⟩ = some (.slice A ps.length c) ∧ w'.cell? ⟨w.heap.size, 2, none⟩ = some (.slice (some ⟨g, off, none⟩) ss.length c')) (go_keep)
      (first
        | (go_at_call 66; refine (HCT.out _ ?_).mono ?_; (first | exact HB1'.out | exact HB2d.out _ | exact HB2'.out _); rintro e w7 ⟨P, cp, rfl, hsl7, hb7⟩; have hX7 : Below wb.heap.size wb w7 := (by first | exact HX1.out.trans hb7 | exact (HX2d.out _).trans (hb7.mono (HX2d.out _).size) | exact (HX2.out _).trans (hb7.mono (HX2.out _).size)); have hcc7 : ∀ b o, b < wb.heap.size → w7.cell? ⟨b, o, none⟩ = wb.cell? ⟨b, o, none⟩ := (fun b o h => hX7.cell (p := ⟨b, o, none⟩) h); have HSL7 : Sl w7 wb.heap.size w7.heap.size P 91 Part.at_ 3 ps := hsl7.mono (by first | exact Nat.le_refl _ | (simp; done) | (simp; omega)) (Nat.le_refl _); (try have n7 : Blk w7 wb.heap.size 35 #[.int .i64 0, .slice none 0 0, .slice none 0 0] := (Blk.new wb.drew _ _).next hb7); (try have n70 := n7.cell 0); (try have n71 := n7.cell 1); (try have n72 := n7.cell 2); (try have n7f0 := n7.frozen 0); (try have n7f1 := n7.frozen 1); (try have n7f2 := n7.frozen 2); have hz7 := hX7.size; have hl7 : w.heap.size < w7.heap.size := Nat.lt_of_lt_of_le hwx hX7.size; have hl7n : ¬ w.heap.size = w7.heap.size := Nat.ne_of_lt hl7; have hl7m : ¬ w7.heap.size = w.heap.size := Nat.ne_of_gt hl7; have hW7 : Below w.heap.size w w7 := HB3.out.trans (hX7.mono HB3.out.size))
        | (go_at_call 67; refine (HCL.out _ ?_).mono ?_; (first | exact hW7 | exact hW7.alloc hW7.size _); rintro e w8 ⟨v8, rfl, hown8, hb8⟩; obtain ⟨Q, cq, rfl, _⟩ := Sl.of_own hown8; have hY8 : Below w7.heap.size w7 w8 := (by first | exact hb8 | exact ((Below.refl _ w7).alloc (Nat.le_refl _) _).trans (hb8.mono (by simp))); have hX8 : Below wb.heap.size wb w8 := hX7.trans (hY8.mono hX7.size); have hcc8 : ∀ b o, b < wb.heap.size → w8.cell? ⟨b, o, none⟩ = wb.cell? ⟨b, o, none⟩ := (fun b o h => hX8.cell (p := ⟨b, o, none⟩) h); have hsp8 : Sl w8 wb.heap.size w8.heap.size P 91 Part.at_ 3 ps := (HSL7.next hY8).mono (Nat.le_refl _) hY8.size; have hsq8 := ownsRow_more hown8 (show wb.heap.size ≤ _ by first | exact hX7.size | (simp; omega)); (try have m8 := n7.next hY8); (try have m8 : Blk w8 w7.heap.size 35 #[.int .i64 0, .slice none 0 0, .slice none 0 0] := (Blk.new w7 _ _).next hb8); (try have m80 := m8.cell 0); (try have m81 := m8.cell 1); (try have m82 := m8.cell 2); (try have m8f0 := m8.frozen 0); (try have m8f1 := m8.frozen 1); (try have m8f2 := m8.frozen 2); have hz8 := hX8.size; have hl8 : w.heap.size < w8.heap.size := Nat.lt_of_lt_of_le hwx hX8.size; have hl8n : ¬ w.heap.size = w8.heap.size := Nat.ne_of_lt hl8; have hl8m : ¬ w8.heap.size = w.heap.size := Nat.ne_of_gt hl8))
    · show K' _ _
      refine hMK _ _ ?_
      show J _ _
      refine hRJ _ _ ?_
      (repeat apply Exists.intro)
      refine ⟨?_, rfl⟩
      with_reducible exact rev_new hX8 hX8.size hsp8 hsq8
    · show K' _ _
      refine hMK _ _ ?_
      show J _ _
      refine hRJ _ _ ?_
      (repeat apply Exists.intro)
      refine ⟨?_, rfl⟩
      with_reducible exact rev_old hX8 hsp8 hsq8 m8 hX7.size
    · show K' _ _
      refine hMK _ _ ?_
      show J _ _
      refine hRJ _ _ ?_
      (repeat apply Exists.intro)
      refine ⟨?_, rfl⟩
      with_reducible exact rev_old hX8 hsp8 hsq8 m8 (Nat.le_refl _)
  case rest =>
    obtain ⟨bt, P, Q, cp, cq, rfl, hbt, hkb, hsp, hsq, hX9⟩ := hcut
    rename_i KR hKR
    refine hKR _ _ ?_
    clear hKR KR
    obtain ⟨wy, hwy⟩ : ∃ wy, wy = wc := ⟨_, rfl⟩
    subst hwy
    have hkay := HKB.out.below hX9 hbal
    have q0 := hkay.cell 0
    have q1 := hkay.cell 1
    have q2 := hkay.cell 2
    have hzy := hX9.size
    have t2 := hkb.cell 2
    have htl := hkb.lt
    have HKBY := Lib.hid hkb
    have HSPY := Lib.hid hsp
    have HSQY := Lib.hid hsq
    have HXY := Lib.hid hX9
    have hpl6 : pre.length ≤ 6 := by rw [HPL.out]; omega
    clear hkay hkb hsp hsq hX9
    go_upto_if 43 with fail
    go_cut [] from 40 to 49 (fun wc => RevRel2 wb.heap.size bt wb m ps (preL ss ka t) wc)
    case first =>
      by_cases hpt : p0 = t
      · have HPR := Lib.hid (show preL ss ka t = ss.take ka by unfold preL; rw [HP.out]; exact if_pos hpt)
        have HSP2 : Hid (pre = ss.take ka ++ [(⟨p0, p1, p2⟩ : Surge)]) := Lib.hid (by
          rw [HPRE.out]
          have h1 := (List.getElem?_eq_some_iff.1 HP.out).2
          rw [List.take_succ_eq_append_getElem hixa, h1])
        have hb : (p0 != t) = false := by simp [hpt]
        clear hpt
        go_wp2_with fail
        go_meet
        case rel => exact ⟨P, cp, _, ⟨p0, p1, p2⟩, HKBY.out, HSPY.out, by rw [HPR.out, ← HSP2.out]; exact HSQY.out, HXY.out⟩
      · have HPR := Lib.hid (show preL ss ka t = pre by unfold preL; rw [HP.out, HPRE.out]; exact if_neg hpt)
        have hb : (p0 != t) = true := by simp [hpt]
        clear hpt
        go_wp2_with (at_builtin; refine wpAppendSurgeG rfl _ _ rfl wb.heap.size _ pre rfl (HSQY.out.alloc _) wy.heap.size rfl 0 0 0 (Blk.new _ _ _) (by omega) (by simp; omega) ?_)
        intro gg cap w6 hown6 hbn6 hgr6
        have hkz := (HKBY.out.alloc (.cells #[.int .i64 0, .int .i64 0, .int .i64 0] 66)).own_grown (HSQY.out.alloc _) (by decide) hgr6
        have hsz := (HSPY.out.next ((Below.refl _ _).alloc (Nat.le_refl _) (.cells #[.int .i64 0, .int .i64 0, .int .i64 0] 66))).own_grown (HSQY.out.alloc _) (by decide) hgr6
        have HBZ := Lib.hid ((HXY.out.alloc hzy (.cells #[.int .i64 0, .int .i64 0, .int .i64 0] 66)).trans hbn6)
        have fz := hkz.frozen 2
        have dz := hkz.cell 2
        have hlz := hkz.lt
        have hz6 := hbn6.size
        simp at hz6
        have HKZ := Lib.hid hkz
        have HOZ := Lib.hid hown6
        have HSZ := Lib.hid hsz
        clear hkz hown6 hbn6 hgr6 hsz
        go_wp2_with fail
        go_meet
        case rel => exact ⟨P, cp, .slice (some ⟨gg, 0, none⟩) (pre.length + 1) cap, ⟨0, 0, 0⟩, HKZ.out.set_ 2 _, (HSZ.out.far_ HKZ.out (by decide) 2 _).mono (Nat.le_refl _) (by simp [World.setCell]; omega), by rw [HPR.out, List.length_append]; exact own_far HOZ.out HKZ.out (by decide) 2 _, HBZ.out.setCell (by show wb.heap.size ≤ bt; omega) _⟩
    case rest =>
      clear HKBY HSPY HSQY HXY q0 q1 q2 t2 htl hzy hpl6
      obtain ⟨P2, cp2, v, z, hkb, hsp, hown, hX⟩ := hcut
      obtain ⟨lst, hlst⟩ : ∃ lst, lst = preL ss ka t := ⟨_, rfl⟩
      have hll : lst.length ≤ 6 := by rw [hlst]; have := preL_len ss ka t; omega
      rw [← hlst] at hown
      have HLST := Lib.hid hlst
      obtain ⟨g8, cap8, cs8, rfl, hcap8, hg8, hgl8, hk8, hcs8, hset⟩ := ownS_last hown
      have hkac := HKB.out.below hX hbal
      have q1 := hkac.cell 1
      have q2 := hkac.cell 2
      have t2 := hkb.cell 2
      have htl := hkb.lt
      have hzc := hX.size
      have a0 : wc.cell? ⟨g8, lst.length * 3, none⟩ = some (cs8[lst.length * 3]'(by omega)) := (hk8.cell _).trans (Array.getElem?_eq_getElem _)
      have a1 : wc.cell? ⟨g8, lst.length * 3 + 1, none⟩ = some (cs8[lst.length * 3 + 1]'(by omega)) := (hk8.cell _).trans (Array.getElem?_eq_getElem _)
      have a2 : wc.cell? ⟨g8, lst.length * 3 + 2, none⟩ = some (cs8[lst.length * 3 + 2]'(by omega)) := (hk8.cell _).trans (Array.getElem?_eq_getElem _)
      have f0 := hk8.frozen (lst.length * 3)
      have f1 := hk8.frozen (lst.length * 3 + 1)
      have f2 := hk8.frozen (lst.length * 3 + 2)
      have eL : IntKind.i64.wrap (lst.length : Int) = (lst.length : Int) := IntWalk.i64_in _ (by omega)
      have eL2 : IntKind.i64.wrap ((lst.length : Int) + 1 - 1) = (lst.length : Int) := by rw [Int.add_sub_cancel]; exact eL
      have hn0 : (0 : Int) ≤ (lst.length : Int) := Int.natCast_nonneg _
      have hn1 : (lst.length : Int) < (lst.length : Int) + 1 := by omega
      have HCUTS : Hid (∀ X Y : Int, X = max p1 x → Y = min p2 y → (⟨t, X, Y⟩ : Surge) = cutS ⟨p0, p1, p2⟩ t x y) := Lib.hid fun X Y h1 h2 => by rw [h1, h2]; rfl
      have HK8 := Lib.hid hk8
      have HKBC := Lib.hid hkb
      have HSPC := Lib.hid hsp
      have HSET := Lib.hid hset
      have HXC := Lib.hid hX
      clear hlst hown hkac hk8 hkb hsp hset hX
      rename_i KR hKR
      refine hKR _ _ ?_
      clear hKR KR
      obtain ⟨wz, hwz⟩ : ∃ wz, wz = wc := ⟨_, rfl⟩
      subst hwz
      go_upto_region 8 with fail
      go_cut [] from 50 to 66 (fun wc => RevRel3 wb.heap.size bt wb m ps lst (cutS ⟨p0, p1, p2⟩ t x y) wc)
      case first =>
        by_cases ta : p1 < x <;> by_cases tb : y < p2
        all_goals
          go_wp2_with fail
          go_meet
          case rel => exact ⟨P2, cp2, _, ⟨t, _, _⟩, HCUTS.out _ _ (by omega) (by omega), ((HKBC.out.far (HKBC.out.other HK8.out (by decide)) _).far (HKBC.out.other HK8.out (by decide)) _).far (HKBC.out.other HK8.out (by decide)) _, (((HSPC.out.far_ HK8.out (by decide) _ _).far_ (HK8.out.set_ _ _) (by decide) _ _).far_ ((HK8.out.set_ _ _).set_ _ _) (by decide) _ _).mono (Nat.le_refl _) (by simp [World.setCell]), HSET.out _ _ _, ((HXC.out.setCell hg8 _).setCell hg8 _).setCell hg8 _⟩
      case rest =>
        clear HK8 HKBC HSPC HSET HXC HCUTS a0 a1 a2 f0 f1 f2 eL eL2 hn0 hn1 q1 q2 t2 htl hzc
        obtain ⟨P3, cp3, v3, q3, rfl, hkb, hsp, hown, hX⟩ := hcut
        have hzd := hX.size
        have hkwd := HK3.out.next hX
        have d0 := hkwd.cell 0
        have d1 := hkwd.cell 1
        have d2 := hkwd.cell 2
        have t2 := hkb.cell 2
        have htl := hkb.lt
        have hwl9 := hkwd.lt
        have hs6 : (ss.length : Int) ≤ (c' : Int) := by omega
        have HKBC := Lib.hid hkb
        have HSPC := Lib.hid hsp
        have HOWC := Lib.hid hown
        have HXC := Lib.hid hX
        clear hkb hsp hown hX hkwd
        rename_i KR hKR
        refine hKR _ _ ?_
        clear hKR KR
        obtain ⟨wd, hwd⟩ : ∃ wd, wd = wc := ⟨_, rfl⟩
        subst hwd
        obtain ⟨L1, hL1⟩ : ∃ L1, L1 = lst ++ [cutS ⟨p0, p1, p2⟩ t x y] := ⟨_, rfl⟩
        obtain ⟨L, hL⟩ : ∃ L, L = L1 ++ ss.drop (ka + 1) := ⟨_, rfl⟩
        have hl1 : L1.length = lst.length + 1 := by rw [hL1, List.length_append]; rfl
        have hlL : L.length = L1.length + (ss.length - (ka + 1)) := by rw [hL, List.length_append, List.length_drop]
        have HREV := Lib.hid (show L = revL ss t x y by
          rw [hL, hL1, HLST.out, ← revI_eq HOK.out HT.out.1 x y, List.append_assoc]
          unfold revI
          rw [HV1.out, ← HKA.out]
          rfl)
        have HOWD : Hid (wd.drew.ownsRow wb.heap.size 66 3 v3 L1.length (flat Surge.at_ 3 L1)) := Lib.hid (by rw [hL1]; exact HOWC.out)
        have HRS := RR'.out _ (HB3.out.trans (HXC.out.mono HB3.out.size))
        have HRD0 : Rd wd.drew wd.heap.size Surge.at_ 3 (if c' = ka + 1 then some ⟨g, off, none⟩ else some ⟨g, off + (ka + 1) * 3, none⟩ : Option Addr) (ss.drop (ka + 1)) := by
          by_cases hcz : c' = ka + 1
          · exact fun h0 => by
              rw [List.length_drop] at h0
              omega
          · rw [if_neg hcz]
            exact rd_drop (ka + 1) HRS
        have HSRC := Lib.hid (rd_src HRD0 (by decide))
        have HNIL : Hid ((if c' = ka + 1 then some ⟨g, off, none⟩ else some ⟨g, off + (ka + 1) * 3, none⟩ : Option Addr) = none → ss.length - (ka + 1) = 0) := Lib.hid fun e => by
          have := rd_nil_len HRD0 e
          rwa [List.length_drop] at this
        have HFL : Hid ((flat Surge.at_ 3 (ss.drop (ka + 1))).length = (ss.length - (ka + 1)) * 3) := Lib.hid (by rw [flat_length, List.length_drop])
        have HONE := Lib.hid (surge_one (ss.drop (ka + 1)))
        have HM1 : Hid (L1.length + (ss.length - (ka + 1)) ≤ maxLen) := Lib.hid (by unfold maxLen; omega)
        have HM2 : Hid ((L1.length + (ss.length - (ka + 1))) * 24 ≤ 140737488355328) := Lib.hid (by omega)
        have HM3 : Hid (wb.heap.size ≤ wd.drew.heap.size) := Lib.hid hzd
        have hLl : L.length ≤ 1048576 := by omega
        have HOWNL : Hid (∀ (W : World) (v : Value), W.ownsRow wb.heap.size 66 3 v (L1.length + (ss.length - (ka + 1))) (flat Surge.at_ 3 L1 ++ flat Surge.at_ 3 (ss.drop (ka + 1))) → W.ownsRow wb.heap.size 66 3 v L.length (flat Surge.at_ 3 L)) := Lib.hid fun W v h => by
          rw [hlL, hL, show flat Surge.at_ 3 (L1 ++ ss.drop (ka + 1)) = flat Surge.at_ 3 L1 ++ flat Surge.at_ 3 (ss.drop (ka + 1)) by simp [flat]]
          exact h
        clear hL hL1 hl1 hlL HRS HRD0
        go_wp2_with fail
        go_region_law (first
          | (refine step_append_any _ rfl (.tmp 68) (.tmp 73) 33 rfl wb.heap.size 66 i0 _ 3 24 Try.underlying33 hi hz0 hz1 hz2 rfl (by decide) v3 L1.length (flat Surge.at_ 3 L1) (by first | rfl | simp [Act.eval]) HOWD.out (if c' = ka + 1 then some ⟨g, off, none⟩ else some ⟨g, off + (ka + 1) * 3, none⟩ : Option Addr) (ss.length - (ka + 1)) (c' - (ka + 1)) (flat Surge.at_ 3 (ss.drop (ka + 1))) (by first | rfl | simp [Act.eval] | (simp [Act.eval]; omega)) HFL.out HNIL.out HSRC.out HONE.out HM1.out HM2.out HM3.out ?_; intro v9 w9 hown9 hgrow9; obtain ⟨A2, c2, rfl, hsl9⟩ := Sl.of_own (HOWNL.out _ _ hown9); have hk9 := (show Blk wd.drew _ _ _ from HKBC.out).own_grown HOWD.out (by decide) hgrow9; have hsp9 := (show Sl wd.drew _ _ _ _ _ _ _ from HSPC.out).own_grown HOWD.out (by decide) hgrow9; have hb9 := (HXC.out.drew).trans ((Below.refl wb.heap.size wd.drew).grown hgrow9 HM3.out (fun q hq => (HOWD.out.lt q hq).1)); have f9 := hk9.frozen 2; have d9 := hk9.cell 2; have hl9 := hk9.lt))
        all_goals
          have k90 := hk9.cell 0
          have k91 := hk9.cell 1
          have hz9 := hb9.size
          have hzg := hgrow9.size
          have hzd9 : wd.heap.size ≤ w9.heap.size := hzg
          obtain ⟨wv, hwv⟩ : ∃ wv, wv = w9.setCell ⟨bt, 2, none⟩ (.slice A2 L.length c2) := ⟨_, rfl⟩
          have hsv : wv.heap.size = w9.heap.size := by rw [hwv]; simp [World.setCell]
          have hspv : Sl wv wb.heap.size wv.heap.size P3 91 Part.at_ 3 ps := by rw [hsv]; rw [hwv]; exact (hsp9.far_ hk9 (by decide) 2 _).mono (Nat.le_refl _) hzd9
          have hslv : Sl wv wb.heap.size wv.heap.size A2 66 Surge.at_ 3 L := by rw [hsv]; rw [hwv]; exact hsl9.far_ hk9 (by decide) 2 _
          have HBV := Lib.hid (show Below wb.heap.size wb wv by rw [hwv]; exact hb9.setCell hbt _)
          have HKV := Lib.hid (show Blk wv bt 35 #[.int .i64 m, .slice P3 ps.length cp3, .slice A2 L.length c2] by rw [hwv]; exact hk9.set_ 2 _)
          have HOKC := Lib.hid (implForecastOk_any m P3 A2 cp3 c2 ps L wv hspv.rd hslv.rd HWF.out hlen hLl)
          have HSP := Lib.hid hspv
          have HSS := Lib.hid hslv
          have HWV := Lib.hid hwv
          clear hwv hsv hspv hslv hsl9 hown9 hgrow9 hk9 hsp9 hb9
          go_wp2_with fail
          all_goals
            rw [← HWV.out]
            refine HOKC.out.mono ?_
            rintro e wn ⟨rfl, hbn⟩
            have hrn := (HL3.out.next HBV.out).next hbn
            have hkn := HKV.out.next hbn
            have HSPN := Lib.hid (HSP.out.next hbn)
            have HSSN := Lib.hid (HSS.out.next hbn)
            have HBN := Lib.hid (HB3.out.trans ((HBV.out.trans (hbn.mono HBV.out.size)).mono HB3.out.size))
            have hzn := hbn.size
            have q0 := hkn.cell 0
            have q1 := hkn.cell 1
            have q2 := hkn.cell 2
            have r0 := hrn.cell 0
            have r1 := hrn.cell 1
            have r2 := hrn.cell 2
            have g0 := hrn.frozen 0
            have g1 := hrn.frozen 1
            have g2 := hrn.frozen 2
            have hlrn := hrn.lt
            clear hbn hkn hrn k90 k91 d9 f9
            cases hf : foreOk m ps L
            · have HNO : Hid (revC m ps ss t x y = false) := Lib.hid (by rw [HRC.out, ← HREV.out]; exact hf)
              go_wp2_with fail
              refine bodyPost_ret (v := .tuple #[.agg #[.int .i64 0, .slice none 0 0, .slice none 0 0], .bool false]) ?_ rfl ?_
              · simp [results, Try.results28, go_sem, r0, r1, r2]
              · exact ResRev.no HNO.out (HBW.out _ HBN.out)
            · have HYES : Hid (revC m ps ss t x y = true) := Lib.hid (by rw [HRC.out, ← HREV.out]; exact hf)
              go_wp2_with fail
              refine bodyPost_ret (v := .tuple #[.agg #[.int .i64 m, .slice P3 ps.length cp3, .slice A2 L.length c2], .bool true]) ?_ rfl ?_
              · simp [results, Try.results28, go_sem, r0, r1, r2]
              · have hL := HREV.out
                subst hL
                refine ResRev.yes HYES.out (((HBN.out.setCell (by show w.heap.size ≤ br; omega) _).setCell (by show w.heap.size ≤ br; omega) _).setCell (by show w.heap.size ≤ br; omega) _) ?_ ?_
                · exact (((HSPN.out.setCell (.inl (by show br < wb.heap.size; omega)) _).setCell (.inl (by show br < wb.heap.size; omega)) _).setCell (.inl (by show br < wb.heap.size; omega)) _).mono (by omega) (by simp [World.setCell]; omega)
                · exact (((HSSN.out.setCell (.inl (by show br < wb.heap.size; omega)) _).setCell (.inl (by show br < wb.heap.size; omega)) _).setCell (.inl (by show br < wb.heap.size; omega)) _).mono (by omega) (by simp [World.setCell]; omega)

end Go.Proofs.Ytmhiohijpnmcpaa
