/-
  The contract of the draw of a tide.
-/
import Derived.Test.YtmhiohijpnmcpaaDrawB
import Derived.Test.YtmhiohijpnmcpaaModelA
import Derived.Test.YtmhiohijpnmcpaaTide
import Derived.Deep.RegionLaw
namespace Go.Proofs.Ytmhiohijpnmcpaa
open Go.RowKit

theorem infoPt : (Try.prog.info? 91).map (fun i => (i.zero, i.size, i.bytes)) = some (some (.agg #[.int .i64 0, .int .i64 0, .int .i64 0]), 3, 24) := by kernel_rfl
/-- A call that hands back a valid tide in new memory and turns block g alone besides. -/
def TidePost (g : Nat) (A : Option Addr) (n c : Nat) (w : World) (e : Ending) (w' : World) : Prop :=
  ∃ (m : Int) (ps : List Part) (A' : Option Addr) (c' : Nat), e = .returned (.agg #[.int .i64 m, .slice A' ps.length c']) ∧ tideOk m ps = true ∧ Sl w' w.heap.size w'.heap.size A' 91 Part.at_ 3 ps ∧ Cur w' g A n c ∧ w.grownBy w' (some g) ∧ ps.length ≤ 2

set_option maxRecDepth 20000 in
set_option maxHeartbeats 8000000 in
theorem l02Draw_any (g : Nat) (A : Option Addr) (c : Nat) (zs : List Int) (w : World) (hc : Cur w g A zs.length c) (hr : Rd w g byteAt 1 A zs) (hlen : zs.length ≤ 1048576) (hb : ∀ z ∈ zs, 0 ≤ z ∧ z ≤ 255) :
    Calls Try.prog 97 #[.pointer (some ⟨g, 0, none⟩)] w (TidePost g A zs.length c w) := by
  obtain ⟨i0, hi, hz0, hz1, hz2⟩ := info_parts infoPt
  have hgl : g < w.heap.size := by
    obtain ⟨i, x, _, hk⟩ := hc
    exact hk.lt
  have HRR : Hid (∀ W, w.grownBy W (some g) → Rd W g byteAt 1 A zs) := Lib.hid fun W h => hr.keep fun p hp => World.cell?_of_block (h.block p.block (by omega) (fun e => by injection e with e; omega))
  obtain ⟨wa, hwa⟩ : ∃ wa, wa = w.alloc (.cells #[.int .i64 0, .slice none 0 0] 32) := ⟨_, rfl⟩
  have hBa : Below w.heap.size w wa := by rw [hwa]; exact (Below.refl _ _).alloc (Nat.le_refl _) _
  have hga : w.grownBy wa (some g) := grown_below (World.grownBy.refl w _) hBa
  have hca := hc.below hBa hgl
  have hra : Blk wa w.heap.size 32 #[.int .i64 0, .slice none 0 0] := by rw [hwa]; exact Blk.new _ _ _
  have HWA := Lib.hid hwa
  have HRA := Lib.hid (HRR.out _ hga)
  have HGA := Lib.hid hga
  clear hr hwa hc hga
  go_enter Try.func97, Try.ntmps97
  go_wp2_with fail
  rw [← HWA.out]
  refine (l01Num_any g 300 A c zs wa hca HRA.out hlen hb (by omega)).mono ?_
  rintro e w1 ⟨x, rfl, hx0, hx1, hc1, hg1'⟩
  have hg1 := HGA.out.trans hg1'
  have hz1w := hg1.size
  have hr1 := hra.grown hg1' (fun e => by injection e with e; omega)
  have hl1 := hr1.lt
  obtain ⟨bt, hbt⟩ : ∃ bt, bt = w1.heap.size := ⟨_, rfl⟩
  obtain ⟨wb, hwb⟩ : ∃ wb, wb = w1.alloc (.cells #[.int .i64 x, .slice none 0 0] 32) := ⟨_, rfl⟩
  have hBb : Below w.heap.size w1 wb := by rw [hwb]; exact (Below.refl _ _).alloc (by omega) _
  have hgb := grown_below hg1 hBb
  have hcb := hc1.below hBb hgl
  have hkb : Blk wb bt 32 #[.int .i64 x, .slice none 0 0] := by rw [hwb, hbt]; exact Blk.new _ _ _
  have hrb : Blk wb w.heap.size 32 #[.int .i64 0, .slice none 0 0] := by rw [hwb]; exact hr1.alloc _
  have hbw : w.heap.size < bt := by omega
  have HWB := Lib.hid hwb
  have HBT := Lib.hid hbt
  have HRB := Lib.hid (HRR.out _ hgb)
  clear hwb hbt hca hra hr1 hc1
  go_wp2_with fail
  rw [← HWB.out, ← HBT.out]
  refine (l01Num_any g 2 A c zs wb hcb HRB.out hlen hb (by omega)).mono ?_
  rintro e w2 ⟨n, rfl, hn0, hn1, hc2, hg2'⟩
  have HG2 := Lib.hid (hgb.trans hg2')
  have HK2 := Lib.hid (hkb.grown hg2' (fun e => by injection e with e; omega))
  have HR2 := Lib.hid (hrb.grown hg2' (fun e => by injection e with e; omega))
  have HC2 := Lib.hid hc2
  have e1 : IntKind.i64.wrap (1 + n) = 1 + n := IntWalk.i64_in _ (by omega)
  clear hcb hkb hrb hc2
  go_wp2_with fail
  go_loopw [4] (fun i wr => ∃ (k : Int) (acc : List Part) (v : Value), 0 ≤ k ∧ i = .int .i64 k ∧ (acc.length : Int) + k ≤ 2 ∧ (∀ p ∈ acc, partOk p = true) ∧ wr.ownsRow (bt + 1) 91 3 v acc.length (flat Part.at_ 3 acc) ∧ Blk wr bt 32 #[.int .i64 x, v] ∧ Blk wr w.heap.size 32 #[.int .i64 0, .slice none 0 0] ∧ Cur wr g A zs.length c ∧ w.grownBy wr (some g)) (fun i _ => (intOf i).toNat)
  case atStart => exact ⟨1 + n, [], .slice none 0 0, by omega, rfl, by simp; omega, (fun p h => by cases h), World.ownsRow_nil _ _ _ _, HK2.out, HR2.out, HC2.out, HG2.out⟩
  case round =>
    obtain ⟨k, acc, v, hk0, rfl, hkl, hpk, hown, hblk, hres, hcur, hgr⟩ := hrel
    have hs := hgr.size
    have hbl := hblk.lt
    by_cases hlt : 0 < k
    · have HCP := Lib.hid (l02Part_any g A c zs wr.drew (show Cur wr.drew g A zs.length c from hcur) (show Rd wr.drew g byteAt 1 A zs from HRR.out wr hgr) hlen hb)
      have c0 := hblk.cell 0
      have c1 := hblk.cell 1
      have f1 := hblk.frozen 1
      have HPK := Lib.hid hpk
      have HOW := Lib.hid hown
      have HBK := Lib.hid hblk
      have HRS := Lib.hid hres
      have HGR := Lib.hid hgr
      have hal : acc.length ≤ 1 := by omega
      clear hpk hown hblk hres hcur hgr HK2 HR2 HC2 HG2
      go_wp2_with fail
      go_region_law (first
        | (go_simp; go_at_call 103; refine HCP.out.mono ?_; rintro e w3 ⟨p, rfl, hp, hc3, hg3'⟩; have hown3 := ownsRow_grown (show wr.drew.ownsRow _ _ _ _ _ _ from HOW.out) hg3' (by omega); have hblk3 := (show Blk wr.drew _ _ _ from HBK.out).grown hg3' (fun e => by injection e with e; omega); have d1 := hblk3.cell 1; have d0 := hblk3.cell 0; have hl3 := hblk3.lt)
        | (refine step_append_lies _ rfl (.tmp 16) (.tmp 19) 30 rfl (bt + 1) 91 i0 _ 3 24 Try.underlying30 hi hz0 hz1 hz2 rfl (by decide) v acc.length (flat Part.at_ 3 acc) (by simp [Act.eval]) (hown3.alloc _) ⟨w3.heap.size, 0, none⟩ 1 1 [.int .i64 p.amp, .int .i64 p.period, .int .i64 p.phase] (by simp [Act.eval]) rfl (World.news_of_block (cs := #[.int .i64 p.amp, .int .i64 p.period, .int .i64 p.phase]) (heap_alloc_new w3 _)) (by simp [Value.oneCell']) (by omega) (by unfold maxLen; omega) (by omega) (by simp; omega) (w3.heap.size + 1) (by simp) ?_; intro g6 cap6 w6 hown6 hgrow6 hat6 hlt6; have hb6 := (hblk3.alloc (.cells #[.int .i64 p.amp, .int .i64 p.period, .int .i64 p.phase] 91)).grown hgrow6 (fun e => by have := (hown3.lt _ e.symm).1; omega); have f6 := hb6.frozen 1; have d6 := hb6.cell 1))
      all_goals
        have hg6 : w.grownBy w6 (some g) := grown_below ((show w.grownBy wr.drew (some g) from ⟨HGR.out.os, HGR.out.tape, HGR.out.output, HGR.out.size, HGR.out.block⟩).trans hg3') (((Below.refl w.heap.size w3).alloc (by omega) _).trans ((Below.refl _ _).grown hgrow6 (by simp; omega) (fun q hq => by have := (hown3.lt q hq).1; omega)))
        have hr6 := ((((show Blk wr.drew _ _ _ from HRS.out).grown hg3' (fun e => by injection e with e; omega)).alloc (.cells #[.int .i64 p.amp, .int .i64 p.period, .int .i64 p.phase] 91)).grown hgrow6 (fun e => by have := (hown3.lt _ e.symm).1; omega))
        have hc6 := (hc3.below ((Below.refl w.heap.size w3).alloc (by omega) (.cells #[.int .i64 p.amp, .int .i64 p.period, .int .i64 p.phase] 91)) hgl).below ((Below.refl w.heap.size _).grown hgrow6 (by simp; omega) (fun q hq => by have := (hown3.lt q hq).1; omega)) hgl
        have HO6 := Lib.hid (ownsRow_setCell_below hown6 (a := ⟨bt, 1, none⟩) (by show bt < bt + 1; omega) (.slice (some ⟨g6, 0, none⟩) (acc.length + 1) cap6))
        have HK6 := Lib.hid (hb6.set_ 1 (.slice (some ⟨g6, 0, none⟩) (acc.length + 1) cap6))
        have HR6 := Lib.hid (hr6.far (p := ⟨bt, 1, none⟩) (by show w.heap.size ≠ bt; omega) (.slice (some ⟨g6, 0, none⟩) (acc.length + 1) cap6))
        have HC6 := Lib.hid (hc6.below ((Below.refl w.heap.size w6).setCell (p := ⟨bt, 1, none⟩) (by show w.heap.size ≤ bt; omega) (.slice (some ⟨g6, 0, none⟩) (acc.length + 1) cap6)) hgl)
        have HG6 := Lib.hid (grown_below hg6 ((Below.refl w.heap.size w6).setCell (p := ⟨bt, 1, none⟩) (by show w.heap.size ≤ bt; omega) (.slice (some ⟨g6, 0, none⟩) (acc.length + 1) cap6)))
        clear hb6 hr6 hc6 hg6 hown6 hgrow6 hown3 hblk3
        go_wp2_with fail
        go_roundw
        case rel => exact ⟨k - 1, acc ++ [p], .slice (some ⟨g6, 0, none⟩) (acc.length + 1) cap6, by omega, by go_num, by simp; omega, fun q hq => by
          rcases List.mem_append.1 hq with hq | hq
          · exact HPK.out q hq
          · simp at hq
            subst hq
            exact hp, by rw [List.length_append, flat_snoc]; exact HO6.out, HK6.out, HR6.out, HC6.out, HG6.out⟩
        case measure => simp [intOf]; omega
    · have HTOK := Lib.hid (show tideOk x acc = true by
        unfold tideOk
        rw [inB_mk (by omega), show decide (acc.length ≤ 4) = true by simp; omega, List.all_eq_true.2 hpk]
        rfl)
      obtain ⟨A2, c2, rfl, hsl⟩ := Sl.of_own hown
      have k0 := hblk.cell 0
      have k1 := hblk.cell 1
      have r0 := hres.cell 0
      have r1 := hres.cell 1
      have q0 := hres.frozen 0
      have q1 := hres.frozen 1
      have hne : ¬ bt = w.heap.size := by omega
      have hne2 : ¬ w.heap.size = bt := by omega
      have hrl := hres.lt
      have HS := Lib.hid (show Sl ((wr.setCell ⟨w.heap.size, 0, none⟩ (.int .i64 x)).setCell ⟨w.heap.size, 1, none⟩ (.slice A2 acc.length c2)) w.heap.size _ A2 91 Part.at_ 3 acc from ((hsl.setCell (p := ⟨w.heap.size, 0, none⟩) (.inl (by show w.heap.size < bt + 1; omega)) (.int .i64 x)).setCell (p := ⟨w.heap.size, 1, none⟩) (.inl (by show w.heap.size < bt + 1; omega)) (.slice A2 acc.length c2)).mono (by omega) (Nat.le_refl _))
      have hbf : Below w.heap.size wr ((wr.setCell ⟨w.heap.size, 0, none⟩ (.int .i64 x)).setCell ⟨w.heap.size, 1, none⟩ (.slice A2 acc.length c2)) := ((Below.refl w.heap.size wr).setCell (p := ⟨w.heap.size, 0, none⟩) (Nat.le_refl _) _).setCell (p := ⟨w.heap.size, 1, none⟩) (Nat.le_refl _) _
      have HCF := Lib.hid (hcur.below hbf hgl)
      have HGF := Lib.hid (grown_below hgr hbf)
      clear hown hblk hres hcur hgr hsl hbf HK2 HR2 HC2 HG2
      go_wp2_with fail
      refine bodyPost_ret (v := .agg #[.int .i64 x, .slice A2 acc.length c2]) ?_ rfl ?_
      · simp [results, Try.results97, go_sem, r0, r1]
      · exact ⟨x, acc, A2, c2, rfl, HTOK.out, HS.out.mono (Nat.le_refl _) (by simp [World.setCell]), HCF.out, HGF.out, by omega⟩

end Go.Proofs.Ytmhiohijpnmcpaa
