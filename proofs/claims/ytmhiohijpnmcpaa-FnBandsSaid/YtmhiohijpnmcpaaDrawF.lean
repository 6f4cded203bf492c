/-
  The contracts of the draw of a forecast: l03Draw, MakeForecast.
-/
import Derived.Test.YtmhiohijpnmcpaaDrawT
import Derived.Test.YtmhiohijpnmcpaaModelFD
import Derived.Test.YtmhiohijpnmcpaaTSurge
namespace Go.Proofs.Ytmhiohijpnmcpaa
open Go.RowKit

theorem infoSu : (Try.prog.info? 66).map (fun i => (i.zero, i.size, i.bytes)) = some (some (.agg #[.int .i64 0, .int .i64 0, .int .i64 0]), 3, 24) := by kernel_rfl
/-- The blocks from lo to hi are as they were. -/
def Keep (lo hi : Nat) (a b : World) : Prop := ∀ k, lo ≤ k → k < hi → b.heap[k]? = a.heap[k]?
theorem Keep.refl (lo hi : Nat) (a : World) : Keep lo hi a a := fun _ _ _ => rfl
theorem Keep.trans {lo hi : Nat} {a b c : World} (h : Keep lo hi a b) (k : Keep lo hi b c) : Keep lo hi a c := fun i h1 h2 => (k i h1 h2).trans (h i h1 h2)
theorem Keep.grown {lo hi g : Nat} {a b c : World} (h : Keep lo hi a b) (k : b.grownBy c (some g)) (hg : g < lo) (hh : hi ≤ b.heap.size) : Keep lo hi a c := fun i h1 h2 => (k.block i (by omega) (fun e => by injection e with e; omega)).trans (h i h1 h2)
theorem Keep.below {lo hi B : Nat} {a b c : World} (h : Keep lo hi a b) (k : Below B b c) (hh : hi ≤ B) : Keep lo hi a c := fun i h1 h2 => (k.block i (by omega)).trans (h i h1 h2)
theorem Sl.keep {α : Type} {w w' : World} {lo hi size : Nat} {A : Option Addr} {t : TypeId} {enc : α → Nat → Value} {ps : List α} (h : Sl w lo hi A t enc size ps) (k : Keep lo hi w w') : Sl w' lo hi A t enc size ps := by
  rcases h with h | ⟨g, rfl, h1, h2, cs, hk, hf⟩
  · exact .inl h
  · exact .inr ⟨g, rfl, h1, h2, cs, (k g h1 h2).trans hk, hf⟩
/-- A call that hands back a valid forecast in new memory and turns block g alone besides. -/
def ForePost (g : Nat) (w : World) (e : Ending) (w' : World) : Prop :=
  ∃ (m : Int) (ps : List Part) (ss : List Surge) (A A' : Option Addr) (c c' : Nat), e = .returned (.agg #[.int .i64 m, .slice A ps.length c, .slice A' ss.length c']) ∧ foreOk m ps ss = true ∧ Sl w' w.heap.size w'.heap.size A 91 Part.at_ 3 ps ∧ Sl w' w.heap.size w'.heap.size A' 66 Surge.at_ 3 ss ∧ w.grownBy w' (some g) ∧ ps.length ≤ 2 ∧ ss.length ≤ 3 ∧ ss.length ≤ c'
theorem own_cap {w : World} {base size n c : Nat} {e : TypeId} {A : Option Addr} {xs : List Value} (h : w.ownsRow base e size (.slice A n c) n xs) : n ≤ c := by
  rcases h.2 with ⟨h1, h2⟩ | ⟨g, cap, cur, h1, _, _, h2, _⟩
  · omega
  · cases h1
    exact h2

set_option maxRecDepth 20000 in
set_option maxHeartbeats 8000000 in
theorem l03Draw_any (g : Nat) (A : Option Addr) (c : Nat) (zs : List Int) (w : World) (hc : Cur w g A zs.length c) (hr : Rd w g byteAt 1 A zs) (hlen : zs.length ≤ 1048576) (hb : ∀ z ∈ zs, 0 ≤ z ∧ z ≤ 255) :
    Calls Try.prog 79 #[.pointer (some ⟨g, 0, none⟩)] w (ForePost g w) := by
  obtain ⟨i0, hi, hz0, hz1, hz2⟩ := info_parts infoSu
  have hgl : g < w.heap.size := by
    obtain ⟨i, x, _, hk⟩ := hc
    exact hk.lt
  have HRR : Hid (∀ W, w.grownBy W (some g) → Rd W g byteAt 1 A zs) := Lib.hid fun W h => hr.keep fun p hp => World.cell?_of_block (h.block p.block (by omega) (fun e => by injection e with e; omega))
  obtain ⟨wa, hwa⟩ : ∃ wa, wa = w.alloc (.cells #[.int .i64 0, .slice none 0 0, .slice none 0 0] 35) := ⟨_, rfl⟩
  have hBa : Below w.heap.size w wa := by rw [hwa]; exact (Below.refl _ _).alloc (Nat.le_refl _) _
  have hga : w.grownBy wa (some g) := grown_below (World.grownBy.refl w _) hBa
  have hca := hc.below hBa hgl
  have hra : Blk wa w.heap.size 35 #[.int .i64 0, .slice none 0 0, .slice none 0 0] := by rw [hwa]; exact Blk.new _ _ _
  have hza : wa.heap.size = w.heap.size + 1 := by rw [hwa]; simp
  have HWA := Lib.hid hwa
  have HRA := Lib.hid (HRR.out _ hga)
  have HGA := Lib.hid hga
  clear hr hwa hc hga
  go_enter Try.func79, Try.ntmps79
  go_wp2_with fail
  rw [← HWA.out]
  refine (l02Draw_any g A c zs wa hca HRA.out hlen hb).mono ?_
  rintro e w1 ⟨m, ps, Ap, cp, rfl, htok, hslp, hc1, hg1', hlp⟩
  have hg1 := HGA.out.trans hg1'
  have hz1w := hg1'.size
  have hr1 := hra.grown hg1' (fun e => by injection e with e; omega)
  have hl1 := hr1.lt
  obtain ⟨bt, hbt⟩ : ∃ bt, bt = w1.heap.size := ⟨_, rfl⟩
  obtain ⟨wb, hwb⟩ : ∃ wb, wb = w1.alloc (.cells #[.int .i64 m, .slice Ap ps.length cp, .slice none 0 0] 35) := ⟨_, rfl⟩
  have hBb : Below w1.heap.size w1 wb := by rw [hwb]; exact (Below.refl _ _).alloc (Nat.le_refl _) _
  have hzb : wb.heap.size = w1.heap.size + 1 := by rw [hwb]; simp
  have hgb := grown_below hg1 (hBb.mono (by omega))
  have hcb := hc1.below hBb (by omega)
  have hkb : Blk wb bt 35 #[.int .i64 m, .slice Ap ps.length cp, .slice none 0 0] := by rw [hwb, hbt]; exact Blk.new _ _ _
  have hrb : Blk wb w.heap.size 35 #[.int .i64 0, .slice none 0 0, .slice none 0 0] := by rw [hwb]; exact hr1.alloc _
  have hKb : Keep (w.heap.size + 1) bt w1 wb := (Keep.refl _ _ _).below hBb (by omega)
  have hbw : w.heap.size < bt := by omega
  have HSLP := Lib.hid (show Sl w1 (w.heap.size + 1) bt Ap 91 Part.at_ 3 ps by rw [hbt]; exact hslp.mono (by omega) (Nat.le_refl _))
  have HTOK := Lib.hid htok
  have HWB := Lib.hid hwb
  have HBT := Lib.hid hbt
  have HRB := Lib.hid (HRR.out _ hgb)
  have hbtb : bt < wb.heap.size := hkb.lt
  clear hwb hbt hca hra hr1 hc1 hslp htok hza hzb
  go_wp2_with fail
  rw [← HWB.out, ← HBT.out]
  refine (l01Num_any g 3 A c zs wb hcb HRB.out hlen hb (by omega)).mono ?_
  rintro e w2 ⟨n, rfl, hn0, hn1, hc2, hg2'⟩
  have HG2 := Lib.hid (hgb.trans hg2')
  have HK2 := Lib.hid (hkb.grown hg2' (fun e => by injection e with e; omega))
  have HR2 := Lib.hid (hrb.grown hg2' (fun e => by injection e with e; omega))
  have HKP2 := Lib.hid (hKb.grown hg2' (by omega) (by omega))
  have HC2 := Lib.hid hc2
  have e1 : IntKind.i64.wrap (1 + n) = 1 + n := IntWalk.i64_in _ (by omega)
  clear hcb hkb hrb hc2 hKb
  go_wp2_with fail
  go_loopw [4, 5] (fun a i wr => ∃ (k at_ : Int) (acc : List Surge) (v : Value), (0 ≤ k ∧ i = .int .i64 k ∧ a = .int .i64 at_ ∧ (acc.length : Int) + k ≤ 3 ∧ 1 ≤ (acc.length : Int) + k) ∧ SG acc at_ ∧ wr.ownsRow (bt + 1) 66 3 v acc.length (flat Surge.at_ 3 acc) ∧ Blk wr bt 35 #[.int .i64 m, .slice Ap ps.length cp, v] ∧ Blk wr w.heap.size 35 #[.int .i64 0, .slice none 0 0, .slice none 0 0] ∧ Keep (w.heap.size + 1) bt w1 wr ∧ Cur wr g A zs.length c ∧ w.grownBy wr (some g)) (fun _ i _ => (intOf i).toNat)
  case atStart => exact ⟨1 + n, 0, [], .slice none 0 0, ⟨by omega, rfl, rfl, by simp; omega, by simp; omega⟩, SG.start, World.ownsRow_nil _ _ _ _, HK2.out, HR2.out, HKP2.out, HC2.out, HG2.out⟩
  case round =>
    obtain ⟨k, at_, acc, v, ⟨hk0, rfl, rfl, hkl, hkm⟩, hsg, hown, hblk, hres, hkeep, hcur, hgr⟩ := hrel
    have hs := hgr.size
    have hbl := hblk.lt
    by_cases hlt : 0 < k
    · have hal : acc.length ≤ 2 := by omega
      have hat1 := hsg.lo
      have hat2 := hsg.hi
      have HSG := Lib.hid hsg
      have HRW := Lib.hid (HRR.out _ hgr)
      have hcl := l01Num_any g 60 A c zs wr hcur HRW.out hlen hb (by omega)
      have HCL := Lib.hid hcl
      clear hcl HK2 HR2 HC2 HG2 HKP2 hsg hcur
      go_wp2_with fail
      refine HCL.out.mono ?_
      rintro e w3 ⟨l0, rfl, hl0, hl0', hc3, hg3'⟩
      have hgr3 := hgr.trans hg3'
      have hz3 := hg3'.size
      have e2 : IntKind.i64.wrap (l0 - 40) = l0 - 40 := IntWalk.i64_in _ (by omega)
      obtain ⟨low, hlow⟩ : ∃ low, low = l0 - 40 := ⟨_, rfl⟩
      have hlw1 : -40 ≤ low := by omega
      have hlw2 : low ≤ 19 := by omega
      have HOW := Lib.hid (ownsRow_grown hown hg3' (by omega))
      have hbk3 := hblk.grown hg3' (fun e => by injection e with e; omega)
      have HRS := Lib.hid (hres.grown hg3' (fun e => by injection e with e; omega))
      have HKE := Lib.hid (hkeep.grown hg3' (by omega) (by omega))
      have HCP := Lib.hid (l01Num_any g 60 A c zs w3.drew (show Cur w3.drew g A zs.length c from hc3) (show Rd w3.drew g byteAt 1 A zs from HRR.out w3 hgr3) hlen hb (by omega))
      have c0 := hbk3.cell 0
      have c1 := hbk3.cell 1
      have c2 := hbk3.cell 2
      have f2 := hbk3.frozen 2
      have hbl3 := hbk3.lt
      have HBK := Lib.hid hbk3
      have HGR := Lib.hid hgr3
      have HLOW := Lib.hid hlow
      have HE4 : Hid (∀ x : Int, 0 ≤ x → x ≤ 59 → IntKind.i64.wrap (low + x) = low + x) := Lib.hid fun x h1 h2 => IntWalk.i64_in _ (by omega)
      clear hown hblk hres hgr hkeep hbk3 hc3 hlow HRW HCL
      go_wp2_with fail
      rw [← HLOW.out]
      clear e2
      go_region_law (first
        | (go_simp; go_at_call 98; refine HCP.out.mono ?_; rintro e w4 ⟨x1, rfl, hx10, hx11, hc4, hg4'⟩; have hown4 := ownsRow_grown (show w3.drew.ownsRow _ _ _ _ _ _ from HOW.out) hg4' (by omega); have hblk4 := (show Blk w3.drew _ _ _ from HBK.out).grown hg4' (fun e => by injection e with e; omega); have d2 := hblk4.cell 2; have hl4 := hblk4.lt; have e4 := HE4.out x1 hx10 (by omega))
        | (refine step_append_lies _ rfl (.tmp 21) (.tmp 29) 33 rfl (bt + 1) 66 i0 _ 3 24 Try.underlying33 hi hz0 hz1 hz2 rfl (by decide) v acc.length (flat Surge.at_ 3 acc) (by simp [Act.eval]) (hown4.alloc _) ⟨w4.heap.size, 0, none⟩ 1 1 [.int .i64 at_, .int .i64 low, .int .i64 (low + x1)] (by simp [Act.eval]) rfl (World.news_of_block (cs := #[.int .i64 at_, .int .i64 low, .int .i64 (low + x1)]) (heap_alloc_new w4 _)) (by simp [Value.oneCell']) (by omega) (by unfold maxLen; omega) (by omega) (by simp; omega) (w4.heap.size + 1) (by simp) ?_; intro g6 cap6 w6 hown6 hgrow6 hat6 hlt6; have hb6 := (hblk4.alloc (.cells #[.int .i64 at_, .int .i64 low, .int .i64 (low + x1)] 66)).grown hgrow6 (fun e => by have := (hown4.lt _ e.symm).1; omega); have f6 := hb6.frozen 2; have d6 := hb6.cell 2))
      all_goals
        have hBw : Below bt w4 w6 := ((Below.refl bt w4).alloc (by omega) _).trans ((Below.refl _ _).grown hgrow6 (by simp; omega) (fun q hq => by have := (hown4.lt q hq).1; omega))
        have hB7 : Below bt w6 (w6.setCell ⟨bt, 2, none⟩ (.slice (some ⟨g6, 0, none⟩) (acc.length + 1) cap6)) := (Below.refl bt w6).setCell (p := ⟨bt, 2, none⟩) (Nat.le_refl _) _
        have hB47 := hBw.trans hB7
        obtain ⟨w7, hw7⟩ : ∃ w7, w7 = w6.setCell ⟨bt, 2, none⟩ (.slice (some ⟨g6, 0, none⟩) (acc.length + 1) cap6) := ⟨_, rfl⟩
        have hg4w : w.grownBy w4 (some g) := (show w.grownBy w3.drew (some g) from ⟨HGR.out.os, HGR.out.tape, HGR.out.output, HGR.out.size, HGR.out.block⟩).trans hg4'
        have hg7 : w.grownBy w7 (some g) := by rw [hw7]; exact grown_below hg4w (hB47.mono (by omega))
        have hr7 : Blk w7 w.heap.size 35 #[.int .i64 0, .slice none 0 0, .slice none 0 0] := by rw [hw7]; exact ((show Blk w3.drew _ _ _ from HRS.out).grown hg4' (fun e => by injection e with e; omega)).below hB47 (by omega)
        have hc7 : Cur w7 g A zs.length c := by rw [hw7]; exact hc4.below hB47 (by omega)
        have hkp7 : Keep (w.heap.size + 1) bt w1 w7 := by rw [hw7]; exact ((show Keep (w.heap.size + 1) bt w1 w3.drew from HKE.out).grown hg4' (by omega) (by show bt ≤ w3.heap.size; omega)).below hB47 (Nat.le_refl _)
        have hk7 : Blk w7 bt 35 #[.int .i64 m, .slice Ap ps.length cp, (.slice (some ⟨g6, 0, none⟩) (acc.length + 1) cap6)] := by rw [hw7]; exact hb6.set_ 2 (.slice (some ⟨g6, 0, none⟩) (acc.length + 1) cap6)
        have ho7 : w7.ownsRow (bt + 1) 66 3 (.slice (some ⟨g6, 0, none⟩) (acc.length + 1) cap6) (acc.length + 1) (flat Surge.at_ 3 acc ++ [.int .i64 at_, .int .i64 low, .int .i64 (low + x1)]) := by rw [hw7]; exact ownsRow_setCell_below hown6 (a := ⟨bt, 2, none⟩) (by show bt < bt + 1; omega) (.slice (some ⟨g6, 0, none⟩) (acc.length + 1) cap6)
        have HCN := Lib.hid (l01Num_any g 700 A c zs w7 hc7 (HRR.out w7 hg7) hlen hb (by omega))
        have hz7 := hg7.size
        have hlb7 := hk7.lt
        have HW7 := Lib.hid hw7
        have HG7 := Lib.hid hg7
        have HR7 := Lib.hid hr7
        have HK7 := Lib.hid hk7
        have HO7 := Lib.hid ho7
        have HP7 := Lib.hid hkp7
        have HE5 : Hid (∀ y : Int, 0 ≤ y → y ≤ 699 → IntKind.i64.wrap (at_ + 100 + y) = at_ + 100 + y) := Lib.hid fun y h1 h2 => IntWalk.i64_in _ (by omega)
        have e5 : IntKind.i64.wrap (at_ + 100) = at_ + 100 := IntWalk.i64_in _ (by omega)
        clear hw7 hg7 hr7 hc7 hkp7 hk7 ho7 hB47 hB7 hBw hown6 hgrow6 hown4 hblk4 hb6 f6 d6 d2 c0 c1 c2 f2 e4
        go_wp2_with fail
        rw [← HW7.out]
        refine HCN.out.mono ?_
        rintro e w8 ⟨y, rfl, hy0, hy1, hc8, hg8'⟩
        have e6 := HE5.out y hy0 (by omega)
        have HG8 := Lib.hid (HG7.out.trans hg8')
        have HR8 := Lib.hid (HR7.out.grown hg8' (fun e => by injection e with e; omega))
        have HK8 := Lib.hid (HK7.out.grown hg8' (fun e => by injection e with e; omega))
        have HO8 := Lib.hid (ownsRow_grown HO7.out hg8' (by omega))
        have HP8 := Lib.hid (HP7.out.grown hg8' (by omega) (by omega))
        go_wp2_with fail
        go_roundw
        case rel => exact ⟨k - 1, at_ + 100 + y, acc ++ [⟨at_, low, low + x1⟩], (.slice (some ⟨g6, 0, none⟩) (acc.length + 1) cap6), ⟨by omega, by go_num, rfl, by simp; omega, by simp; omega⟩, HSG.out.snoc hal ⟨hlw1, hlw2⟩ ⟨hx10, by omega⟩ ⟨hy0, by omega⟩, by rw [List.length_append, flat_snoc]; exact HO8.out, HK8.out, HR8.out, HP8.out, hc8, HG8.out⟩
        case measure => simp [intOf]; omega
    · have HFO := Lib.hid (hsg.fore HTOK.out (by omega) (by omega))
      obtain ⟨A2, c2, rfl, hsl⟩ := Sl.of_own hown
      have hcp2 := own_cap hown
      have hslp := HSLP.out.keep hkeep
      have k0 := hblk.cell 0
      have k1 := hblk.cell 1
      have k2 := hblk.cell 2
      have r0 := hres.cell 0
      have r1 := hres.cell 1
      have r2 := hres.cell 2
      have q0 := hres.frozen 0
      have q1 := hres.frozen 1
      have q2 := hres.frozen 2
      have hrl := hres.lt
      have hal : acc.length ≤ 3 := by omega
      obtain ⟨wz, hwz⟩ : ∃ wz, wz = ((wr.setCell ⟨w.heap.size, 0, none⟩ (.int .i64 m)).setCell ⟨w.heap.size, 1, none⟩ (.slice Ap ps.length cp)).setCell ⟨w.heap.size, 2, none⟩ (.slice A2 acc.length c2) := ⟨_, rfl⟩
      have HZ := Lib.hid hwz
      have HS1 : Hid (Sl wz w.heap.size wz.heap.size A2 66 Surge.at_ 3 acc) := Lib.hid (by
        rw [hwz]
        exact (((hsl.setCell (p := ⟨w.heap.size, 0, none⟩) (.inl (by show w.heap.size < bt + 1; omega)) _).setCell (p := ⟨w.heap.size, 1, none⟩) (.inl (by show w.heap.size < bt + 1; omega)) _).setCell (p := ⟨w.heap.size, 2, none⟩) (.inl (by show w.heap.size < bt + 1; omega)) _).mono (by omega) (by simp [World.setCell]))
      have HS2 : Hid (Sl wz w.heap.size wz.heap.size Ap 91 Part.at_ 3 ps) := Lib.hid (by
        rw [hwz]
        exact (((hslp.setCell (p := ⟨w.heap.size, 0, none⟩) (.inl (by show w.heap.size < w.heap.size + 1; omega)) _).setCell (p := ⟨w.heap.size, 1, none⟩) (.inl (by show w.heap.size < w.heap.size + 1; omega)) _).setCell (p := ⟨w.heap.size, 2, none⟩) (.inl (by show w.heap.size < w.heap.size + 1; omega)) _).mono (by omega) (by simp [World.setCell]; omega))
      have HGF : Hid (w.grownBy wz (some g)) := Lib.hid (by
        rw [hwz]
        exact grown_below hgr ((((Below.refl w.heap.size wr).setCell (p := ⟨w.heap.size, 0, none⟩) (Nat.le_refl _) _).setCell (p := ⟨w.heap.size, 1, none⟩) (Nat.le_refl _) _).setCell (p := ⟨w.heap.size, 2, none⟩) (Nat.le_refl _) _))
      clear hown hblk hres hcur hgr hsl hslp hkeep hsg HK2 HR2 HC2 HG2 HKP2 hwz
      go_wp2_with fail
      refine bodyPost_ret (v := .agg #[.int .i64 m, .slice Ap ps.length cp, .slice A2 acc.length c2]) ?_ rfl ?_
      · simp [results, Try.results79, go_sem, r0, r1, r2]
      · rw [← HZ.out]
        exact ⟨m, ps, acc, Ap, A2, cp, c2, rfl, HFO.out, HS2.out, HS1.out, HGF.out, hlp, hal, hcp2⟩

end Go.Proofs.Ytmhiohijpnmcpaa
