/-
  The contract of NarrowerBand, the program's.
-/
import Derived.Test.YtmhiohijpnmcpaaModelY
import Derived.Test.YtmhiohijpnmcpaaWinApp
import Derived.Test.YtmhiohijpnmcpaaCloneS
import Derived.Test.YtmhiohijpnmcpaaForeF
import Derived.Test.YtmhiohijpnmcpaaForeS
import Derived.Test.YtmhiohijpnmcpaaTideS
import Derived.Deep.AppendLies
import Derived.Deep.CutRange
import Derived.Test.YtmhiohijpnmcpaaTwo
namespace Go.Proofs.Ytmhiohijpnmcpaa
open Go.RowKit

theorem Blk.new2 (w : World) (o : Obj) (t : TypeId) (cs : Array Value) : Blk ((w.alloc o).alloc (.cells cs t)) (w.heap.size + 1) t cs := Blk.new' _ _ (by simp)

set_option maxRecDepth 20000 in
set_option maxHeartbeats 16000000 in
theorem implNarrowerBand_any (m n : Int) (A A' B B' : Option Addr) (c c' d d' : Nat) (ps qs : List Part) (ss ts : List Surge) (w : World) (hr : Rd w w.heap.size Part.at_ 3 A ps) (hr' : Rd w w.heap.size Surge.at_ 3 A' ss) (hq : Rd w w.heap.size Part.at_ 3 B qs) (hq' : Rd w w.heap.size Surge.at_ 3 B' ts)
    (hwf : ∀ p ∈ ps, p.wf) (hwf' : ∀ p ∈ qs, p.wf) (hlen : ps.length ≤ 1048576) (hlen' : ss.length ≤ 1048576) (hlq : qs.length ≤ 1048576) (hlq' : ts.length ≤ 1048576) :
    Calls Try.prog 32 #[.agg #[.int .i64 m, .slice A ps.length c, .slice A' ss.length c'], .agg #[.int .i64 n, .slice B qs.length d, .slice B' ts.length d']] w fun e w' => e = .returned (.bool (narF m n ps qs ss ts)) ∧ Below w.heap.size w w' := by
  obtain ⟨wa, hwa⟩ : ∃ wa, wa = (w.alloc (.cells #[.int .i64 m, .slice A ps.length c, .slice A' ss.length c'] 35)).alloc (.cells #[.int .i64 n, .slice B qs.length d, .slice B' ts.length d'] 35) := ⟨_, rfl⟩
  have hB0 : Below w.heap.size w wa := by rw [hwa]; exact ((Below.refl _ _).alloc (Nat.le_refl _) _).alloc (by simp) _
  have hk0 : Blk wa w.heap.size 35 #[.int .i64 m, .slice A ps.length c, .slice A' ss.length c'] := by rw [hwa]; exact (Blk.new _ _ _).alloc _
  have hl0 : Blk wa (w.heap.size + 1) 35 #[.int .i64 n, .slice B qs.length d, .slice B' ts.length d'] := by rw [hwa]; exact Blk.new' _ _ (by simp)
  have HWA := Lib.hid hwa
  have HR := Lib.hid hr
  have HR' := Lib.hid hr'
  have HQ := Lib.hid hq
  have HQ' := Lib.hid hq'
  clear hwa hr hr' hq hq'
  have RR : ∀ W, Below w.heap.size w W → Rd W W.heap.size Part.at_ 3 A ps := fun W h => (HR.out.below h).more h.size
  have RR' : ∀ W, Below w.heap.size w W → Rd W W.heap.size Surge.at_ 3 A' ss := fun W h => (HR'.out.below h).more h.size
  have QQ : ∀ W, Below w.heap.size w W → Rd W W.heap.size Part.at_ 3 B qs := fun W h => (HQ.out.below h).more h.size
  have QQ' : ∀ W, Below w.heap.size w W → Rd W W.heap.size Surge.at_ 3 B' ts := fun W h => (HQ'.out.below h).more h.size
  have hCA : ∀ W, Below w.heap.size w W → Calls Try.prog 17 #[.agg #[.int .i64 m, .slice A ps.length c, .slice A' ss.length c']] W fun e w' => e = .returned (.bool (foreOk m ps ss)) ∧ Below W.heap.size W w' := fun W h => implForecastOk_any _ _ _ _ _ _ _ _ (RR W h) (RR' W h) hwf hlen hlen'
  have hCB : ∀ W, Below w.heap.size w W → Calls Try.prog 17 #[.agg #[.int .i64 n, .slice B qs.length d, .slice B' ts.length d']] W fun e w' => e = .returned (.bool (foreOk n qs ts)) ∧ Below W.heap.size W w' := fun W h => implForecastOk_any _ _ _ _ _ _ _ _ (QQ W h) (QQ' W h) hwf' hlq hlq'
  have hCS : ∀ W, Below w.heap.size w W → Calls Try.prog 73 #[.agg #[.int .i64 m, .slice A ps.length c], .agg #[.int .i64 n, .slice B qs.length d]] W fun e w' => e = .returned (.bool (sameB m n ps qs)) ∧ Below W.heap.size W w' := fun W h => implSameTides_any _ _ _ _ _ _ _ _ _ (RR W h) (QQ W h) hlen hlq
  have HCA := Lib.hid hCA
  have HCB := Lib.hid hCB
  have HCS := Lib.hid hCS
  have HRR' := Lib.hid RR'
  have HQQ' := Lib.hid QQ'
  clear hCA hCB hCS RR RR' QQ QQ'
  have c0 := hk0.cell 0
  have c1 := hk0.cell 1
  have c2 := hk0.cell 2
  have hlt0 := hl0.lt
  go_enter Try.func32, Try.ntmps32
  go_wp2_with fail
  rw [← HWA.out]
  refine (HCA.out _ hB0).mono ?_
  rintro e w1 ⟨rfl, hb1⟩
  have hB1 := hB0.trans (hb1.mono hB0.size)
  have hk1 := hk0.next hb1
  have hl1 := hl0.next hb1
  clear hk0 hl0 hb1 c0 c1 c2
  cases h1 : foreOk m ps ss
  · go_wp2_with fail
    go_ret
    exact ⟨by simp [narF, h1], hB1⟩
  have d0 := hl1.cell 0
  have d1 := hl1.cell 1
  have d2 := hl1.cell 2
  have HOK1 := Lib.hid h1
  clear h1
  go_wp2_with fail
  refine (HCB.out _ hB1).mono ?_
  rintro e w2 ⟨rfl, hb2⟩
  have hB2 := hB1.trans (hb2.mono hB1.size)
  have hk2 := hk1.next hb2
  have hl2 := hl1.next hb2
  clear hk1 hl1 hb2 d0 d1 d2
  cases h2 : foreOk n qs ts
  · go_wp2_with fail
    go_ret
    exact ⟨by simp [narF, h2], hB2⟩
  have HOK2 := Lib.hid h2
  clear h2
  have c0 := hk2.cell 0
  have c1 := hk2.cell 1
  have d0 := hl2.cell 0
  have d1 := hl2.cell 1
  go_wp2_with fail
  refine (HCS.out _ hB2).mono ?_
  rintro e w3 ⟨rfl, hb3⟩
  have hB3 := hB2.trans (hb3.mono hB2.size)
  have hk3 := hk2.next hb3
  have hl3 := hl2.next hb3
  clear hk2 hl2 hb3 c0 c1 d0 d1
  cases h3 : sameB m n ps qs
  · go_wp2_with fail
    go_ret
    exact ⟨by simp [narF, h3], hB3⟩
  have HRES := Lib.hid (show narF m n ps qs ss ts = narI ss ts by simp [narF, HOK1.out, HOK2.out, h3, nar_eq HOK1.out HOK2.out])
  clear h3
  have hls := (foreOk_len HOK1.out)
  have hlt := (foreOk_len HOK2.out)
  obtain ⟨hls1, hls2⟩ := hls
  obtain ⟨hlt1, hlt2⟩ := hlt
  obtain ⟨ga, offa, rfl, hga, hca⟩ := HR'.out (by omega)
  obtain ⟨gb, offb, rfl, hgb, hcb⟩ := HQ'.out (by omega)
  obtain ⟨i0, hi, hz0, hz1, hz2⟩ := info_parts infoSurge
  have HCLO : Hid (∀ W, Below w.heap.size w W → Calls Try.prog 67 #[.slice (some ⟨ga, offa, none⟩) ss.length c'] W fun e w' => ∃ v, e = .returned v ∧ w'.ownsRow W.heap.size 66 3 v ss.length (flat Surge.at_ 3 ss) ∧ Below W.heap.size W w') := Lib.hid fun W h => cloneSurge_any _ _ _ _ (HRR'.out W h) hlen'
  have HNEWS : Hid (∀ W, Below w.heap.size w W → ∀ j u, (flat Surge.at_ 3 ts)[j]? = some u → W.cell? ((⟨gb, offb, none⟩ : Addr).add j) = some u) := Lib.hid fun W h => (HQQ'.out W h).flat (by omega)
  have hfl := Lib.hid (flat_length Surge.at_ 3 ts)
  have hoc : Hid (∀ u ∈ flat Surge.at_ 3 ts, u.oneCell' = true) := Lib.hid fun u hu => by
    obtain ⟨p, hp, hu⟩ := List.mem_flatMap.1 hu
    simp at hu
    obtain ⟨j, hj, rfl⟩ := hu
    match j, hj with
    | 0, _ => rfl
    | 1, _ => rfl
    | 2, _ => rfl
  have c1 := hk3.cell 2
  have d1 := hl3.cell 2
  have hk3l := hk3.lt
  have hl3l := hl3.lt
  have hB3d := hB3.drew
  have HX1 := Lib.hid hk3
  have HX2 := Lib.hid hl3
  have hz3 := hB3.size
  clear hk3 hl3
  go_wp2_with fail
  go_region_held3 (fun w' => w'.cell? ⟨w.heap.size, 2, none⟩ = some (.slice (some ⟨ga, offa, none⟩) ss.length c') ∧ w'.cell? ⟨w.heap.size + 1, 2, none⟩ = some (.slice (some ⟨gb, offb, none⟩) ts.length d')) (go_keep)
    (first
      | (go_at_call 67; refine (HCLO.out _ hB3d).mono ?_; rintro e w4 ⟨v4, rfl, hown4, hb4⟩; have hcc4 : ∀ b o, b < w3.heap.size → w4.cell? ⟨b, o, none⟩ = w3.cell? ⟨b, o, none⟩ := (bcell hb4).1)
      | (refine step_append_lies _ (by rfl) _ _ _ (by rfl) w3.heap.size 66 i0 _ 3 24 Try.underlying33 hi hz0 hz1 hz2 rfl (by omega) v4 ss.length (flat Surge.at_ 3 ss) (by rfl) hown4 ⟨gb, offb, none⟩ ts.length d' (flat Surge.at_ 3 ts) (by rfl) hfl.out (HNEWS.out w4 (hB3d.trans (hb4.mono hB3d.size))) hoc.out (by omega) (by unfold maxLen; omega) (by omega) hb4.size w4.heap.size rfl ?_; intro g5 cap5 w5 hown5 hgrow5 hat5 hlt5; have hbn5 : Below w3.heap.size w4 w5 := (Below.refl _ _).grown hgrow5 hb4.size (fun q hq => (hown4.lt q hq).1); have hcc5 : ∀ b o, b < w3.heap.size → w5.cell? ⟨b, o, none⟩ = w4.cell? ⟨b, o, none⟩ := fun b o h => hbn5.cell (p := ⟨b, o, none⟩) h))
  have hB4 := hB3d.trans (hb4.mono hB3d.size)
  have hB5 := hB4.trans (hbn5.mono (by omega))
  have hq5 : w5.ownsRow w3.heap.size 66 3 (.slice (some ⟨g5, 0, none⟩) (ss ++ ts).length cap5) (ss ++ ts).length (flat Surge.at_ 3 (ss ++ ts)) := by
    rw [List.length_append, show flat Surge.at_ 3 (ss ++ ts) = flat Surge.at_ 3 ss ++ flat Surge.at_ 3 ts by simp [flat]]
    exact hown5
  obtain ⟨A6, c6, he6, hsl6⟩ := Sl.of_own hq5
  cases he6
  obtain ⟨us, hus⟩ : ∃ us, us = ss ++ ts := ⟨_, rfl⟩
  have hul : us.length = ss.length + ts.length := by rw [hus, List.length_append]
  have HUS := Lib.hid hus
  have HK5 := Lib.hid (((show Blk w3.drew _ _ _ from HX1.out).next hb4).below hbn5 hk3l)
  have HL5 := Lib.hid (((show Blk w3.drew _ _ _ from HX2.out).next hb4).below hbn5 hl3l)
  rw [← hus] at hsl6
  have HRD := Lib.hid hsl6.rd
  have hz5 := hB5.size
  have hl5 := HL5.out.lt
  have hg5l := hlt5
  rw [← hul]
  have hu12 : us.length ≤ 12 := by omega
  have HUL := Lib.hid hul
  clear hus hq5 hown5 hgrow5 hat5 hlt5 hbn5 hown4 hb4 hcc4 hcc5 hsl6 hul HX1 HX2
  go_wp2_with fail
  go_loopw [32] (fun i wr => ∃ k : Nat, k ≤ us.length ∧ i = .int .i64 k ∧ (∀ (j : Nat) (s : Surge), j < k → us[j]? = some s → inAt ss ts s.frm = true) ∧ Rd wr wr.heap.size Surge.at_ 3 (some ⟨g5, 0, none⟩) us ∧ g5 < wr.heap.size ∧ Blk wr w.heap.size 35 #[.int .i64 m, .slice A ps.length c, .slice (some ⟨ga, offa, none⟩) ss.length c'] ∧ Blk wr (w.heap.size + 1) 35 #[.int .i64 n, .slice B qs.length d, .slice (some ⟨gb, offb, none⟩) ts.length d'] ∧ Below w.heap.size w wr) (fun i _ => us.length - (intOf i).toNat)
  case atStart => exact ⟨0, Nat.zero_le _, rfl, fun j s h => absurd h (Nat.not_lt_zero _), HRD.out, hg5l, HK5.out, HL5.out, hB5⟩
  case round =>
    obtain ⟨k, hk, rfl, hall, hrd, hgl, hka, hkb, hbel⟩ := hrel
    have hs := hbel.size
    have HALL := Lib.hid hall
    have hul2 := HUL.out
    clear hall HK5 HL5 hB5 HRD
    by_cases hlt3 : k < us.length
    · obtain ⟨g6, off6, he6, hg6, hc6⟩ := hrd (by omega)
      cases he6
      obtain ⟨s, hsk⟩ : ∃ s, us[k]? = some s := ⟨_, List.getElem?_eq_getElem hlt3⟩
      have s0 := hc6 k s hsk 0 (by omega)
      have s1 := hc6 k s hsk 1 (by omega)
      have s2 := hc6 k s hsk 2 (by omega)
      simp only [Surge.at_, Nat.add_zero, Nat.zero_add] at s0 s1 s2
      have HSK := Lib.hid hsk
      have HC6 := Lib.hid hc6
      have HRD6 := Lib.hid hrd
      have hki : (k : Int) < ss.length + ts.length := by omega
      have hki2 : (k : Int) < us.length := by omega
      have hki0 : (0 : Int) ≤ (k : Int) := by omega
      obtain ⟨x0, x1, x2⟩ := s
      dsimp only at s0 s1 s2
      obtain ⟨wx, hwx⟩ : ∃ wx, wx = wr.alloc (.cells #[.int .i64 x0, .int .i64 x1, .int .i64 x2] 66) := ⟨_, rfl⟩
      have hBx : Below w.heap.size w wx := by rw [hwx]; exact hbel.alloc hs _
      have hkx : Blk wx w.heap.size 35 #[.int .i64 m, .slice A ps.length c, .slice (some ⟨ga, offa, none⟩) ss.length c'] := by rw [hwx]; exact hka.alloc _
      have hlx : Blk wx (w.heap.size + 1) 35 #[.int .i64 n, .slice B qs.length d, .slice (some ⟨gb, offb, none⟩) ts.length d'] := by rw [hwx]; exact hkb.alloc _
      have hsx : Blk wx wr.heap.size 66 #[.int .i64 x0, .int .i64 x1, .int .i64 x2] := by rw [hwx]; exact Blk.new _ _ _
      have hrx : Rd wx wr.heap.size Surge.at_ 3 (some ⟨g5, 0, none⟩) us := by rw [hwx]; exact hrd.alloc (Nat.le_refl _) _
      have hzx : wx.heap.size = wr.heap.size + 1 := by rw [hwx]; simp
      have HWX := Lib.hid hwx
      clear hsk hc6 hrd hwx
      -- the surges of that minute
      have hixa := surgeIx_lt x0 hls1 (Nat.le_refl ss.length)
      have hixb := surgeIx_lt x0 hlt1 (Nat.le_refl ts.length)
      obtain ⟨ka, hka2⟩ : ∃ ka, ka = surgeIx ss x0 ss.length := ⟨_, rfl⟩
      obtain ⟨kb, hkb2⟩ : ∃ kb, kb = surgeIx ts x0 ts.length := ⟨_, rfl⟩
      rw [← hka2] at hixa
      rw [← hkb2] at hixb
      obtain ⟨p, hp⟩ : ∃ p, ss[ka]? = some p := ⟨_, List.getElem?_eq_getElem hixa⟩
      obtain ⟨q, hq⟩ : ∃ q, ts[kb]? = some q := ⟨_, List.getElem?_eq_getElem hixb⟩
      have HV1 := Lib.hid (surgeV_at hka2.symm hp)
      have HV2 := Lib.hid (surgeV_at hkb2.symm hq)
      have a0 := (hBx.cell (p := ⟨ga, offa + ka * 3 + 0, none⟩) hga).trans (hca ka p hp 0 (by omega))
      have a1 := (hBx.cell (p := ⟨ga, offa + ka * 3 + 1, none⟩) hga).trans (hca ka p hp 1 (by omega))
      have a2 := (hBx.cell (p := ⟨ga, offa + ka * 3 + 2, none⟩) hga).trans (hca ka p hp 2 (by omega))
      have b0 := (hBx.cell (p := ⟨gb, offb + kb * 3 + 0, none⟩) hgb).trans (hcb kb q hq 0 (by omega))
      have b1 := (hBx.cell (p := ⟨gb, offb + kb * 3 + 1, none⟩) hgb).trans (hcb kb q hq 1 (by omega))
      have b2 := (hBx.cell (p := ⟨gb, offb + kb * 3 + 2, none⟩) hgb).trans (hcb kb q hq 2 (by omega))
      simp only [Surge.at_, Nat.add_zero] at a0 a1 a2 b0 b1 b2
      have HCa : Hid (∀ W, Below w.heap.size w W → Calls Try.prog 60 #[.agg #[.int .i64 m, .slice A ps.length c, .slice (some ⟨ga, offa, none⟩) ss.length c'], .int .i64 x0] W fun e w' => e = .returned (.int .i64 (ka : Int)) ∧ Below W.heap.size W w') := Lib.hid fun W h => by
        rw [hka2]
        exact implSurge_any _ _ _ _ _ _ _ _ _ (HRR'.out W h) hlen'
      have HCb : Hid (∀ W, Below w.heap.size w W → Calls Try.prog 60 #[.agg #[.int .i64 n, .slice B qs.length d, .slice (some ⟨gb, offb, none⟩) ts.length d'], .int .i64 x0] W fun e w' => e = .returned (.int .i64 (kb : Int)) ∧ Below W.heap.size W w') := Lib.hid fun W h => by
        rw [hkb2]
        exact implSurge_any _ _ _ _ _ _ _ _ _ (HQQ'.out W h) hlq'
      have HFIN : Hid (∀ W, Below wx.heap.size wx W → Rd W W.heap.size Surge.at_ 3 (some ⟨g5, 0, none⟩) us ∧ g5 < W.heap.size ∧ Blk W w.heap.size 35 #[.int .i64 m, .slice A ps.length c, .slice (some ⟨ga, offa, none⟩) ss.length c'] ∧ Blk W (w.heap.size + 1) 35 #[.int .i64 n, .slice B qs.length d, .slice (some ⟨gb, offb, none⟩) ts.length d'] ∧ Below w.heap.size w W) := Lib.hid fun W h =>
        ⟨((hrx.more (by omega)).below h).more h.size, Nat.lt_of_lt_of_le (by omega) h.size, hkx.next h, hlx.next h, hBx.trans (h.mono (by omega))⟩
      have hxw : w.heap.size + 1 < wx.heap.size := hlx.lt
      have hxw0 : w.heap.size < wx.heap.size := by omega
      have hxr : wr.heap.size < wx.heap.size := by omega
      have hxa : ga < wx.heap.size := by omega
      have hxb : gb < wx.heap.size := by omega
      have HSALL : Hid (∀ W : World, Below wx.heap.size wx W → W.cell? ⟨w.heap.size, 0, none⟩ = some (.int .i64 m) ∧ W.cell? ⟨w.heap.size, 1, none⟩ = some (.slice A ps.length c) ∧ W.cell? ⟨w.heap.size, 2, none⟩ = some (.slice (some ⟨ga, offa, none⟩) ss.length c') ∧ W.cell? ⟨w.heap.size + 1, 0, none⟩ = some (.int .i64 n) ∧ W.cell? ⟨w.heap.size + 1, 1, none⟩ = some (.slice B qs.length d) ∧ W.cell? ⟨w.heap.size + 1, 2, none⟩ = some (.slice (some ⟨gb, offb, none⟩) ts.length d') ∧ W.cell? ⟨wr.heap.size, 0, none⟩ = some (.int .i64 x0) ∧ W.cell? ⟨ga, offa + ka * 3, none⟩ = some (.int .i64 p.frm) ∧ W.cell? ⟨ga, offa + ka * 3 + 1, none⟩ = some (.int .i64 p.low) ∧ W.cell? ⟨ga, offa + ka * 3 + 2, none⟩ = some (.int .i64 p.high) ∧ W.cell? ⟨gb, offb + kb * 3, none⟩ = some (.int .i64 q.frm) ∧ W.cell? ⟨gb, offb + kb * 3 + 1, none⟩ = some (.int .i64 q.low) ∧ W.cell? ⟨gb, offb + kb * 3 + 2, none⟩ = some (.int .i64 q.high)) := Lib.hid fun W h => by
        have e : ∀ b o, b < wx.heap.size → W.cell? ⟨b, o, none⟩ = wx.cell? ⟨b, o, none⟩ := fun b o hb => h.cell (p := ⟨b, o, none⟩) hb
        exact ⟨(e _ _ hxw0).trans (hkx.cell 0), (e _ _ hxw0).trans (hkx.cell 1), (e _ _ hxw0).trans (hkx.cell 2), (e _ _ hxw).trans (hlx.cell 0), (e _ _ hxw).trans (hlx.cell 1), (e _ _ hxw).trans (hlx.cell 2), (e _ _ hxr).trans (hsx.cell 0), (e _ _ hxa).trans a0, (e _ _ hxa).trans a1, (e _ _ hxa).trans a2, (e _ _ hxb).trans b0, (e _ _ hxb).trans b1, (e _ _ hxb).trans b2⟩
      have d0 := hkx.cell 0
      have d1 := hkx.cell 1
      have d2 := hkx.cell 2
      have f0 := hlx.cell 0
      have f1 := hlx.cell 1
      have f2 := hlx.cell 2
      have h0 := hsx.cell 0
      have hka0 : (0 : Int) ≤ (ka : Int) := by omega
      have hka1 : (ka : Int) < (ss.length : Int) := by omega
      have hkb0 : (0 : Int) ≤ (kb : Int) := by omega
      have hkb1 : (kb : Int) < (ts.length : Int) := by omega
      have hlBx_0 : w.heap.size < wx.heap.size + 1 := Nat.lt_succ_of_lt hxw0
      have hlCx_0 : ¬ w.heap.size = wx.heap.size := Nat.ne_of_lt hxw0
      have hlDx_0 : ¬ wx.heap.size = w.heap.size := Nat.ne_of_gt hxw0
      have hlEx_0 : ¬ w.heap.size = wx.heap.size + 1 := Nat.ne_of_lt (Nat.lt_succ_of_lt hxw0)
      have hlFx_0 : ¬ wx.heap.size + 1 = w.heap.size := Nat.ne_of_gt (Nat.lt_succ_of_lt hxw0)
      have hlBx_1 : w.heap.size + 1 < wx.heap.size + 1 := Nat.lt_succ_of_lt hxw
      have hlCx_1 : ¬ w.heap.size + 1 = wx.heap.size := Nat.ne_of_lt hxw
      have hlDx_1 : ¬ wx.heap.size = w.heap.size + 1 := Nat.ne_of_gt hxw
      have hlEx_1 : ¬ w.heap.size + 1 = wx.heap.size + 1 := Nat.ne_of_lt (Nat.lt_succ_of_lt hxw)
      have hlFx_1 : ¬ wx.heap.size + 1 = w.heap.size + 1 := Nat.ne_of_gt (Nat.lt_succ_of_lt hxw)
      have hlBx_2 : wr.heap.size < wx.heap.size + 1 := Nat.lt_succ_of_lt hxr
      have hlCx_2 : ¬ wr.heap.size = wx.heap.size := Nat.ne_of_lt hxr
      have hlDx_2 : ¬ wx.heap.size = wr.heap.size := Nat.ne_of_gt hxr
      have hlEx_2 : ¬ wr.heap.size = wx.heap.size + 1 := Nat.ne_of_lt (Nat.lt_succ_of_lt hxr)
      have hlFx_2 : ¬ wx.heap.size + 1 = wr.heap.size := Nat.ne_of_gt (Nat.lt_succ_of_lt hxr)
      have hlBx_3 : ga < wx.heap.size + 1 := Nat.lt_succ_of_lt hxa
      have hlCx_3 : ¬ ga = wx.heap.size := Nat.ne_of_lt hxa
      have hlDx_3 : ¬ wx.heap.size = ga := Nat.ne_of_gt hxa
      have hlEx_3 : ¬ ga = wx.heap.size + 1 := Nat.ne_of_lt (Nat.lt_succ_of_lt hxa)
      have hlFx_3 : ¬ wx.heap.size + 1 = ga := Nat.ne_of_gt (Nat.lt_succ_of_lt hxa)
      have hlBx_4 : gb < wx.heap.size + 1 := Nat.lt_succ_of_lt hxb
      have hlCx_4 : ¬ gb = wx.heap.size := Nat.ne_of_lt hxb
      have hlDx_4 : ¬ wx.heap.size = gb := Nat.ne_of_gt hxb
      have hlEx_4 : ¬ gb = wx.heap.size + 1 := Nat.ne_of_lt (Nat.lt_succ_of_lt hxb)
      have hlFx_4 : ¬ wx.heap.size + 1 = gb := Nat.ne_of_gt (Nat.lt_succ_of_lt hxb)
      have HBX := Lib.hid hBx
      have B1 : Below w.heap.size w wx.drew := hBx.drew
      have B2 : ∀ o, Below w.heap.size w (wx.drew.alloc o) := fun o => B1.alloc hBx.size o
      have B3 : ∀ o1 o2, Below w.heap.size w ((wx.drew.alloc o1).alloc o2) := fun o1 o2 => (B2 o1).alloc (B2 o1).size o2
      have X1 : Below wx.heap.size wx wx.drew := (Below.refl _ _).drew
      have X2 : ∀ o, Below wx.heap.size wx (wx.drew.alloc o) := fun o => X1.alloc (Nat.le_refl _) o
      have X3 : ∀ o1 o2, Below wx.heap.size wx ((wx.drew.alloc o1).alloc o2) := fun o1 o2 => (X2 o1).alloc (X2 o1).size o2
      have HB2' : Hid (∀ o, Below w.heap.size w (wx.alloc o).drew) := Lib.hid fun o => (hBx.alloc hBx.size o).drew
      have HB3' : Hid (∀ o1 o2, Below w.heap.size w ((wx.alloc o1).alloc o2).drew) := Lib.hid fun o1 o2 => ((hBx.alloc hBx.size o1).alloc (hBx.alloc hBx.size o1).size o2).drew
      have HX2' : Hid (∀ o, Below wx.heap.size wx (wx.alloc o).drew) := Lib.hid fun o => ((Below.refl _ _).alloc (Nat.le_refl _) o).drew
      have HX3' : Hid (∀ o1 o2, Below wx.heap.size wx ((wx.alloc o1).alloc o2).drew) := Lib.hid fun o1 o2 => (((Below.refl _ _).alloc (Nat.le_refl _) o1).alloc (by simp) o2).drew
      have HB1 := Lib.hid B1
      have HB2 := Lib.hid B2
      have HB3 := Lib.hid B3
      have HX1 := Lib.hid X1
      have HX2 := Lib.hid X2
      have HX3 := Lib.hid X3
      clear hka hkb hkx hlx hsx hrx hp hq hka2 hkb2 hzx B1 B2 B3 X1 X2 X3 hul2
      go_wp2_with fail
      rw [← HWX.out]
      clear s0 s1 s2
      have HSK2 := Lib.hid (show (ss ++ ts)[k]? = some (⟨x0, x1, x2⟩ : Surge) by rw [← HUS.out]; exact HSK.out)
      go_cut [7, 8, 32] from 32 to 64 (fun x y i wc => TwoRel wx.heap.size wx 66 #[.int .i64 p.frm, .int .i64 p.low, .int .i64 p.high] #[.int .i64 q.frm, .int .i64 q.low, .int .i64 q.high] wc x y ∧ i = .int .i64 k)
      case first =>
        rename_i J K' hRJ hMK
        have hflagA : True := trivial
        go_region_held3 (fun w' => w'.cell? ⟨w.heap.size, 0, none⟩ = some (.int .i64 m) ∧ w'.cell? ⟨w.heap.size, 1, none⟩ = some (.slice A ps.length c) ∧ w'.cell? ⟨w.heap.size, 2, none⟩ = some (.slice (some ⟨ga, offa, none⟩) ss.length c') ∧ w'.cell? ⟨w.heap.size + 1, 0, none⟩ = some (.int .i64 n) ∧ w'.cell? ⟨w.heap.size + 1, 1, none⟩ = some (.slice B qs.length d) ∧ w'.cell? ⟨w.heap.size + 1, 2, none⟩ = some (.slice (some ⟨gb, offb, none⟩) ts.length d') ∧ w'.cell? ⟨wr.heap.size, 0, none⟩ = some (.int .i64 x0) ∧ w'.cell? ⟨ga, offa + ka * 3, none⟩ = some (.int .i64 p.frm) ∧ w'.cell? ⟨ga, offa + ka * 3 + 1, none⟩ = some (.int .i64 p.low) ∧ w'.cell? ⟨ga, offa + ka * 3 + 2, none⟩ = some (.int .i64 p.high) ∧ w'.cell? ⟨gb, offb + kb * 3, none⟩ = some (.int .i64 q.frm) ∧ w'.cell? ⟨gb, offb + kb * 3 + 1, none⟩ = some (.int .i64 q.low) ∧ w'.cell? ⟨gb, offb + kb * 3 + 2, none⟩ = some (.int .i64 q.high)) (first | go_keep | (refine HSALL.out _ ?_; (repeat (first | exact hX8 | exact hX7 | exact HX1.out | refine Below.setCell ?_ (by first | omega | (simp; omega)) _ | refine Below.alloc ?_ (by first | omega | (simp; omega)) _ | refine Below.drewN ?_ _ | refine Below.drew ?_))))
          (first
            | (go_at_call 60; clear hflagA; refine (HCa.out _ ?_).mono ?_; (first | exact HB1.out | exact HB2'.out _ | exact HB3'.out _ _ | exact HB2.out _ | exact HB3.out _ _); rintro e w7 ⟨rfl, hb7⟩; have hX7 : Below wx.heap.size wx w7 := (by first | exact HX1.out.trans hb7 | exact (HX2'.out _).trans (hb7.mono (HX2'.out _).size) | exact (HX3'.out _ _).trans (hb7.mono (HX3'.out _ _).size) | exact (HX2.out _).trans (hb7.mono (HX2.out _).size) | exact (HX3.out _ _).trans (hb7.mono (HX3.out _ _).size)); have hcc7 : ∀ b o, b < wx.heap.size → w7.cell? ⟨b, o, none⟩ = wx.cell? ⟨b, o, none⟩ := (fun b o h => hX7.cell (p := ⟨b, o, none⟩) h); (try have n7a : Blk w7 wx.heap.size 66 #[.int .i64 0, .int .i64 0, .int .i64 0] := (Blk.new wx.drew _ _).next hb7); (try have n7a : Blk w7 wx.heap.size 66 #[.int .i64 0, .int .i64 0, .int .i64 0] := ((Blk.new wx.drew _ _).alloc _).next hb7); (try have n7b : Blk w7 (wx.heap.size + 1) 66 #[.int .i64 0, .int .i64 0, .int .i64 0] := (Blk.new2 wx.drew _ _ _).next hb7); (try have n7ac0 := n7a.cell 0); (try have n7ac1 := n7a.cell 1); (try have n7ac2 := n7a.cell 2); (try have n7af0 := n7a.frozen 0); (try have n7af1 := n7a.frozen 1); (try have n7af2 := n7a.frozen 2); (try have n7al := n7a.lt); (try have n7am := Nat.lt_succ_of_lt n7a.lt); (try have n7an := Nat.ne_of_lt n7a.lt); (try have n7ao := Nat.ne_of_gt n7a.lt); (try have n7bc0 := n7b.cell 0); (try have n7bc1 := n7b.cell 1); (try have n7bc2 := n7b.cell 2); (try have n7bf0 := n7b.frozen 0); (try have n7bf1 := n7b.frozen 1); (try have n7bf2 := n7b.frozen 2); (try have n7bl := n7b.lt); (try have n7bm := Nat.lt_succ_of_lt n7b.lt); (try have n7bn := Nat.ne_of_lt n7b.lt); (try have n7bo := Nat.ne_of_gt n7b.lt); have hW7 : Below w.heap.size w w7 := HBX.out.trans (hX7.mono (Nat.le_of_lt hxw0)); have hz7 := hX7.size; have hlA7_0 : w.heap.size < w7.heap.size := Nat.lt_of_lt_of_le hxw0 hX7.size; have hlA7_1 : w.heap.size + 1 < w7.heap.size := Nat.lt_of_lt_of_le hxw hX7.size; have hlA7_2 : wr.heap.size < w7.heap.size := Nat.lt_of_lt_of_le hxr hX7.size; have hlA7_3 : ga < w7.heap.size := Nat.lt_of_lt_of_le hxa hX7.size; have hlA7_4 : gb < w7.heap.size := Nat.lt_of_lt_of_le hxb hX7.size; have hlB7_0 : w.heap.size < w7.heap.size + 1 := Nat.lt_succ_of_lt hlA7_0; have hlC7_0 : ¬ w.heap.size = w7.heap.size := Nat.ne_of_lt hlA7_0; have hlD7_0 : ¬ w7.heap.size = w.heap.size := Nat.ne_of_gt hlA7_0; have hlE7_0 : ¬ w.heap.size = w7.heap.size + 1 := Nat.ne_of_lt (Nat.lt_succ_of_lt hlA7_0); have hlF7_0 : ¬ w7.heap.size + 1 = w.heap.size := Nat.ne_of_gt (Nat.lt_succ_of_lt hlA7_0); have hlB7_1 : w.heap.size + 1 < w7.heap.size + 1 := Nat.lt_succ_of_lt hlA7_1; have hlC7_1 : ¬ w.heap.size + 1 = w7.heap.size := Nat.ne_of_lt hlA7_1; have hlD7_1 : ¬ w7.heap.size = w.heap.size + 1 := Nat.ne_of_gt hlA7_1; have hlE7_1 : ¬ w.heap.size + 1 = w7.heap.size + 1 := Nat.ne_of_lt (Nat.lt_succ_of_lt hlA7_1); have hlF7_1 : ¬ w7.heap.size + 1 = w.heap.size + 1 := Nat.ne_of_gt (Nat.lt_succ_of_lt hlA7_1); have hlB7_2 : wr.heap.size < w7.heap.size + 1 := Nat.lt_succ_of_lt hlA7_2; have hlC7_2 : ¬ wr.heap.size = w7.heap.size := Nat.ne_of_lt hlA7_2; have hlD7_2 : ¬ w7.heap.size = wr.heap.size := Nat.ne_of_gt hlA7_2; have hlE7_2 : ¬ wr.heap.size = w7.heap.size + 1 := Nat.ne_of_lt (Nat.lt_succ_of_lt hlA7_2); have hlF7_2 : ¬ w7.heap.size + 1 = wr.heap.size := Nat.ne_of_gt (Nat.lt_succ_of_lt hlA7_2); have hlB7_3 : ga < w7.heap.size + 1 := Nat.lt_succ_of_lt hlA7_3; have hlC7_3 : ¬ ga = w7.heap.size := Nat.ne_of_lt hlA7_3; have hlD7_3 : ¬ w7.heap.size = ga := Nat.ne_of_gt hlA7_3; have hlE7_3 : ¬ ga = w7.heap.size + 1 := Nat.ne_of_lt (Nat.lt_succ_of_lt hlA7_3); have hlF7_3 : ¬ w7.heap.size + 1 = ga := Nat.ne_of_gt (Nat.lt_succ_of_lt hlA7_3); have hlB7_4 : gb < w7.heap.size + 1 := Nat.lt_succ_of_lt hlA7_4; have hlC7_4 : ¬ gb = w7.heap.size := Nat.ne_of_lt hlA7_4; have hlD7_4 : ¬ w7.heap.size = gb := Nat.ne_of_gt hlA7_4; have hlE7_4 : ¬ gb = w7.heap.size + 1 := Nat.ne_of_lt (Nat.lt_succ_of_lt hlA7_4); have hlF7_4 : ¬ w7.heap.size + 1 = gb := Nat.ne_of_gt (Nat.lt_succ_of_lt hlA7_4))
            | (go_at_call 60; refine (HCb.out _ ?_).mono ?_; (first | exact hW7 | exact hW7.alloc hW7.size _ | exact (hW7.alloc hW7.size _).alloc (hW7.alloc hW7.size _).size _); rintro e w8 ⟨rfl, hb8⟩; have hY8 : Below w7.heap.size w7 w8 := (by first | exact hb8 | exact ((Below.refl _ w7).alloc (Nat.le_refl _) _).trans (hb8.mono (by simp)) | exact (((Below.refl _ w7).alloc (Nat.le_refl _) _).alloc (by simp) _).trans (hb8.mono (by simp; omega))); have hX8 : Below wx.heap.size wx w8 := hX7.trans (hY8.mono hX7.size); have hcc8 : ∀ b o, b < wx.heap.size → w8.cell? ⟨b, o, none⟩ = wx.cell? ⟨b, o, none⟩ := (fun b o h => hX8.cell (p := ⟨b, o, none⟩) h); (try have m7a := n7a.next hY8); (try have m7b := n7b.next hY8); (try have p8a : Blk w8 w7.heap.size 66 #[.int .i64 0, .int .i64 0, .int .i64 0] := (Blk.new w7 _ _).next hb8); (try have p8a : Blk w8 w7.heap.size 66 #[.int .i64 0, .int .i64 0, .int .i64 0] := ((Blk.new w7 _ _).alloc _).next hb8); (try have p8b : Blk w8 (w7.heap.size + 1) 66 #[.int .i64 0, .int .i64 0, .int .i64 0] := (Blk.new2 w7 _ _ _).next hb8); (try have m7ac0 := m7a.cell 0); (try have m7ac1 := m7a.cell 1); (try have m7ac2 := m7a.cell 2); (try have m7af0 := m7a.frozen 0); (try have m7af1 := m7a.frozen 1); (try have m7af2 := m7a.frozen 2); (try have m7al := m7a.lt); (try have m7am := Nat.lt_succ_of_lt m7a.lt); (try have m7an := Nat.ne_of_lt m7a.lt); (try have m7ao := Nat.ne_of_gt m7a.lt); (try have m7bc0 := m7b.cell 0); (try have m7bc1 := m7b.cell 1); (try have m7bc2 := m7b.cell 2); (try have m7bf0 := m7b.frozen 0); (try have m7bf1 := m7b.frozen 1); (try have m7bf2 := m7b.frozen 2); (try have m7bl := m7b.lt); (try have m7bm := Nat.lt_succ_of_lt m7b.lt); (try have m7bn := Nat.ne_of_lt m7b.lt); (try have m7bo := Nat.ne_of_gt m7b.lt); (try have p8ac0 := p8a.cell 0); (try have p8ac1 := p8a.cell 1); (try have p8ac2 := p8a.cell 2); (try have p8af0 := p8a.frozen 0); (try have p8af1 := p8a.frozen 1); (try have p8af2 := p8a.frozen 2); (try have p8al := p8a.lt); (try have p8am := Nat.lt_succ_of_lt p8a.lt); (try have p8an := Nat.ne_of_lt p8a.lt); (try have p8ao := Nat.ne_of_gt p8a.lt); (try have p8bc0 := p8b.cell 0); (try have p8bc1 := p8b.cell 1); (try have p8bc2 := p8b.cell 2); (try have p8bf0 := p8b.frozen 0); (try have p8bf1 := p8b.frozen 1); (try have p8bf2 := p8b.frozen 2); (try have p8bl := p8b.lt); (try have p8bm := Nat.lt_succ_of_lt p8b.lt); (try have p8bn := Nat.ne_of_lt p8b.lt); (try have p8bo := Nat.ne_of_gt p8b.lt); have hz8 := hX8.size; have hz78 := hY8.size; have hlA8_0 : w.heap.size < w8.heap.size := Nat.lt_of_lt_of_le hxw0 hX8.size; have hlA8_1 : w.heap.size + 1 < w8.heap.size := Nat.lt_of_lt_of_le hxw hX8.size; have hlA8_2 : wr.heap.size < w8.heap.size := Nat.lt_of_lt_of_le hxr hX8.size; have hlA8_3 : ga < w8.heap.size := Nat.lt_of_lt_of_le hxa hX8.size; have hlA8_4 : gb < w8.heap.size := Nat.lt_of_lt_of_le hxb hX8.size; have hlB8_0 : w.heap.size < w8.heap.size + 1 := Nat.lt_succ_of_lt hlA8_0; have hlC8_0 : ¬ w.heap.size = w8.heap.size := Nat.ne_of_lt hlA8_0; have hlD8_0 : ¬ w8.heap.size = w.heap.size := Nat.ne_of_gt hlA8_0; have hlE8_0 : ¬ w.heap.size = w8.heap.size + 1 := Nat.ne_of_lt (Nat.lt_succ_of_lt hlA8_0); have hlF8_0 : ¬ w8.heap.size + 1 = w.heap.size := Nat.ne_of_gt (Nat.lt_succ_of_lt hlA8_0); have hlB8_1 : w.heap.size + 1 < w8.heap.size + 1 := Nat.lt_succ_of_lt hlA8_1; have hlC8_1 : ¬ w.heap.size + 1 = w8.heap.size := Nat.ne_of_lt hlA8_1; have hlD8_1 : ¬ w8.heap.size = w.heap.size + 1 := Nat.ne_of_gt hlA8_1; have hlE8_1 : ¬ w.heap.size + 1 = w8.heap.size + 1 := Nat.ne_of_lt (Nat.lt_succ_of_lt hlA8_1); have hlF8_1 : ¬ w8.heap.size + 1 = w.heap.size + 1 := Nat.ne_of_gt (Nat.lt_succ_of_lt hlA8_1); have hlB8_2 : wr.heap.size < w8.heap.size + 1 := Nat.lt_succ_of_lt hlA8_2; have hlC8_2 : ¬ wr.heap.size = w8.heap.size := Nat.ne_of_lt hlA8_2; have hlD8_2 : ¬ w8.heap.size = wr.heap.size := Nat.ne_of_gt hlA8_2; have hlE8_2 : ¬ wr.heap.size = w8.heap.size + 1 := Nat.ne_of_lt (Nat.lt_succ_of_lt hlA8_2); have hlF8_2 : ¬ w8.heap.size + 1 = wr.heap.size := Nat.ne_of_gt (Nat.lt_succ_of_lt hlA8_2); have hlB8_3 : ga < w8.heap.size + 1 := Nat.lt_succ_of_lt hlA8_3; have hlC8_3 : ¬ ga = w8.heap.size := Nat.ne_of_lt hlA8_3; have hlD8_3 : ¬ w8.heap.size = ga := Nat.ne_of_gt hlA8_3; have hlE8_3 : ¬ ga = w8.heap.size + 1 := Nat.ne_of_lt (Nat.lt_succ_of_lt hlA8_3); have hlF8_3 : ¬ w8.heap.size + 1 = ga := Nat.ne_of_gt (Nat.lt_succ_of_lt hlA8_3); have hlB8_4 : gb < w8.heap.size + 1 := Nat.lt_succ_of_lt hlA8_4; have hlC8_4 : ¬ gb = w8.heap.size := Nat.ne_of_lt hlA8_4; have hlD8_4 : ¬ w8.heap.size = gb := Nat.ne_of_gt hlA8_4; have hlE8_4 : ¬ gb = w8.heap.size + 1 := Nat.ne_of_lt (Nat.lt_succ_of_lt hlA8_4); have hlF8_4 : ¬ w8.heap.size + 1 = gb := Nat.ne_of_gt (Nat.lt_succ_of_lt hlA8_4)))
        · show K' _ _
          refine hMK _ _ ?_
          show J _ _
          refine hRJ _ _ ?_
          (repeat apply Exists.intro)
          refine ⟨?_, rfl⟩
          with_reducible exact ⟨rel1 hX8 hX8.size, rfl⟩
        · show K' _ _
          refine hMK _ _ ?_
          show J _ _
          refine hRJ _ _ ?_
          (repeat apply Exists.intro)
          refine ⟨?_, rfl⟩
          with_reducible exact ⟨rel2 hX8 hX8.size, rfl⟩
        · show K' _ _
          refine hMK _ _ ?_
          show J _ _
          refine hRJ _ _ ?_
          (repeat apply Exists.intro)
          refine ⟨?_, rfl⟩
          with_reducible exact ⟨rel3 hX8 hX8.size p8a hX7.size, rfl⟩
        · show K' _ _
          refine hMK _ _ ?_
          show J _ _
          refine hRJ _ _ ?_
          (repeat apply Exists.intro)
          refine ⟨?_, rfl⟩
          with_reducible exact ⟨rel4 hX8 p8a p8b hX7.size (Nat.le_succ_of_le hX7.size) (Nat.ne_of_lt (Nat.lt_succ_self _)), rfl⟩
        · show K' _ _
          refine hMK _ _ ?_
          show J _ _
          refine hRJ _ _ ?_
          (repeat apply Exists.intro)
          refine ⟨?_, rfl⟩
          with_reducible exact ⟨rel3' hX8 hX8.size p8a hX7.size, rfl⟩
        · show K' _ _
          refine hMK _ _ ?_
          show J _ _
          refine hRJ _ _ ?_
          (repeat apply Exists.intro)
          refine ⟨?_, rfl⟩
          with_reducible exact ⟨rel4 hX8 p8b p8a (Nat.le_succ_of_le hX7.size) hX7.size (Nat.ne_of_gt (Nat.lt_succ_self _)), rfl⟩
        · show K' _ _
          refine hMK _ _ ?_
          show J _ _
          refine hRJ _ _ ?_
          (repeat apply Exists.intro)
          refine ⟨?_, rfl⟩
          with_reducible exact ⟨rel3 hX8 hX8.size m7a (Nat.le_refl _), rfl⟩
        · show K' _ _
          refine hMK _ _ ?_
          show J _ _
          refine hRJ _ _ ?_
          (repeat apply Exists.intro)
          refine ⟨?_, rfl⟩
          with_reducible exact ⟨rel4 hX8 m7a p8a (Nat.le_refl _) hX7.size (Nat.ne_of_lt n7a.lt), rfl⟩
        · show K' _ _
          refine hMK _ _ ?_
          show J _ _
          refine hRJ _ _ ?_
          (repeat apply Exists.intro)
          refine ⟨?_, rfl⟩
          with_reducible exact ⟨rel4 hX8 m7a m7b (Nat.le_refl _) (Nat.le_succ _) (Nat.ne_of_lt (Nat.lt_succ_self _)), rfl⟩
        · show K' _ _
          refine hMK _ _ ?_
          show J _ _
          refine hRJ _ _ ?_
          (repeat apply Exists.intro)
          refine ⟨?_, rfl⟩
          with_reducible exact ⟨rel3' hX8 hX8.size m7a (Nat.le_refl _), rfl⟩
        · show K' _ _
          refine hMK _ _ ?_
          show J _ _
          refine hRJ _ _ ?_
          (repeat apply Exists.intro)
          refine ⟨?_, rfl⟩
          with_reducible exact ⟨rel4 hX8 p8a m7a hX7.size (Nat.le_refl _) (Nat.ne_of_gt n7a.lt), rfl⟩
        · show K' _ _
          refine hMK _ _ ?_
          show J _ _
          refine hRJ _ _ ?_
          (repeat apply Exists.intro)
          refine ⟨?_, rfl⟩
          with_reducible exact ⟨rel4 hX8 m7b m7a (Nat.le_succ _) (Nat.le_refl _) (Nat.ne_of_gt (Nat.lt_succ_self _)), rfl⟩
      case rest =>
        obtain ⟨⟨⟨b7, b8, rfl, rfl, hbk7, hbk8⟩, hX9⟩, rfl⟩ := hcut
        have hb7 := hbk7.lt
        have hb8 := hbk8.lt
        have e1 := hbk7.cell 1
        have e2 := hbk7.cell 2
        have e3 := hbk8.cell 1
        have e4 := hbk8.cell 2
        clear hbk7 hbk8
        by_cases t1 : p.low < q.low
        · have HX := Lib.hid (narI_bad HSK2.out (inAt_bad HV1.out HV2.out (.inl t1)))
          go_wp2_with fail
          go_ret
          exact ⟨by rw [HRES.out, HX.out]; rfl, (HFIN.out _ hX9).2.2.2.2⟩
        by_cases t2 : q.high < p.high
        · have HX := Lib.hid (narI_bad HSK2.out (inAt_bad HV1.out HV2.out (.inr t2)))
          go_wp2_with fail
          go_ret
          exact ⟨by rw [HRES.out, HX.out]; rfl, (HFIN.out _ hX9).2.2.2.2⟩
        have HX := Lib.hid (inAt_good HV1.out HV2.out t1 t2)
        go_wp2_with fail
        go_roundw
        case rel =>
          exact ⟨k + 1, by omega, by go_num, fun j s hj hs => by
            by_cases e : j = k
            · subst e
              rw [HSK.out] at hs
              cases hs
              exact HX.out
            · exact HALL.out j s (by omega) hs, HFIN.out _ hX9⟩
        case measure => simp [intOf]; omega
    · have hki : ¬ (k : Int) < ss.length + ts.length := by omega
      have HX := Lib.hid (narI_good (ss := ss) (ts := ts) fun j s hj => HALL.out j s (by have h1 := (List.getElem?_eq_some_iff.1 hj).1; rw [List.length_append] at h1; omega) (by rw [HUS.out]; exact hj))
      go_wp2_with fail
      go_ret
      exact ⟨by rw [HRES.out, HX.out]; rfl, hbel⟩

end Go.Proofs.Ytmhiohijpnmcpaa
