/-
  FnRoutes: every route that is found runs from a to b, is as long as its points, and takes no less than the best one; the best one back takes as long. No condition.
-/
import Derived.Test.YtjmfgncakegjaaaRtsL
import Derived.Test.YtjmfgncakegjaaaOpenB
namespace Go.Proofs.Ytjmfgncakegjaaa
open Go.ChangeShapes Go.WideShapes Go.ChangeAt Go.RowKit

theorem mod_nat (x : Int) {n : Nat} (h : 0 < n) : ∃ a : Nat, x % (n : Int) = (a : Int) ∧ a < n := by
  have h1 := Int.emod_nonneg x (show (n : Int) ≠ 0 by omega)
  have h2 := Int.emod_lt_of_pos x (show (0 : Int) < (n : Int) by omega)
  exact ⟨(x % (n : Int)).toNat, (Int.toNat_of_nonneg h1).symm, by omega⟩

theorem has_int {w : World} {g i : Nat} {t : TypeId} {p : List Int} {v : Int} (h : Has w g t intAt 1 p) (hv : p[i]? = some v) : w.cell? ⟨g, i, none⟩ = some (.int .i64 v) := by
  obtain ⟨g', off, e, _, hc⟩ := h.rd (Nat.lt_of_le_of_lt (Nat.zero_le _) (List.getElem?_eq_some_iff.1 hv).1)
  cases e
  have := hc i v hv 0 (by omega)
  simpa [intAt] using this

set_option maxRecDepth 20000 in
set_option maxHeartbeats 16000000 in
theorem fnRoutes_walk {v0 : Value} {zs : List Int} (w : World) (h0 : IsBytes w v0 zs) :
    Calls Try.prog 12 #[v0] w fun e w' => e = .returned (.bool true) ∧ Below w.heap.size w w' := by
  obtain ⟨A, c, rfl, hr, hml, hz⟩ := h0
  unfold maxLen at hml
  go_enter Try.func12, Try.ntmps12
  by_cases hlen : zs.length ≤ 1048576
  case neg =>
    go_wp2_with fail
    go_ret
    exact ⟨rfl, Below.refl _ _⟩
  have HC1 := Lib.hid (MakeChart_any A c 1 zs w hr hlen hz (by omega))
  go_wp2_with fail
  refine HC1.out.mono ?_
  rintro e w1 ⟨A1, A2, c1, c2, ps, ss, rfl, hcap, hdr, hs1, hs2, hB1⟩
  clear HC1
  have hpl := drawn_len hdr
  obtain ⟨wb, hwb⟩ : ∃ wb, wb = w1.alloc (.cells #[.slice A1 ps.length c1, .slice A2 ss.length c2] 31) := ⟨_, rfl⟩
  have hbb : Below w1.heap.size w1 wb := by rw [hwb]; exact (Below.refl _ _).alloc (Nat.le_refl _) _
  have hbk : Blk wb w1.heap.size 31 #[.slice A1 ps.length c1, .slice A2 ss.length c2] := by rw [hwb]; exact Blk.new _ _ _
  obtain ⟨bx, hbx⟩ : ∃ bx, bx = w1.heap.size := ⟨_, rfl⟩
  have hBb := hB1.trans (hbb.mono hB1.size)
  have HSP := Lib.hid (hs1.next hbb)
  have HCH := Lib.hid (show ChS A1 A2 c2 ps ss wb from ⟨(hs1.next hbb).rd, (hs2.next hbb).rd, hdr, hcap⟩)
  have HWB := Lib.hid hwb
  have HBX := Lib.hid hbx
  rw [← hbx] at hbk
  have HBK := Lib.hid hbk
  have HBB := Lib.hid hBb
  have hzb : w.heap.size ≤ wb.heap.size := hBb.size
  have hlb : bx < wb.heap.size := hbk.lt
  have cb0 := hbk.cell 0
  have HDR := Lib.hid hdr
  have HR := Lib.hid hr
  have HC2 := Lib.hid (MakeNum_any A c 60 zs wb ((hr.below hBb).more hBb.size) hlen hz (by omega))
  clear hs1 hs2 hcap hdr hB1 hbb hbk hwb hbx hBb hr
  go_wp2_with fail
  rw [← HWB.out, ← HBX.out]
  refine HC2.out.mono ?_
  rintro e w2 ⟨x, rfl, hx0, hx1, hb2⟩
  have hB2 := HBB.out.trans (hb2.mono hzb)
  have HC3 := Lib.hid (MakeNum_any A c 62 zs w2 ((HR.out.below hB2).more hB2.size) hlen hz (by omega))
  have hz2 := hb2.size
  have HB2 := Lib.hid hb2
  clear HC2 hb2 hB2
  go_wp2_with fail
  refine HC3.out.mono ?_
  rintro e w3 ⟨y, rfl, hy0, hy1, hb3⟩
  obtain ⟨a, hxa, ha⟩ := mod_nat x (show 0 < ps.length by omega)
  obtain ⟨b, hyb, hb⟩ := mod_nat y (show 0 < ps.length by omega)
  have HXA := Lib.hid hxa
  have HYB := Lib.hid hyb
  obtain ⟨hends, hlenb⟩ := drawn_ends HDR.out ha hb
  obtain ⟨best, hbest⟩ := bestF_some (f := minsF ps ss) hends
  obtain ⟨back, hback⟩ := bestF_some (f := minsF ps ss) (drawn_ends HDR.out hb ha).1
  have h8 : best.length ≤ 8 := routesB_short (bestF_mem hbest)
  have h8' : back.length ≤ 8 := routesB_short (bestF_mem hback)
  have hresl : (routesB ps ss a b).length ≤ 10000000 := routesB_count fun h => (chartOk_len h).2
  have hch3 := HCH.out.next (HB2.out.trans (hb3.mono hz2))
  have hbk3 := HBK.out.next (HB2.out.trans (hb3.mono hz2))
  have hBB3 := HBB.out.trans ((HB2.out.trans (hb3.mono hz2)).mono hzb)
  have HC4 := Lib.hid (hch3.routes (c1 := c1) a b)
  have hbn : 0 < (routesB ps ss a b).length := by
    cases hq : routesB ps ss a b with
    | nil => exact absurd hq hends
    | cons _ _ => exact Nat.succ_pos _
  have HEACH : Hid (∀ r ∈ routesB ps ss a b, ∃ p, RouteFine ps ss a b best r p) := Lib.hid fun r hr => drawn_route HDR.out ha hb hbest hr
  have HSHORT : Hid (∀ r ∈ routesB ps ss a b, r.length ≤ 8) := Lib.hid fun r hr => routesB_short hr
  have HBEST := Lib.hid hbest
  have HBACK := Lib.hid hback
  have HMM := Lib.hid (drawn_back HDR.out ha hb hbest hback)
  obtain ⟨res, hres⟩ : ∃ res, res = routesB ps ss a b := ⟨_, rfl⟩
  rw [← hres] at HC4 hbn HEACH HSHORT hlenb hresl
  have HLENB := Lib.hid hlenb
  have hbz : (0 : Int) < (res.length : Int) := by omega
  have hgz : decide ((0 : Int) < (res.length : Int)) = true := decide_eq_true hbz
  have HCH3 := Lib.hid hch3
  have HBK3 := Lib.hid hbk3
  have HBB3 := Lib.hid hBB3
  have c3_0 := hbk3.cell 0
  have c3_1 := hbk3.cell 1
  have hl3 := hbk3.lt
  have hz3 := hBB3.size
  clear HC3 hb3 hz2 HB2 hxa hyb hends hlenb hbest hback hch3 hbk3 hBB3 hres cb0
  go_wp2_with fail
  rw [HXA.out, HYB.out]
  refine HC4.out.mono ?_
  rintro e w4 ⟨A3, c3, rfl, hrows, hb4⟩
  have hch4 := HCH3.out.next hb4
  have hbk4 := HBK3.out.next hb4
  have hBB4 := HBB3.out.trans (hb4.mono hz3)
  have HC5 := Lib.hid (hch4.best (c1 := c1) HBEST.out)
  have HROW4 := Lib.hid hrows
  have HCH4 := Lib.hid hch4
  have HBK4 := Lib.hid hbk4
  have HBB4 := Lib.hid hBB4
  have c4_0 := hbk4.cell 0
  have c4_1 := hbk4.cell 1
  have hl4 := hbk4.lt
  have hz4 := hBB4.size
  clear HC4 HCH3 HBK3 HBB3 c3_0 c3_1 hl3 hz3 hb4 hch4 hbk4 hBB4 hrows
  go_wp2_with fail
  refine HC5.out.mono ?_
  rintro e w5 ⟨A4, c4, rfl, hsb, hb5⟩
  have hch5 := HCH4.out.next hb5
  have hbk5 := HBK4.out.next hb5
  have hBB5 := HBB4.out.trans (hb5.mono hz4)
  have HC6 := Lib.hid (hch5.okC (c1 := c1))
  have HROW5 := Lib.hid (HROW4.out.next hb5)
  have HSB5 := Lib.hid hsb
  have HCH5 := Lib.hid hch5
  have HBK5 := Lib.hid hbk5
  have HBB5 := Lib.hid hBB5
  have c5_0 := hbk5.cell 0
  have c5_1 := hbk5.cell 1
  have hl5 := hbk5.lt
  have hz5 := hBB5.size
  clear HC5 HCH4 HBK4 HBB4 HROW4 c4_0 c4_1 hl4 hz4 hb5 hch5 hbk5 hBB5 hsb
  go_wp2_with fail
  refine HC6.out.mono ?_
  rintro e w6 ⟨rfl, hb6⟩
  have HROW := Lib.hid (HROW5.out.next hb6)
  have HSB := Lib.hid (HSB5.out.next hb6)
  have HCH6 := Lib.hid (HCH5.out.next hb6)
  have HBK6 := Lib.hid (HBK5.out.next hb6)
  have HBB6 := Lib.hid (HBB5.out.trans (hb6.mono hz5))
  have hl6 : bx < w6.heap.size := HBK6.out.lt
  have hz6 : w.heap.size ≤ w6.heap.size := HBB6.out.size
  clear HC6 HCH5 HBK5 HBB5 HROW5 HSB5 c5_0 c5_1 hl5 hz5 hb6
  obtain ⟨r0, hr0⟩ : ∃ r0, res[0]? = some r0 := ⟨_, List.getElem?_eq_getElem hbn⟩
  obtain ⟨go, _, _, rfl, _⟩ := HROW.out.at_ hr0
  clear hr0
  go_wp2_with fail
  go_loopw [60] (fun i wr => ∃ k : Nat, k ≤ res.length ∧ i = .int .i64 k ∧ Below w6.heap.size w6 wr) (fun i _ => res.length - (intOf i).toNat)
  case atStart => exact ⟨0, Nat.zero_le _, rfl, Below.refl _ _⟩
  case round =>
    obtain ⟨k, hk, rfl, hbel⟩ := hrel
    by_cases hlt : k < res.length
    · obtain ⟨r, hrk⟩ : ∃ r, res[k]? = some r := ⟨_, List.getElem?_eq_getElem hlt⟩
      obtain ⟨go', g1, d1, e, _, _, hgo', q1, k3, k4, hh1⟩ := (HROW.out.next hbel).at_ hrk
      cases e
      have hr8 := HSHORT.out r (List.mem_of_getElem? hrk)
      obtain ⟨p, hf⟩ := HEACH.out r (List.mem_of_getElem? hrk)
      have hk0 : (0 : Int) ≤ (k : Int) := Int.natCast_nonneg _
      have hk1 : (k : Int) < (res.length : Int) := by omega
      have hkr := HBK6.out.next hbel
      have hchr := HCH6.out.next hbel
      have hsbr := HSB.out.next hbel
      have hzr := hbel.size
      have c0 := hkr.cell 0
      have c1' := hkr.cell 1
      have hlr := hkr.lt
      have HP := Lib.hid (hchr.pts (c1 := c1) (d := d1) hh1.rd hr8 hf.pts hf.len)
      have HF := Lib.hid hf
      have HH1 := Lib.hid hh1
      have HKR := Lib.hid hkr
      have HCHR := Lib.hid hchr
      have HSBR := Lib.hid hsbr
      have HBEL := Lib.hid hbel
      clear hrk hf hh1 hkr hchr hsbr hbel
      go_wp2_with fail
      refine HP.out.mono ?_
      rintro e wp ⟨gp, cp, rfl, hhp, hgp, hbp⟩
      clear HP q1 c0 c1'
      have hhp' := Lib.hid hhp
      have HKP := Lib.hid (HKR.out.next hbp)
      have HCHP := Lib.hid (HCHR.out.next hbp)
      have HH1P := Lib.hid (HH1.out.next hbp)
      have HSBP := Lib.hid (HSBR.out.next hbp)
      have HBELP := Lib.hid (HBEL.out.trans (hbp.mono hzr))
      have hzp := HBELP.out.size
      have hlp : bx < wp.heap.size := HKP.out.lt
      have hlg : gp < wp.heap.size := hhp.lt
      have c0 := HKP.out.cell 0
      have c1' := HKP.out.cell 1
      have q1 := has_int hhp HF.out.last
      obtain ⟨x1, hx1⟩ : ∃ x1, minsF ps ss r = x1 := ⟨_, rfl⟩
      obtain ⟨y1, hy1⟩ : ∃ y1, minsF ps ss best = y1 := ⟨_, rfl⟩
      have hxy : decide (x1 < y1) = false := decide_eq_false (by have := HF.out.least; omega)
      have hc1 : ∀ W, Below wp.heap.size wp W → Calls Try.prog 29 #[.agg #[.slice A1 ps.length c1, .slice A2 ss.length c2], .int .i64 a, .slice (some ⟨g1, 0, none⟩) r.length d1] W fun e w' => e = .returned (.bool true) ∧ Below W.heap.size W w' := fun W hW => (HCHP.out.next hW).okR (HH1P.out.next hW).rd hr8 HF.out.ok
      have hc2 : ∀ W, Below wp.heap.size wp W → Calls Try.prog 26 #[.agg #[.slice A1 ps.length c1, .slice A2 ss.length c2], .slice (some ⟨g1, 0, none⟩) r.length d1] W fun e w' => e = .returned (.int .i64 x1) ∧ Below W.heap.size W w' := fun W hW => (HCHP.out.next hW).mins (HH1P.out.next hW).rd hr8 hx1
      have hc3 : ∀ W, Below wp.heap.size wp W → Calls Try.prog 26 #[.agg #[.slice A1 ps.length c1, .slice A2 ss.length c2], .slice A4 best.length c4] W fun e w' => e = .returned (.int .i64 y1) ∧ Below W.heap.size W w' := fun W hW => (HCHP.out.next hW).mins (HSBP.out.next hW).rd h8 hy1
      have HX1 := Lib.hid hx1
      have HY1 := Lib.hid hy1
      have hd0 : Below wp.heap.size wp wp.drew := (Below.refl _ _).drew
      have e1 : IntKind.i64.wrap ((r.length : Int) + 1) = (r.length : Int) + 1 := IntWalk.i64_in _ (by omega)
      have e2 : IntKind.i64.wrap (r.length : Int) = (r.length : Int) := IntWalk.i64_in _ (by omega)
      have hrl0 : (0 : Int) ≤ (r.length : Int) := Int.natCast_nonneg _
      have hrl1 : (r.length : Int) < (r.length : Int) + 1 := by omega
      have hrl2 : (r.length : Int) < ((r.length + 1 : Nat) : Int) := by omega
      clear hx1 hy1 hhp hbp
      go_wp2_with fail
      go_region_held3 (fun w' => w'.cell? ⟨bx, 0, none⟩ = some (.slice A1 ps.length c1) ∧ w'.cell? ⟨bx, 1, none⟩ = some (.slice A2 ss.length c2) ∧ w'.cell? ⟨gp, r.length, none⟩ = some (.int .i64 b)) (go_keep)
        (first
          | (go_at_call 26; refine (hc3 _ hbB).mono ?_; rintro e wC ⟨rfl, hbC'⟩; have hbC := hbB.trans (hbC'.mono hbB.size); have hccC : ∀ b o, b < wp.heap.size → wC.cell? ⟨b, o, none⟩ = wp.cell? ⟨b, o, none⟩ := (bcell hbC).1)
          | (go_at_call 26; refine (hc2 _ hbA).mono ?_; rintro e wB ⟨rfl, hbB'⟩; have hbB := hbA.trans (hbB'.mono hbA.size); have hccB : ∀ b o, b < wp.heap.size → wB.cell? ⟨b, o, none⟩ = wp.cell? ⟨b, o, none⟩ := (bcell hbB).1)
          | (go_at_call 29; refine (hc1 _ hd0).mono ?_; rintro e wA ⟨rfl, hbA'⟩; have hbA := hd0.trans (hbA'.mono hd0.size); have hccA : ∀ b o, b < wp.heap.size → wA.cell? ⟨b, o, none⟩ = wp.cell? ⟨b, o, none⟩ := (bcell hbA).1))
      -- the segments
      clear hc1 hc2 hc3 hxy q1 c0 c1' hrl0 hrl1 hrl2 e1 e2
      obtain ⟨wo, hwo⟩ : ∃ wo, wo = wr := ⟨_, rfl⟩
      subst hwo
      have HBC := Lib.hid hbC
      clear hbA hbB hbC hccA hccB hccC hd0 hbA' hbB' hbC'
      go_wp2_with fail
      go_loopw [102] (fun i wi => ∃ j : Nat, j ≤ r.length ∧ i = .int .i64 j ∧ Below wp.heap.size wp wi) (fun i _ => r.length - (intOf i).toNat)
      case atStart => exact ⟨0, Nat.zero_le _, rfl, HBC.out⟩
      case round =>
        obtain ⟨j, hj, rfl, hin⟩ := hrel
        by_cases hjt : j < r.length
        · obtain ⟨s, hs⟩ : ∃ s, r[j]? = some s := ⟨_, List.getElem?_eq_getElem hjt⟩
          obtain ⟨px, hpx⟩ : ∃ px, p[j]? = some px := ⟨_, List.getElem?_eq_getElem (by have := HF.out.len; omega)⟩
          obtain ⟨py, hpy⟩ : ∃ py, p[j + 1]? = some py := ⟨_, List.getElem?_eq_getElem (by have := HF.out.len; omega)⟩
          obtain ⟨ho, hsg⟩ := HF.out.each j s px py hs hpx hpy
          have q0 := has_int (HH1P.out.next hin) hs
          have q1 := has_int (hhp'.out.next hin) hpx
          have q2 := has_int (hhp'.out.next hin) hpy
          have hki := HKP.out.next hin
          have hchi := HCHP.out.next hin
          have c0 := hki.cell 0
          have c1' := hki.cell 1
          have hzi := hin.size
          have hli := hki.lt
          have hgpi : gp < wr.heap.size := by omega
          have hg1 : g1 < wp.heap.size := HH1P.out.lt
          have HCO : Hid (∀ W, Below wr.heap.size wr W → Calls Try.prog 23 #[.agg #[.slice A1 ps.length c1, .slice A2 ss.length c2], .int .i64 s, .int .i64 px] W fun e w' => e = .returned (.int .i64 py) ∧ Below W.heap.size W w') := Lib.hid fun W hW => (hchi.next hW).other ho
          have HCS : Hid (∀ W, Below wr.heap.size wr W → Calls Try.prog 21 #[.agg #[.slice A1 ps.length c1, .slice A2 ss.length c2], .int .i64 py, .int .i64 px] W fun e w' => e = .returned (.int .i64 s) ∧ Below W.heap.size W w') := Lib.hid fun W hW => (hchi.next hW).segm hsg
          have hd0 : Below wr.heap.size wr wr.drew := (Below.refl _ _).drew
          have hj0 : (0 : Int) ≤ (j : Int) := Int.natCast_nonneg _
          have hj1 : (j : Int) < (r.length : Int) := by omega
          have hj2 : (j : Int) < (r.length : Int) + 1 := by omega
          have hj3 : (0 : Int) ≤ (j : Int) + 1 := by omega
          have hj4 : (j : Int) + 1 < (r.length : Int) + 1 := by omega
          have e1 : IntKind.i64.wrap ((j : Int) + 1) = (j : Int) + 1 := IntWalk.i64_in _ (by omega)
          have e2 : ((j : Int) + 1).toNat = j + 1 := by omega
          clear hs hpx hpy ho hsg hki hchi
          go_wp2_with fail
          go_region_held3 (fun w' => w'.cell? ⟨bx, 0, none⟩ = some (.slice A1 ps.length c1) ∧ w'.cell? ⟨bx, 1, none⟩ = some (.slice A2 ss.length c2) ∧ w'.cell? ⟨gp, j, none⟩ = some (.int .i64 px) ∧ w'.cell? ⟨gp, j + 1, none⟩ = some (.int .i64 py)) (go_keep)
            (first
              | (go_at_call 21; refine (HCS.out _ hwA).mono ?_; rintro e wB ⟨rfl, hb_⟩; have hwB := hwA.trans (hb_.mono hwA.size); have hccwB : ∀ b o, b < wr.heap.size → wB.cell? ⟨b, o, none⟩ = wr.cell? ⟨b, o, none⟩ := (bcell hwB).1; clear hb_)
              | (go_at_call 23; refine (HCO.out _ hd0).mono ?_; rintro e wA ⟨rfl, hb_⟩; have hwA := hd0.trans (hb_.mono hd0.size); have hccwA : ∀ b o, b < wr.heap.size → wA.cell? ⟨b, o, none⟩ = wr.cell? ⟨b, o, none⟩ := (bcell hwA).1; clear hb_))
          go_wp2_with fail
          go_roundw
          case rel => exact ⟨j + 1, by omega, by go_num, hin.trans (hwB.mono hzi)⟩
          case measure => simp [intOf]; omega
        · have hj5 : ¬ (j : Int) < (r.length : Int) := by omega
          go_wp2_with fail
          go_roundw
          case rel => exact ⟨k + 1, by omega, by go_num, HBELP.out.trans (hin.mono hzp)⟩
          case measure => simp [intOf]; omega
    · have hk5 : ¬ (k : Int) < (res.length : Int) := by omega
      obtain ⟨wo, hwo⟩ : ∃ wo, wo = wr := ⟨_, rfl⟩
      subst hwo
      have hke := HBK6.out.next hbel
      have hche := HCH6.out.next hbel
      have hbbe := HBB6.out.trans (hbel.mono hz6)
      have HSBE := Lib.hid (HSB.out.next hbel)
      have HC7 := Lib.hid (hche.best (c1 := c1) HBACK.out)
      have HKE := Lib.hid hke
      have HCHE := Lib.hid hche
      have HBBE := Lib.hid hbbe
      have c0 := hke.cell 0
      have c1' := hke.cell 1
      have hle := hke.lt
      have hze := hbbe.size
      clear hke hche hbbe hbel
      go_wp2_with fail
      refine HC7.out.mono ?_
      rintro e w7 ⟨A5, c5, rfl, hsk, hb7⟩
      clear HC7 c0 c1'
      have hk7 := HKE.out.next hb7
      have HBB7 := Lib.hid (HBBE.out.trans (hb7.mono hze))
      have hch7 := HCHE.out.next hb7
      have HSK := Lib.hid hsk
      have HSB7 := Lib.hid (HSBE.out.next hb7)
      have hl7 : bx < w7.heap.size := hk7.lt
      have hz7 : w.heap.size ≤ w7.heap.size := HBB7.out.size
      have c0 := hk7.cell 0
      have c1' := hk7.cell 1
      obtain ⟨pa, hpa⟩ : ∃ pa, ps[a]? = some pa := ⟨_, List.getElem?_eq_getElem ha⟩
      obtain ⟨gA, off, rfl, hgA, hcA⟩ := hch7.r1 (by omega)
      have cA := hcA a pa hpa 0 (by omega)
      simp only [Point.at_, Nat.add_zero] at cA
      obtain ⟨m, hm⟩ : ∃ m, minsF ps ss best = m := ⟨_, rfl⟩
      have hm' := HMM.out.trans hm
      have HCN : Hid (∀ W, Below w7.heap.size w7 W → Calls Try.prog 16 #[.agg #[.slice (some ⟨gA, off, none⟩) ps.length c1, .slice A2 ss.length c2], .string pa.name] W fun e w' => e = .returned (.int .i64 a) ∧ Below W.heap.size W w') := Lib.hid fun W hW => (hch7.next hW).named hpa
      have HCC : Hid (∀ W, Below w7.heap.size w7 W → Calls Try.prog 36 #[.agg #[.slice (some ⟨gA, off, none⟩) ps.length c1, .slice A2 ss.length c2], .int .i64 b, .int .i64 a] W fun e w' => ∃ A c, e = .returned (.slice A res.length c) ∧ Below W.heap.size W w') := Lib.hid fun W hW => (hch7.next hW).count HLENB.out
      have HCK : Hid (∀ W, Below w7.heap.size w7 W → Calls Try.prog 26 #[.agg #[.slice (some ⟨gA, off, none⟩) ps.length c1, .slice A2 ss.length c2], .slice A5 back.length c5] W fun e w' => e = .returned (.int .i64 m) ∧ Below W.heap.size W w') := Lib.hid fun W hW => (hch7.next hW).mins (HSK.out.next hW).rd h8' hm'
      have HCB : Hid (∀ W, Below w7.heap.size w7 W → Calls Try.prog 26 #[.agg #[.slice (some ⟨gA, off, none⟩) ps.length c1, .slice A2 ss.length c2], .slice A4 best.length c4] W fun e w' => e = .returned (.int .i64 m) ∧ Below W.heap.size W w') := Lib.hid fun W hW => (hch7.next hW).mins (HSB7.out.next hW).rd h8 hm
      have hd0 : Below w7.heap.size w7 w7.drew := (Below.refl _ _).drew
      have ha0 : (0 : Int) ≤ (a : Int) := Int.natCast_nonneg _
      have ha1 : (a : Int) < (ps.length : Int) := by omega
      clear hk7 hch7 hsk hb7 hpa hcA hm hm'
      go_wp2_with fail
      go_region_held3 (fun w' => w'.cell? ⟨bx, 0, none⟩ = some (.slice (some ⟨gA, off, none⟩) ps.length c1) ∧ w'.cell? ⟨bx, 1, none⟩ = some (.slice A2 ss.length c2) ∧ w'.cell? ⟨gA, off + a * 2, none⟩ = some (.string pa.name)) (go_keep)
        (first
          | (go_at_call 36; refine (HCC.out _ hwC).mono ?_; rintro e wD ⟨A6, c6, rfl, hb_⟩; have hwD := hwC.trans (hb_.mono hwC.size); have hccwD : ∀ b o, b < w7.heap.size → wD.cell? ⟨b, o, none⟩ = w7.cell? ⟨b, o, none⟩ := (bcell hwD).1; clear hb_)
          | (go_at_call 16; refine (HCN.out _ hwB).mono ?_; rintro e wC ⟨rfl, hb_⟩; have hwC := hwB.trans (hb_.mono hwB.size); have hccwC : ∀ b o, b < w7.heap.size → wC.cell? ⟨b, o, none⟩ = w7.cell? ⟨b, o, none⟩ := (bcell hwC).1; clear hb_)
          | (go_at_call 26; refine (HCB.out _ hwA).mono ?_; rintro e wB ⟨rfl, hb_⟩; have hwB := hwA.trans (hb_.mono hwA.size); have hccwB : ∀ b o, b < w7.heap.size → wB.cell? ⟨b, o, none⟩ = w7.cell? ⟨b, o, none⟩ := (bcell hwB).1; clear hb_)
          | (go_at_call 26; refine (HCK.out _ hd0).mono ?_; rintro e wA ⟨rfl, hb_⟩; have hwA := hd0.trans (hb_.mono hd0.size); have hccwA : ∀ b o, b < w7.heap.size → wA.cell? ⟨b, o, none⟩ = w7.cell? ⟨b, o, none⟩ := (bcell hwA).1; clear hb_))
      go_wp2_with fail
      go_ret
      exact ⟨rfl, HBB7.out.trans (hwD.mono hz7)⟩

set_option maxRecDepth 100000 in
theorem fnRoutes_lifted (os : Os) (started : os.Started) (H : Type) (enc : TypeId × Value → H) :
    ReturnsInHanded {} Try.checked os 12 .any (Rows.fnRoutesSpec.pre6 enc Try.prog Try.f12 Rows.fnRoutesRow.domain false) (Rows.fnRoutesSpec.post enc Try.prog Try.f12 false true false false) := by
  refine returnsInHanded_of_change (C := Try.checked) own_ started (by kernel_rfl) Try.func12
    (ChangeSpec.witness6 (enc := enc) (C := Try.checked) false ⟨#[], #[.slice none 0 0], []⟩ 8 (by kernel_rfl) (by kernel_rfl) (by kernel_rfl) (by kernel_rfl)) ?_
  intro W base args ds gs before hval0 hW hcnd _
  have hval : ∀ (j : Nat) t v, Try.f12.params[j]? = some t → args[j]? = some v → Value.okWide Try.prog W .any base t v := hval0
  have hW' := hW
  obtain ⟨p, q, hA0, hV, rfl, hfz, hnd⟩ := hW
  have hA : DataW.TrodAll enc Try.prog W 0 (fun _ => true) true Try.f12.params.toList args.toList ds p := hA0
  rw [Try.params12] at hA hval
  obtain ⟨v0, d0, rfl, rfl, h0⟩ := trodAll_one hA
  obtain ⟨rfl, rfl⟩ := trodVars_none hV
  obtain ⟨x0, hx0⟩ := open_Bytes Try.underlying55 Try.underlying5 (by kernel_rfl) (hval 0 55 v0 rfl rfl) h0
  refine (fnRoutes_walk W hx0).mono fun e W' ⟨he, hb⟩ => ?_
  subst he
  exact ⟨_, rfl, law_post laidOut_ (by kernel_rfl) rfl (by kernel_rfl) Try.underlying4 hW' rfl hb⟩

theorem fnRoutes_holds : Rows.FnRoutesSaid :=
  OpenClaim.holds_of_wide 12 Try.f12 rfl rfl rfl rfl rfl rfl rfl ⟨rfl, rfl, rfl, rfl, rfl⟩ rfl rfl rfl rfl rfl (by kernel_rfl) Try.func12 (by kernel_rfl)
    (of_decide_eq_true (by kernel_rfl)) (by unfold Func.isWrapper; rw [if_neg (of_decide_eq_false (by kernel_rfl))]; exact ⟨rfl, rfl⟩)
    (fun os started H enc _ => fnRoutes_lifted os started H enc)
#print axioms fnRoutes_holds

end Go.Proofs.Ytjmfgncakegjaaa
