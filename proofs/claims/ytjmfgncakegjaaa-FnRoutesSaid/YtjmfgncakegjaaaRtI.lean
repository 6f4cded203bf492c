/-
  The contract of routesFrom, the program's: all routes that go on, added to a slice behind a pointer, by induction on what points are left.
-/
import Derived.Test.YtjmfgncakegjaaaRegI
import Derived.Test.YtjmfgncakegjaaaRtN
import Derived.Test.YtjmfgncakegjaaaRouteH
import Derived.Deep.RegionLaw
import Derived.Great.Walk
import Derived.Deep.AppendLies
namespace Go.Proofs.Ytjmfgncakegjaaa
open Go.RowKit

theorem OutR.set_ {B g : Nat} {w : World} {v : Value} {res : List (List Int)} {cs : Array Value} (h : OutR w B v res) (hb : Blk w g 49 cs) (hB : B ≤ g) (i : Nat) (u : Value) : OutR (w.setCell ⟨g, i, none⟩ u) B v res := by
  obtain ⟨rvs, ho, hI, hm⟩ := h
  refine ⟨rvs, ⟨ho.1, ho.2.imp id fun ⟨g', cap, cur, hv, hb', hh, rest⟩ => ⟨g', cap, cur, hv, hb', ?_, rest⟩⟩, hI.fr (Fr.set_ hb hB i u), hm⟩
  refine (Below.heap_setCell w ⟨g, i, none⟩ u g' ?_).trans hh
  intro e
  have e' : g' = g := e
  subst e'
  unfold Blk at hb
  rw [hh] at hb
  cases hb
theorem Blk.grownS {B n g : Nat} {t : TypeId} {w w' : World} {v : Value} {cs : Array Value} {xs : List Value} (hb : Blk w g t cs) (h1 : t ≠ 39) (hown : w.ownsRow B 39 1 v n xs) (hg : w.grownBy w' v.ownBlock) : Blk w' g t cs := by
  refine hb.grown hg ?_
  intro e
  rcases hown.2 with ⟨rfl, _⟩ | ⟨g', cap, cur, rfl, _, hh, _⟩
  · cases e
  · cases e
    unfold Blk at hb
    rw [hh] at hb
    cases hb
    exact h1 rfl
theorem Marks.lit {cs : Array Value} {pts : List Int} (h : Marks cs pts) : ∃ b0 b1 b2 b3 b4 b5 b6 b7 : Bool, cs = #[.bool b0, .bool b1, .bool b2, .bool b3, .bool b4, .bool b5, .bool b6, .bool b7] := by
  refine ⟨decide ((0 : Int) ∈ pts), decide ((1 : Int) ∈ pts), decide ((2 : Int) ∈ pts), decide ((3 : Int) ∈ pts), decide ((4 : Int) ∈ pts), decide ((5 : Int) ∈ pts), decide ((6 : Int) ∈ pts), decide ((7 : Int) ∈ pts), ?_⟩
  apply Array.ext_getElem?
  intro i
  by_cases hi : i < 8
  · rw [h.2 i hi]
    match i, hi with
    | 0, _ | 1, _ | 2, _ | 3, _ | 4, _ | 5, _ | 6, _ | 7, _ => simp
  · rw [Array.getElem?_eq_none (by rw [h.1]; omega), Array.getElem?_eq_none (by simp; omega)]

/-- What the walk over routes leaves behind its pointer. -/
def ResF (B bo : Nat) (res : List (List Int)) (w : World) (e : Ending) (w' : World) : Prop := ∃ u v', e = .returned u ∧ Blk w' bo 49 #[v'] ∧ OutR w' B v' res ∧ Fr B w w'

set_option maxHeartbeats 4000000 in
set_option maxRecDepth 20000 in
theorem implFrom_any (to : Int) (np : Nat) (ss : List Segment) (hnp : np ≤ 8) (hss : ss.length ≤ 10) (hseg : ∀ (k : Nat) (s : Segment), ss[k]? = some s → ∀ cur, -1 ≤ otherV s cur ∧ otherV s cur < (np : Int)) (A A' : Option Addr) (c c' B bo : Nat) (hBo : B ≤ bo) :
    ∀ (f cr : Nat) (Ar : Option Addr) (met route : List Int) (cur : Nat) (v : Value) (b0 b1 b2 b3 b4 b5 b6 b7 : Bool) (res : List (List Int)) (w : World), B ≤ w.heap.size → Blk w bo 49 #[v] → Rd w B Segment.at_ 5 A' ss → Sl w 0 w.heap.size Ar 3 intAt 1 route → OutR w B v res → Marks #[.bool b0, .bool b1, .bool b2, .bool b3, .bool b4, .bool b5, .bool b6, .bool b7] met →
      (met ++ [(cur : Int)]).Nodup → (∀ x ∈ met ++ [(cur : Int)], 0 ≤ x ∧ x < (np : Int)) → (met ++ [(cur : Int)]).length + f = 9 → route.length = met.length → res.length + (rts ss to f (met ++ [(cur : Int)]) cur route).length ≤ 1000000000 →
      Calls Try.prog 64 #[.agg #[.slice A np c, .slice A' ss.length c'], .int .i64 cur, .int .i64 to, .slice Ar route.length cr, .agg #[.bool b0, .bool b1, .bool b2, .bool b3, .bool b4, .bool b5, .bool b6, .bool b7], .pointer (some ⟨bo, 0, none⟩)] w (ResF B bo (res ++ rts ss to f (met ++ [(cur : Int)]) cur route) w)
  | 0, _, _, met, _, cur, _, _, _, _, _, _, _, _, _, _, _, _, _, _, _, _, _, hnd, hin, hlf, _, _ => by
    have := nodup_le np (met ++ [(cur : Int)]) hnd hin
    omega
  | f + 1, cr, Ar, met, route, cur, v, b0, b1, b2, b3, b4, b5, b6, b7, res, w, hB, hbo, hr', hrt, hout, hmk, hnd, hin, hlf, hlr, hcount => by
    obtain ⟨i0, hi, hz0, hz1, hz2⟩ := info_parts infoInt
    obtain ⟨iS, hiS, hzS0, hzS1, hzS2⟩ := info_parts infoInts
    have hcur : cur < np := by
      have := (hin (cur : Int) (by simp)).2
      omega
    have hcur8 : cur < 8 := by omega
    obtain ⟨wa, hwa⟩ : ∃ wa, wa = (w.alloc (.cells #[.slice A np c, .slice A' ss.length c'] 31)).alloc (.cells #[.bool b0, .bool b1, .bool b2, .bool b3, .bool b4, .bool b5, .bool b6, .bool b7] 81) := ⟨_, rfl⟩
    have hBa : Below w.heap.size w wa := by rw [hwa]; exact ((Below.refl _ _).alloc (Nat.le_refl _) _).alloc (by simp) _
    have hka : Blk wa w.heap.size 31 #[.slice A np c, .slice A' ss.length c'] := by rw [hwa]; exact (Blk.new _ _ _).alloc _
    have hma : Blk wa (w.heap.size + 1) 81 #[.bool b0, .bool b1, .bool b2, .bool b3, .bool b4, .bool b5, .bool b6, .bool b7] := by
      rw [hwa]
      have h := Blk.new (w.alloc (.cells #[.slice A np c, .slice A' ss.length c'] 31)) 81 #[.bool b0, .bool b1, .bool b2, .bool b3, .bool b4, .bool b5, .bool b6, .bool b7]
      rw [show (w.alloc (.cells #[.slice A np c, .slice A' ss.length c'] 31)).heap.size = w.heap.size + 1 by simp] at h
      exact h
    have hrl8 : route.length ≤ 8 := by
      rw [List.length_append] at hlf
      omega
    have HLR := Lib.hid hlr
    have HLF := Lib.hid hlf
    have hcur0 : (0 : Int) ≤ (cur : Int) := Int.natCast_nonneg _
    have hcur1 : (cur : Int) < 8 := by omega
    clear hlr hlf
    have hboa := hbo.next hBa
    have hblw := hbo.lt
    by_cases hto : (cur : Int) = to
    · have hres := rts_here (ss := ss) (f := f) (pts := met ++ [(cur : Int)]) (route := route) hto
      rw [hres] at hcount ⊢
      simp only [List.length_cons, List.length_nil] at hcount
      have htb : ((cur : Int) == to) = true := by simpa using hto
      obtain ⟨rvs, hoA, hIA, hmA⟩ := hout.next hBa
      have hrl : rvs.length ≤ 999999999 := by rw [← List.length_map (f := fun r : RowV => r.rs), hmA]; omega
      have hrt2 := (hrt.next hBa).rd
      have HCL := Lib.hid (cloneInt_any Ar cr route wa.drew (show Rd wa.drew wa.drew.heap.size _ _ _ _ from hrt2) (rd_nil_len hrt2) (by omega))
      have hzA := hBa.size
      have HMA := Lib.hid hmA
      have HBA := Lib.hid hBa
      have HIA := Lib.hid hIA
      have HOA : Hid (wa.drew.ownsRow B 39 1 v rvs.length (flat rowAt 1 rvs)) := Lib.hid hoA
      have HBOA : Hid (Blk wa.drew bo 49 #[v]) := Lib.hid hboa
      have HWA := Lib.hid hwa
      have HBW := Lib.hid hB
      have c0 := hboa.cell 0
      have hlb := hboa.lt
      clear hout hoA hIA hmA hrt hrt2 hwa hBa hka hma hbo hres hnd hin hr' hmk hboa
      go_enter Try.func64, Try.ntmps64
      go_wp2_with fail
      rw [← HWA.out]
      go_region_law (first
        | (go_simp; go_at_call 75; refine HCL.out.mono ?_; rintro e w1 ⟨v1, g1, rfl, ho1, hg1, hb1⟩; obtain ⟨e1, rfl, hgB, hh1⟩ := own_at (ps := route) (enc := intAt) (size := 1) ho1 rfl hg1; have hbo1 := HBOA.out.next hb1; have hcb1 := hbo1.cell 0; have hlb1 := hbo1.lt; have hz1 : wa.heap.size ≤ w1.heap.size := hb1.size)
        | (refine step_append_lies _ rfl (.tmp 21) (.tmp 24) 49 rfl B 39 iS _ 1 24 Try.underlying49 hiS hzS0 hzS1 hzS2 rfl (by decide) v rvs.length (flat rowAt 1 rvs) (by simp [Act.eval]) (own_next' (own_next' HOA.out hb1) ((Below.refl _ _).alloc (Nat.le_refl _) _)) ⟨w1.heap.size, 0, none⟩ 1 1 [.slice (some ⟨g1, 0, none⟩) route.length e1] (by simp [Act.eval]) rfl (World.news_of_block (cs := #[.slice (some ⟨g1, 0, none⟩) route.length e1]) (heap_alloc_new w1 _)) (by simp [Value.oneCell']) (by omega) (by unfold maxLen; omega) (by omega) (by have := HBW.out; simp; omega) (w1.heap.size + 1) (by simp) ?_; intro g6 cap6 w6 hown6 hgrow6 hat6 hlt6; have hk6 := (hbo1.alloc _).grownS (by decide) (own_next' (own_next' HOA.out hb1) ((Below.refl _ _).alloc (Nat.le_refl _) _)) hgrow6; have f6 := hk6.frozen 0; have d6 := hk6.cell 0; have hl6 := hk6.lt))
      all_goals
        obtain ⟨w7, hw7⟩ : ∃ w7, w7 = w6.setCell ⟨bo, 0, none⟩ (.slice (some ⟨g6, 0, none⟩) (rvs.length + 1) cap6) := ⟨_, rfl⟩
        have hzb : B ≤ (w1.alloc (.cells #[.slice (some ⟨g1, 0, none⟩) route.length e1] 39)).heap.size := by have := HBW.out; simp; omega
        have hb2 : Below wa.drew.heap.size wa.drew (w1.alloc (.cells #[.slice (some ⟨g1, 0, none⟩) route.length e1] 39)) := hb1.alloc hz1 _
        have hIb := (show Inn wa.drew B rvs from HIA.out).next hb2
        have hhb := hh1.next ((Below.refl _ _).alloc (Nat.le_refl _) (.cells #[.slice (some ⟨g1, 0, none⟩) route.length e1] 39))
        have hoB := own_next' HOA.out hb2
        have hg1B : B ≤ g1 := by have := HBW.out; have : wa.heap.size ≤ g1 := hgB; omega
        have hO6 := hIb.push hoB hzb hhb hg1B (HIA.out.fresh hgB) hown6 hgrow6
        rw [HMA.out] at hO6
        have hF6 : Fr B w w6 := ((Fr.of_below HBA.out HBW.out).drew.trans (Fr.of_below hb2 (by show B ≤ wa.heap.size; have := HBW.out; omega))).trans (Fr.grown hgrow6 hoB hzb)
        have HO7 := Lib.hid (show OutR w7 B _ _ by rw [hw7]; exact hO6.set_ hk6 hBo 0 _)
        have HF7 := Lib.hid (show Fr B w w7 by rw [hw7]; exact hF6.trans (Fr.set_ hk6 hBo 0 _))
        have HK7 : Hid (Blk w7 bo 49 #[.slice (some ⟨g6, 0, none⟩) (rvs.length + 1) cap6]) := Lib.hid (by rw [hw7]; exact hk6.set_ 0 _)
        have HW7 := Lib.hid hw7
        clear hw7 hO6 hF6 hIb hhb hoB hb2 hown6 hgrow6 hk6 hb1 ho1 hh1 f6 d6 hbo1 hcb1
        go_wp2_with fail
        rw [← HW7.out]
        refine Great.bodyPost_end0 rfl rfl ?_
        exact ⟨_, _, rfl, HK7.out, HO7.out, HF7.out⟩
    · have hres := rts_on (ss := ss) (f := f) (pts := met ++ [(cur : Int)]) (route := route) hto
      rw [hres] at hcount ⊢
      have htb : ((cur : Int) == to) = false := by simpa using hto
      obtain ⟨pts, hpts⟩ : ∃ pts, pts = met ++ [(cur : Int)] := ⟨_, rfl⟩
      obtain ⟨d0, d1, d2, d3, d4, d5, d6, d7, hd⟩ := (hmk.add_ hcur8).lit
      have hmk2 := hmk.add_ hcur8
      rw [hd] at hmk2
      rw [List.setIfInBounds_toArray] at hd
      have m0 := (hma.cell cur).trans (hmk.at_ hcur8)
      have m1 := hma.frozen cur
      have hlm := hma.lt
      rw [← hpts] at hmk2 hcount hnd hin ⊢
      have HPL : Hid (pts.length + (f + 1) = 9) := Lib.hid (by rw [hpts]; exact HLF.out)
      have HRL : Hid (route.length + 1 = pts.length) := Lib.hid (by rw [hpts, List.length_append]; have := HLR.out; simp; omega)
      obtain ⟨wb, hwb⟩ : ∃ wb, wb = (w.alloc (.cells #[.slice A np c, .slice A' ss.length c'] 31)).alloc (.cells ([.bool b0, .bool b1, .bool b2, .bool b3, .bool b4, .bool b5, .bool b6, .bool b7].set cur (.bool true)).toArray 81) := ⟨_, rfl⟩
      have hbl : bo < w.heap.size := hblw
      have hkb : Blk wb w.heap.size 31 #[.slice A np c, .slice A' ss.length c'] := by rw [hwb]; exact (Blk.new _ _ _).alloc _
      have hBb : Below w.heap.size w wb := by rw [hwb]; exact ((Below.refl _ _).alloc (Nat.le_refl _) _).alloc (by simp) _
      have hob : Blk wb bo 49 #[v] := hbo.next hBb
      have hmb : Blk wb (w.heap.size + 1) 81 #[.bool d0, .bool d1, .bool d2, .bool d3, .bool d4, .bool d5, .bool d6, .bool d7] := by
        rw [hwb, hd]
        have h := Blk.new (w.alloc (.cells #[.slice A np c, .slice A' ss.length c'] 31)) 81 #[.bool d0, .bool d1, .bool d2, .bool d3, .bool d4, .bool d5, .bool d6, .bool d7]
        rw [show (w.alloc (.cells #[.slice A np c, .slice A' ss.length c'] 31)).heap.size = w.heap.size + 1 by simp] at h
        exact h
      have HPT := Lib.hid hpts
      have HMK := Lib.hid hmk2
      have HND := Lib.hid hnd
      have HIN := Lib.hid hin
      have HR' := Lib.hid hr'
      have HRT := Lib.hid hrt
      have HO := Lib.hid (hout.next hBb)
      have HCT := Lib.hid hcount
      have HF0 := Lib.hid (Fr.of_below hBb hB)
      have HKB := Lib.hid hkb
      have HOB := Lib.hid hob
      have HMB := Lib.hid hmb
      have HWA := Lib.hid hwa
      have HWB := Lib.hid hwb
      have c0 := hka.cell 0
      have c1 := hka.cell 1
      have hz2 := hBb.size
      clear hd hmk hmk2 hpts hnd hin hr' hrt hout hcount hka hma hmb hkb hob hBb hBa hwa hwb hboa hbo hres
      go_enter Try.func64, Try.ntmps64
      go_wp2_with fail
      rw [← HWB.out]
      go_loopw [32] (fun i wr => ∃ (k : Nat) (v : Value), k ≤ ss.length ∧ i = .int .i64 k ∧ Blk wr bo 49 #[v] ∧ OutR wr B v (res ++ preR ss to f pts cur route k) ∧ Fr B w wr ∧ Blk wr w.heap.size 31 #[.slice A np c, .slice A' ss.length c'] ∧ Blk wr (w.heap.size + 1) 81 #[.bool d0, .bool d1, .bool d2, .bool d3, .bool d4, .bool d5, .bool d6, .bool d7]) (fun i _ => ss.length - (intOf i).toNat)
      case atStart => exact ⟨0, v, Nat.zero_le _, rfl, HOB.out, by rw [preR_zero, List.append_nil]; exact HO.out, HF0.out, HKB.out, HMB.out⟩
      case round =>
        clear HOB HO HKB HMB c0 c1 m0 m1 hlm
        obtain ⟨k, v, hk, rfl, hob, ho, hfr, hkr, hmr⟩ := hrel
        have c0 := hkr.cell 0
        have c1 := hkr.cell 1
        have HOK := Lib.hid ho
        have HFR := Lib.hid hfr
        have HOB := Lib.hid hob
        have HMR := Lib.hid hmr
        have hlm := hmr.lt
        clear ho hob hmr
        by_cases hlt : k < ss.length
        · obtain ⟨gs, os, rfl, hgs, hcs⟩ := HR'.out (by omega)
          obtain ⟨s, hsj⟩ : ∃ s, ss[k]? = some s := ⟨_, List.getElem?_eq_getElem hlt⟩
          have e0 := (hfr.below.cell (p := ⟨gs, os + k * 5 + 0, none⟩) hgs).trans (hcs k s hsj 0 (by omega))
          have e1 := (hfr.below.cell (p := ⟨gs, os + k * 5 + 1, none⟩) hgs).trans (hcs k s hsj 1 (by omega))
          have e2 := (hfr.below.cell (p := ⟨gs, os + k * 5 + 2, none⟩) hgs).trans (hcs k s hsj 2 (by omega))
          have e3 := (hfr.below.cell (p := ⟨gs, os + k * 5 + 3, none⟩) hgs).trans (hcs k s hsj 3 (by omega))
          have e4 := (hfr.below.cell (p := ⟨gs, os + k * 5 + 4, none⟩) hgs).trans (hcs k s hsj 4 (by omega))
          simp only [Segment.at_, Nat.add_zero] at e0 e1 e2 e3 e4
          have hot := hseg k s hsj cur
          obtain ⟨nx, hnx⟩ : ∃ nx, nx = otherV s cur := ⟨_, rfl⟩
          rw [← hnx] at hot
          have hend : ∀ W, Calls Try.prog 58 #[.agg #[.int .i64 s.a, .int .i64 s.b, .int .i64 s.depth, .int .i64 s.mins, .bool s.meet], .int .i64 cur] W fun e w' => e = .returned (.int .i64 nx) ∧ Below W.heap.size W w' := fun W => by
            rw [hnx]; exact implEnd_any s _ _
          have hk0 : (0 : Int) ≤ (k : Int) := Int.natCast_nonneg _
          have hk1 : (k : Int) < (ss.length : Int) := by omega
          have hzr := hfr.below.size
          have z1 : gs < wr.heap.size := by omega
          have HS := Lib.hid hsj
          have HNX := Lib.hid hnx
          have HKR := Lib.hid hkr
          have hlr : w.heap.size < wr.heap.size := hkr.lt
          have HBS : Hid (Below wr.heap.size wr (wr.alloc (.cells #[.int .i64 s.a, .int .i64 s.b, .int .i64 s.depth, .int .i64 s.mins, .bool s.meet] 69))) := Lib.hid ((Below.refl _ _).alloc (Nat.le_refl _) _)
          clear hgs hcs hsj hnx hfr hkr
          by_cases hneg : nx < 0
          · have HX := Lib.hid (preR_skip (to := to) (f := f) (route := route) HS.out HNX.out (.inl hneg) (pts := pts))
            have hng : ¬ (0 : Int) ≤ nx := by omega
            have hnd : decide ((0 : Int) ≤ nx) = false := decide_eq_false hng
            go_wp2_with (go_at_call 58; refine (hend _).mono ?_; rintro e w1 ⟨rfl, hb1⟩)
            have hb2 := HBS.out.trans (hb1.mono HBS.out.size)
            go_roundw
            case rel => exact ⟨k + 1, v, by omega, by go_num, HOB.out.next hb2, by rw [HX.out]; exact HOK.out.next hb2, HFR.out.trans (Fr.of_below hb2 (by omega)), HKR.out.next hb2, HMR.out.next hb2⟩
            case measure => simp [intOf]; omega
          obtain ⟨q, rfl⟩ : ∃ q : Nat, nx = q := ⟨nx.toNat, by omega⟩
          have hm0 : (0 : Int) ≤ (q : Int) := Int.natCast_nonneg _
          have hm1 : (q : Int) < 8 := by omega
          have hq8 : q < 8 := by omega
          have hnd : decide ((0 : Int) ≤ (q : Int)) = true := decide_eq_true hm0
          have hat := HMK.out.at_ hq8
          by_cases hmem : (q : Int) ∈ pts
          · have HX := Lib.hid (preR_skip (to := to) (f := f) (route := route) HS.out HNX.out (.inr hmem) (pts := pts))
            rw [decide_eq_true hmem] at hat
            have hmc : ∀ W, Below wr.heap.size wr W → W.cell? ⟨w.heap.size + 1, q, none⟩ = some (.bool true) := fun W hb => ((HMR.out.next hb).cell q).trans hat
            have HAT := Lib.hid hat
            clear hat
            go_wp2_with (go_at_call 58; refine (hend _).mono ?_; rintro e w1 ⟨rfl, hb1⟩; have hmc1 := hmc _ (HBS.out.trans (hb1.mono HBS.out.size)))
            have hb2 := HBS.out.trans (hb1.mono HBS.out.size)
            go_roundw
            case rel => exact ⟨k + 1, v, by omega, by go_num, HOB.out.next hb2, by rw [HX.out]; exact HOK.out.next hb2, HFR.out.trans (Fr.of_below hb2 (by omega)), HKR.out.next hb2, HMR.out.next hb2⟩
            case measure => simp [intOf]; omega
          have hno : ¬ ((q : Int) < 0 ∨ (q : Int) ∈ pts) := fun h => h.elim hneg hmem
          have HX := Lib.hid (preR_step (to := to) (f := f) (route := route) HS.out HNX.out hno (pts := pts))
          rw [decide_eq_false hmem] at hat
          have hmc : ∀ W, Below wr.heap.size wr W → W.cell? ⟨w.heap.size + 1, q, none⟩ = some (.bool false) := fun W hb => ((HMR.out.next hb).cell q).trans hat
          have HAT := Lib.hid hat
          clear hat
          go_wp2_with (go_at_call 58; refine (hend _).mono ?_; rintro e w1 ⟨rfl, hb1⟩; have hmc1 := hmc _ (HBS.out.trans (hb1.mono HBS.out.size)))
          have hb2 := HBS.out.trans (hb1.mono HBS.out.size)
          have hzz : B ≤ w1.heap.size := by have := hb2.size; omega
          have hfw := HFR.out.trans (Fr.of_below hb2 (by omega))
          have hfwd := hfw.drew
          have hOw := HOK.out.next hb2
          have hkw := HKR.out.next hb2
          have hmw := HMR.out.next hb2
          have hbw := HOB.out.next hb2
          have hRd : Rd w1.drew B Segment.at_ 5 (some ⟨gs, os, none⟩) ss := HR'.out.below hfwd.below
          have hqn : (q : Int) < (np : Int) := hot.2
          refine wp_regI (S := (fun W => (W.cell? ⟨w.heap.size, 0, none⟩ = some (.slice A np c) ∧ W.cell? ⟨w.heap.size, 1, none⟩ = some (.slice (some ⟨gs, os, none⟩) ss.length c')) ∧ W.cell? ⟨w.heap.size + 1, 0, none⟩ = some (.bool d0) ∧ W.cell? ⟨w.heap.size + 1, 1, none⟩ = some (.bool d1) ∧ W.cell? ⟨w.heap.size + 1, 2, none⟩ = some (.bool d2) ∧ W.cell? ⟨w.heap.size + 1, 3, none⟩ = some (.bool d3) ∧ W.cell? ⟨w.heap.size + 1, 4, none⟩ = some (.bool d4) ∧ W.cell? ⟨w.heap.size + 1, 5, none⟩ = some (.bool d5) ∧ W.cell? ⟨w.heap.size + 1, 6, none⟩ = some (.bool d6) ∧ W.cell? ⟨w.heap.size + 1, 7, none⟩ = some (.bool d7))) (route := route) (ix := (k : Int)) (cr := cr) (Ar := Ar) (cv := .agg #[.slice A np c, .slice (some ⟨gs, os, none⟩) ss.length c']) (nv := .int .i64 q) (tv := .int .i64 to) (mv := .agg #[.bool d0, .bool d1, .bool d2, .bool d3, .bool d4, .bool d5, .bool d6, .bool d7]) (pv := .pointer (some ⟨bo, 0, none⟩)) (R := fun w' => ∃ v', Blk w' bo 49 #[v'] ∧ OutR w' B v' (res ++ preR ss to f pts cur route (k + 1)) ∧ Fr B w1.drew w') ⟨by rfl, by kernel_rfl, by kernel_rfl, ⟨_, rfl, rfl, rfl, rfl⟩, ⟨_, rfl, rfl, rfl, rfl⟩, ⟨_, rfl, rfl, rfl, rfl⟩, ⟨_, rfl, rfl, rfl, rfl⟩, ⟨_, rfl, rfl, rfl, rfl⟩, ⟨_, rfl, rfl, rfl, rfl⟩, ⟨_, rfl, rfl, rfl, rfl⟩, by kernel_rfl, by kernel_rfl, ⟨_, rfl, rfl, rfl, rfl⟩, ⟨_, rfl, rfl, rfl, rfl⟩, ⟨_, rfl, rfl, rfl, rfl⟩, ⟨_, rfl, rfl, rfl, rfl⟩⟩ rfl (by show 60 ≤ 60; exact Nat.le_refl _) (by omega) ?hrt rfl rfl rfl rfl rfl (fun _ _ _ _ _ h => h) ?hy ?hy2 ?hS ?hcall ?hfin
          case hy =>
            intro o ho W hS
            obtain ⟨⟨z0, z1⟩, _⟩ := hS
            unfold execOp
            simp only [ho]
            go_simp
          case hy2 =>
            intro a ha o ho W hS
            obtain ⟨_, z0, z1, z2, z3, z4, z5, z6, z7⟩ := hS
            unfold execOp
            simp only [ho, ha]
            go_simp
          case hrt =>
            have h := hfwd.sl HRT.out
            exact h.mono (Nat.le_refl _) (by have := hfwd.below.size; exact this)
          case hS =>
            intro W hW
            have hk2 : Blk W _ _ _ := (show Blk w1.drew _ _ _ from hkw).next hW
            have hm2 : Blk W _ _ _ := (show Blk w1.drew _ _ _ from hmw).next hW
            exact ⟨⟨hk2.cell 0, hk2.cell 1⟩, hm2.cell 0, hm2.cell 1, hm2.cell 2, hm2.cell 3, hm2.cell 4, hm2.cell 5, hm2.cell 6, hm2.cell 7⟩
          case hcall =>
            intro g2 e2' W hW h2
            have hWs : w1.heap.size ≤ W.heap.size := hW.size
            refine (implFrom_any to np ss hnp hss hseg A (some ⟨gs, os, none⟩) c c' B bo hBo f e2' (some ⟨g2, 0, none⟩) pts (route ++ [(k : Int)]) q v d0 d1 d2 d3 d4 d5 d6 d7 (res ++ preR ss to f pts cur route k) W (by omega) ((show Blk w1.drew _ _ _ from hbw).next hW) (hRd.below (hW.mono hzz)) (.inr ⟨g2, rfl, Nat.zero_le _, h2.lt, h2⟩) (OutR.next (w := w1.drew) (hOw.next ((Below.refl _ _).drew)) hW) HMK.out (nodup_snoc HND.out hmem) (range_snoc HIN.out ⟨hm0, hqn⟩) ?_ ?_ ?_).mono ?_
            · rw [List.length_append]
              have := HPL.out
              simp
              omega
            · rw [List.length_append]
              have := HRL.out
              simp
              omega
            · have h3 := preR_le (ss := ss) (to := to) (f := f) (pts := pts) (cur := (cur : Int)) (route := route) (show k + 1 ≤ ss.length by omega)
              have h4 := HCT.out
              rw [HX.out] at h3
              simp only [List.length_append] at h3 ⊢
              omega
            · rintro e w' ⟨u, v', rfl, h3, h4, h5⟩
              have hk2 := h5.keep _ _ _ (by decide) (by decide) ((show Blk w1.drew _ _ _ from hkw).next hW)
              have hm2 := h5.keep _ _ _ (by decide) (by decide) ((show Blk w1.drew _ _ _ from hmw).next hW)
              refine ⟨u, rfl, ⟨⟨hk2.cell 0, hk2.cell 1⟩, hm2.cell 0, hm2.cell 1, hm2.cell 2, hm2.cell 3, hm2.cell 4, hm2.cell 5, hm2.cell 6, hm2.cell 7⟩, v', h3, ?_, (Fr.of_below hW hzz).trans h5⟩
              rw [HX.out, ← List.append_assoc]
              exact h4
          case hfin =>
            rintro x w2 ⟨v', h2, h3, h4⟩
            simp only [FrL, slotsI, Act.put, List.setIfInBounds_toArray, List.set_cons_zero, List.set_cons_succ]
            have hk2 := h4.keep _ _ _ (by decide) (by decide) (show Blk w1.drew _ _ _ from hkw)
            have hm2 := h4.keep _ _ _ (by decide) (by decide) (show Blk w1.drew _ _ _ from hmw)
            have hf2 := hfwd.trans h4
            have H2 := Lib.hid h2
            have H3 := Lib.hid h3
            have HF2 := Lib.hid hf2
            have HK2 := Lib.hid hk2
            have HM2 := Lib.hid hm2
            clear h2 h3 h4 hk2 hm2 hf2 hkw hmw hbw hOw hRd hfwd hfw
            go_wp2_with fail
            go_roundw
            case rel => exact ⟨k + 1, v', by omega, by go_num, H2.out, H3.out, HF2.out, HK2.out, HM2.out⟩
            case measure => simp [intOf]; omega
        · have hk' : k = ss.length := by omega
          subst hk'
          go_wp2_with fail
          refine Great.bodyPost_end0 rfl rfl ?_
          exact ⟨_, v, rfl, HOB.out, HOK.out, HFR.out⟩

end Go.Proofs.Ytjmfgncakegjaaa
