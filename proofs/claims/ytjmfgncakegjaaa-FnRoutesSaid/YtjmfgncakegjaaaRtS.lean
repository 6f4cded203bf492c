/-
  The contract of l05Walk, the reference's: all routes that go on, by induction on what points are left.
-/
import Derived.Test.YtjmfgncakegjaaaRegS
import Derived.Test.YtjmfgncakegjaaaRtN
import Derived.Test.YtjmfgncakegjaaaRouteH
namespace Go.Proofs.Ytjmfgncakegjaaa
open Go.RowKit

/-- What the walk over routes hands back. -/
def ResW (B : Nat) (res : List (List Int)) (w : World) (e : Ending) (w' : World) : Prop := ∃ u, e = .returned u ∧ OutR w' B u res ∧ Fr B w w'

set_option maxHeartbeats 4000000 in
set_option maxRecDepth 20000 in
theorem specWalk_any (to : Int) (np : Nat) (ss : List Segment) (hnp : np ≤ 8) (hss : ss.length ≤ 10) (hseg : ∀ (k : Nat) (s : Segment), ss[k]? = some s → ∀ cur, -1 ≤ otherV s cur ∧ otherV s cur < (np : Int)) (A A' : Option Addr) (c c' B : Nat) :
    ∀ (f gp cp cr : Nat) (Ar : Option Addr) (pts route : List Int) (m : Nat) (cur : Int) (v : Value) (res : List (List Int)) (w : World), B ≤ w.heap.size → Rd w B Segment.at_ 5 A' ss → Has w gp 3 intAt 1 pts → pts[m]? = some cur → pts.length = m + 1 → Sl w 0 w.heap.size Ar 3 intAt 1 route → OutR w B v res →
      pts.Nodup → (∀ x ∈ pts, 0 ≤ x ∧ x < (np : Int)) → pts.length + f = 9 → route.length = m → res.length + (rts ss to f pts cur route).length ≤ 1000000000 →
      Calls Try.prog 63 #[.agg #[.slice A np c, .slice A' ss.length c'], .slice (some ⟨gp, 0, none⟩) pts.length cp, .slice Ar route.length cr, .int .i64 to, v] w (ResW B (res ++ rts ss to f pts cur route) w)
  | 0, _, _, _, _, pts, _, _, _, _, _, _, _, _, _, _, _, _, _, hnd, hin, hlf, _, _ => by
    have := nodup_le np pts hnd hin
    omega
  | f + 1, gp, cp, cr, Ar, pts, route, m, cur, v, res, w, hB, hr', hpt, hla, hlp, hrt, hout, hnd, hin, hlf, hlr, hcount => by
    obtain ⟨i0, hi, hz0, hz1, hz2⟩ := info_parts infoInt
    obtain ⟨iS, hiS, hzS0, hzS1, hzS2⟩ := info_parts infoInts
    have hk0 := Blk.new w 31 #[.slice A np c, .slice A' ss.length c']
    have hB0 : Below w.heap.size w (w.alloc (.cells #[.slice A np c, .slice A' ss.length c'] 31)) := (Below.refl _ _).alloc (Nat.le_refl _) _
    have hs1 : (w.alloc (.cells #[.slice A np c, .slice A' ss.length c'] 31)).heap.size = w.heap.size + 1 := by simp
    have hgl := hpt.lt
    have f0 : w.cell? ⟨gp, m, none⟩ = some (.int .i64 cur) := by
      obtain ⟨g2, o2, e2, _, h2⟩ := hpt.rd (by omega)
      cases e2
      have h3 := h2 _ _ hla 0 (by omega)
      simpa [intAt] using h3
    have p1 : IntKind.i64.wrap ((pts.length : Int) - 1) = (m : Int) := by
      rw [IntWalk.i64_in _ (by omega)]; omega
    have p2 : m < pts.length := by omega
    have p3 : (m : Int) < (pts.length : Int) := by omega
    have p4 : (0 : Int) ≤ (m : Int) := Int.natCast_nonneg _
    have hrl8 : route.length ≤ 8 := by omega
    have HLR := Lib.hid hlr
    have HLP := Lib.hid hlp
    have hpl : pts.length ≤ 9 := by omega
    clear hlr hlp
    by_cases hto : cur = to
    · have hres := rts_here (ss := ss) (f := f) (pts := pts) (route := route) hto
      have hsrc := rd_src ((hrt.next hB0).next ((Below.refl _ _).alloc (Nat.le_refl _) (.cells #[] 3))).rd (by decide)
      have hnil : Ar = none → route.length = 0 := rd_nil_len hrt.rd
      have hown0 : ((w.alloc (.cells #[.slice A np c, .slice A' ss.length c'] 31)).alloc (.cells #[] 3)).ownsRow (w.heap.size + 1) 3 1 (.slice (some ⟨w.heap.size + 1, 0, none⟩) 0 0) 0 [] := by
        have h := World.ownsRow_lit (base := w.heap.size + 1) (e := 3) (size := 1) (w.alloc (.cells #[.slice A np c, .slice A' ss.length c'] 31)) #[] 0 (by omega) (by decide) rfl
        rw [hs1] at h
        exact h
      rw [hres] at hcount ⊢
      simp only [List.length_cons, List.length_nil] at hcount
      have hfl := flat_length intAt 1 route
      have h1c := ints_one route
      have HO := Lib.hid (hout.next hB0)
      have HB0 := Lib.hid hB0
      have HRES := Lib.hid hres
      have HBW := Lib.hid hB
      clear hout hB0 hres hk0 hr' hpt hrt hla hnd hin
      go_enter Try.func63, Try.ntmps63
      go_wp2_with (at_builtin; refine wpList_append_any_at _ rfl _ _ 39 rfl (w.heap.size + 1) 3 i0 (.int .i64 0) 1 8 Try.underlying39 hi hz0 hz1 hz2 rfl (by decide) _ _ _ rfl hown0 Ar route.length cr (flat intAt 1 route) rfl hfl hnil hsrc h1c ?c3 ?c4 ?c5 ?_)
      case c3 => unfold maxLen; omega
      case c4 => omega
      case c5 => simp
      intro v1 w1 hown1 hgr1 hat1
      obtain ⟨g, hgb, hgg⟩ : ∃ g, v1.ownBlock = some g ∧ w.heap.size + 1 ≤ g := by
        rcases hat1 with h | h
        · exact ⟨w.heap.size + 1, h, Nat.le_refl _⟩
        · exact ⟨_, h, by simp⟩
      have hb1 := ((Below.refl _ (w.alloc (.cells #[.slice A np c, .slice A' ss.length c'] 31))).alloc (Nat.le_refl _) (.cells #[] 3)).grown hgr1 (by simp) (fun q hq => by rw [hs1]; exact (hown0.lt q hq).1)
      obtain ⟨c1, rfl, hgB, hh1⟩ := own_at (ps := route) (enc := intAt) (size := 1) hown1 rfl hgb
      obtain ⟨rvs, hoA, hIA, hmA⟩ := HO.out
      have hrl : rvs.length ≤ 999999999 := by rw [← List.length_map (f := fun r : RowV => r.rs), hmA]; omega
      have hfr := hIA.fresh (g := g) (by rw [hs1]; exact hgg)
      have hz1 := hb1.size
      have hb2 := hb1.alloc hz1 (.cells #[.slice (some ⟨g, 0, none⟩) route.length c1] 39)
      have HOWN : Hid ((w1.alloc (.cells #[.slice (some ⟨g, 0, none⟩) route.length c1] 39)).ownsRow B 39 1 v rvs.length (flat rowAt 1 rvs)) := Lib.hid (own_next' hoA hb2)
      have HIN := Lib.hid (hIA.next hb2)
      have HH := Lib.hid (hh1.next ((Below.refl _ _).alloc (Nat.le_refl _) (.cells #[.slice (some ⟨g, 0, none⟩) route.length c1] 39)))
      have HB2 := Lib.hid (HB0.out.trans (hb2.mono (by omega)))
      have HGB := Lib.hid hgb
      have HFR := Lib.hid hfr
      have HMA := Lib.hid hmA
      have hzz : B ≤ (w1.alloc (.cells #[.slice (some ⟨g, 0, none⟩) route.length c1] 39)).heap.size := by have := HBW.out; simp; omega
      have hgB2 : B ≤ g := by have := HBW.out; omega
      clear hown1 hgr1 hat1 hb1 hb2 hoA hIA hmA hfr hown0 hsrc hnil hfl h1c hgb hh1
      go_wp2_with (at_builtin; refine wpList_append_own _ rfl _ _ 49 rfl B 39 iS (.slice none 0 0) 1 24 Try.underlying49 hiS hzS0 hzS1 hzS2 rfl (by decide) _ _ _ rfl HOWN.out ⟨w1.heap.size, 0, none⟩ 1 1 [.slice (some ⟨g, 0, none⟩) route.length c1] rfl rfl (cell_one_new _ _ _) ?d2 ?d3 ?d4 ?d5 ?_)
      case d2 => intro u hu; simp at hu; subst hu; rfl
      case d3 => unfold maxLen; omega
      case d4 => omega
      case d5 => exact hzz
      intro v' w' hown' hgr' _
      have hO := HIN.out.push HOWN.out hzz HH.out hgB2 HFR.out hown' hgr'
      rw [HMA.out] at hO
      have hF := (Fr.of_below HB2.out HBW.out).trans (Fr.grown hgr' HOWN.out hzz)
      have HOF := Lib.hid hO
      have HFF := Lib.hid hF
      clear hown' hgr' hO hF
      go_wp2_with fail
      go_ret
      exact ⟨v', rfl, HOF.out, HFF.out⟩
    · have hres := rts_on (ss := ss) (f := f) (pts := pts) (route := route) hto
      rw [hres] at hcount ⊢
      have HPT := Lib.hid hpt
      have HRT := Lib.hid hrt
      have HND := Lib.hid hnd
      have HIN := Lib.hid hin
      have HR' := Lib.hid hr'
      have HO := Lib.hid hout
      have HCT := Lib.hid hcount
      have HF0 := Lib.hid (Fr.of_below hB0 hB)
      have HK0 := Lib.hid hk0
      have htb : (cur == to) = false := by simpa using hto
      clear hpt hrt hnd hin hr' hout hcount hB0 hres hk0
      go_enter Try.func63, Try.ntmps63
      go_wp2_with fail
      go_loopw [4, 33] (fun u i wr => ∃ k : Nat, k ≤ ss.length ∧ i = .int .i64 k ∧ OutR wr B u (res ++ preR ss to f pts cur route k) ∧ Fr B w wr ∧ Blk wr w.heap.size 31 #[.slice A np c, .slice A' ss.length c']) (fun _ i _ => ss.length - (intOf i).toNat)
      case atStart => exact ⟨0, Nat.zero_le _, rfl, by rw [preR_zero, List.append_nil]; exact HO.out.next ((Below.refl _ _).alloc (Nat.le_refl _) _), HF0.out, HK0.out⟩
      case round =>
        obtain ⟨k, hk, rfl, ho, hfr, hkr⟩ := hrel
        have c0 := hkr.cell 0
        have c1 := hkr.cell 1
        have HOK := Lib.hid ho
        have HFR := Lib.hid hfr
        clear ho
        by_cases hlt : k < ss.length
        · obtain ⟨gs, os, rfl, hgs, hcs⟩ := HR'.out (by omega)
          obtain ⟨s, hsj⟩ : ∃ s, ss[k]? = some s := ⟨_, List.getElem?_eq_getElem hlt⟩
          have e0 := (hfr.below.cell (p := ⟨gs, os + k * 5 + 0, none⟩) hgs).trans (hcs k s hsj 0 (by omega))
          have e1 := (hfr.below.cell (p := ⟨gs, os + k * 5 + 1, none⟩) hgs).trans (hcs k s hsj 1 (by omega))
          have e2 := (hfr.below.cell (p := ⟨gs, os + k * 5 + 2, none⟩) hgs).trans (hcs k s hsj 2 (by omega))
          have e3 := (hfr.below.cell (p := ⟨gs, os + k * 5 + 3, none⟩) hgs).trans (hcs k s hsj 3 (by omega))
          have e4 := (hfr.below.cell (p := ⟨gs, os + k * 5 + 4, none⟩) hgs).trans (hcs k s hsj 4 (by omega))
          simp only [Segment.at_, Nat.add_zero] at e0 e1 e2 e3 e4
          have hot := hseg k s hsj cur
          obtain ⟨nx, hnx⟩ : ∃ nx, nx = otherV s cur := ⟨_, rfl⟩
          rw [← hnx] at hot
          have hend : ∀ W, Calls Try.prog 57 #[.agg #[.int .i64 s.a, .int .i64 s.b, .int .i64 s.depth, .int .i64 s.mins, .bool s.meet], .int .i64 cur] W fun e w' => e = .returned (.int .i64 nx) ∧ Below W.heap.size W w' := fun W => by
            rw [hnx]; exact specOther_any s _ _
          have hk0 : (0 : Int) ≤ (k : Int) := Int.natCast_nonneg _
          have hk1 : (k : Int) < (ss.length : Int) := by omega
          have hzr := hfr.below.size
          have z1 : gs < wr.heap.size := by omega
          have HS := Lib.hid hsj
          have HNX := Lib.hid hnx
          have HKR := Lib.hid hkr
          have hlr : w.heap.size < wr.heap.size := hkr.lt
          have HBS : Hid (Below wr.heap.size wr (wr.alloc (.cells #[.int .i64 s.a, .int .i64 s.b, .int .i64 s.depth, .int .i64 s.mins, .bool s.meet] 69))) := Lib.hid ((Below.refl _ _).alloc (Nat.le_refl _) _)
          clear hgs hcs hsj hnx hfr hkr
          by_cases hneg : nx < 0
          · have HX := Lib.hid (preR_skip (to := to) (f := f) (route := route) HS.out HNX.out (.inl hneg) (pts := pts))
            have hng : ¬ (0 : Int) ≤ nx := by omega
            have hnd : decide ((0 : Int) ≤ nx) = false := decide_eq_false hng
            go_wp2_with (go_at_call 57; refine (hend _).mono ?_; rintro e w1 ⟨rfl, hb1⟩)
            have hb2 := HBS.out.trans (hb1.mono HBS.out.size)
            go_roundw
            case rel => exact ⟨k + 1, by omega, by go_num, by rw [HX.out]; exact HOK.out.next hb2, HFR.out.trans (Fr.of_below hb2 (by omega)), HKR.out.next hb2⟩
            case measure => simp [intOf]; omega
          obtain ⟨q, rfl⟩ : ∃ q : Nat, nx = q := ⟨nx.toNat, by omega⟩
          have hm0 : (0 : Int) ≤ (q : Int) := Int.natCast_nonneg _
          have hnd : decide ((0 : Int) ≤ (q : Int)) = true := decide_eq_true hm0
          by_cases hmem : (q : Int) ∈ pts
          · have HX := Lib.hid (preR_skip (to := to) (f := f) (route := route) HS.out HNX.out (.inr hmem) (pts := pts))
            have hhc : ∀ W, Below wr.heap.size wr W → Calls Try.prog 73 #[.slice (some ⟨gp, 0, none⟩) pts.length cp, .int .i64 q] W fun e w' => e = .returned (.bool true) ∧ W = w' := fun W hb => by
              have h := l05Has_any (some ⟨gp, 0, none⟩) cp pts q W ((HFR.out.has HPT.out (by decide) (by decide)).next hb).rd (by omega)
              rw [decide_eq_true hmem] at h
              exact h
            go_wp2_with (first | (go_at_call 73; refine (hhc _ (HBS.out.trans (hb1.mono HBS.out.size))).mono ?_; rintro e w' ⟨rfl, rfl⟩) | (go_at_call 57; refine (hend _).mono ?_; rintro e w1 ⟨rfl, hb1⟩))
            have hb2 := HBS.out.trans (hb1.mono HBS.out.size)
            go_roundw
            case rel => exact ⟨k + 1, by omega, by go_num, by rw [HX.out]; exact HOK.out.next hb2, HFR.out.trans (Fr.of_below hb2 (by omega)), HKR.out.next hb2⟩
            case measure => simp [intOf]; omega
          have hno : ¬ ((q : Int) < 0 ∨ (q : Int) ∈ pts) := fun h => h.elim hneg hmem
          have HX := Lib.hid (preR_step (to := to) (f := f) (route := route) HS.out HNX.out hno (pts := pts))
          have hhc : ∀ W, Below wr.heap.size wr W → Calls Try.prog 73 #[.slice (some ⟨gp, 0, none⟩) pts.length cp, .int .i64 q] W fun e w' => e = .returned (.bool false) ∧ W = w' := fun W hb => by
            have h := l05Has_any (some ⟨gp, 0, none⟩) cp pts q W ((HFR.out.has HPT.out (by decide) (by decide)).next hb).rd (by omega)
            rw [decide_eq_false hmem] at h
            exact h
          go_wp2_with (first | (go_at_call 73; refine (hhc _ (HBS.out.trans (hb1.mono HBS.out.size))).mono ?_; rintro e w' ⟨rfl, rfl⟩) | (go_at_call 57; refine (hend _).mono ?_; rintro e w1 ⟨rfl, hb1⟩))
          have hb2 := HBS.out.trans (hb1.mono HBS.out.size)
          have hzz : B ≤ w1.heap.size := by have := hb2.size; omega
          have hfw := HFR.out.trans (Fr.of_below hb2 (by omega))
          have hfwd := hfw.drew
          have hOw := HOK.out.next hb2
          have hkw := HKR.out.next hb2
          have hRd : Rd w1.drew B Segment.at_ 5 (some ⟨gs, os, none⟩) ss := HR'.out.below hfwd.below
          have hqn : (q : Int) < (np : Int) := hot.2
          refine wp_regS (S := fun W => W.cell? ⟨w.heap.size, 0, none⟩ = some (.slice A np c) ∧ W.cell? ⟨w.heap.size, 1, none⟩ = some (.slice (some ⟨gs, os, none⟩) ss.length c')) (pts := pts) (route := route) (nx := (q : Int)) (ix := (k : Int)) (gp := gp) (cp := cp) (cr := cr) (Ar := Ar) (cv := .agg #[.slice A np c, .slice (some ⟨gs, os, none⟩) ss.length c']) (tv := .int .i64 to) (ov := u4) (R := fun u w' => OutR w' B u (res ++ preR ss to f pts cur route (k + 1)) ∧ Fr B w1.drew w') ⟨by rfl, by kernel_rfl, by kernel_rfl, ⟨_, rfl, rfl, rfl, rfl⟩, ⟨_, rfl, rfl, rfl, rfl⟩, ⟨_, rfl, rfl, rfl, rfl⟩, ⟨_, rfl, rfl, rfl, rfl⟩, ⟨_, rfl, rfl, rfl, rfl⟩, ⟨_, rfl, rfl, rfl, rfl⟩, ⟨_, rfl, rfl, rfl, rfl⟩, by kernel_rfl, by kernel_rfl, by kernel_rfl, ⟨_, rfl, rfl, rfl, rfl⟩, ⟨_, rfl, rfl, rfl, rfl⟩, ⟨_, rfl, rfl, rfl, rfl⟩, ⟨_, rfl, rfl, rfl, rfl⟩, ⟨_, rfl, rfl, rfl, rfl⟩, ⟨_, rfl, rfl, rfl, rfl⟩, ⟨_, rfl, rfl, rfl, rfl⟩, ⟨_, rfl, rfl, rfl, rfl⟩, ⟨_, rfl, rfl, rfl, rfl⟩, ⟨_, rfl, rfl, rfl, rfl⟩⟩ rfl (by show 67 ≤ 67; exact Nat.le_refl _) (by omega) (by omega) ?hpt ?hrt rfl rfl rfl rfl rfl rfl (fun _ _ _ _ _ h => h) ?hy ?hS ?hcall ?hfin
          case hy =>
            intro o ho W hS
            obtain ⟨z0, z1⟩ := hS
            unfold execOp
            simp only [ho]
            go_simp
          case hpt => exact hfwd.has HPT.out (by decide) (by decide)
          case hrt =>
            have h := hfwd.sl HRT.out
            exact h.mono (Nat.le_refl _) (by have := hfwd.below.size; exact this)
          case hS =>
            intro W hW
            have hkW : Blk W _ _ _ := (show Blk w1.drew _ _ _ from hkw).next hW
            exact ⟨hkW.cell 0, hkW.cell 1⟩
          case hcall =>
            intro g1 d1 g2 d2 W hW h1 h2
            have hWs : w1.heap.size ≤ W.heap.size := hW.size
            refine (specWalk_any to np ss hnp hss hseg A (some ⟨gs, os, none⟩) c c' B f g1 d1 d2 (some ⟨g2, 0, none⟩) (pts ++ [(q : Int)]) (route ++ [(k : Int)]) (m + 1) q u4 (res ++ preR ss to f pts cur route k) W (by omega) (hRd.below (hW.mono hzz)) h1 ?_ ?_ (.inr ⟨g2, rfl, Nat.zero_le _, h2.lt, h2⟩) ?_ (nodup_snoc HND.out hmem) (range_snoc HIN.out ⟨hm0, hqn⟩) ?_ ?_ ?_).mono ?_
            · rw [← HLP.out]
              simp
            · rw [List.length_append, HLP.out]
              rfl
            · exact OutR.next (w := w1.drew) (hOw.next ((Below.refl _ _).drew)) hW
            · rw [List.length_append]
              simp
              omega
            · rw [List.length_append, HLR.out]
              rfl
            · have h3 := preR_le (ss := ss) (to := to) (f := f) (pts := pts) (cur := cur) (route := route) (show k + 1 ≤ ss.length by omega)
              have h4 := HCT.out
              rw [HX.out] at h3
              simp only [List.length_append] at h3 ⊢
              omega
            · rintro e w' ⟨u, rfl, h3, h4⟩
              have hkW : Blk W _ _ _ := (show Blk w1.drew _ _ _ from hkw).next hW
              have hk' := h4.keep _ _ _ (by decide) (by decide) hkW
              refine ⟨u, rfl, ⟨hk'.cell 0, hk'.cell 1⟩, ?_, (Fr.of_below hW hzz).trans h4⟩
              rw [HX.out, ← List.append_assoc]
              exact h3
          case hfin =>
            rintro x w2 ⟨h3, h4⟩
            simp only [FrL, slotsS, Act.put, List.setIfInBounds_toArray, List.set_cons_zero, List.set_cons_succ]
            have h5 := hkw
            have hk2 := h4.keep _ _ _ (by decide) (by decide) (show Blk w1.drew _ _ _ from hkw)
            have hf2 := hfwd.trans h4
            have H3 := Lib.hid h3
            have HF2 := Lib.hid hf2
            have HK2 := Lib.hid hk2
            clear h3 h4 hk2 hf2 h5 hkw hOw hRd hfwd hfw
            go_wp2_with fail
            go_roundw
            case rel => exact ⟨k + 1, by omega, by go_num, H3.out, HF2.out, HK2.out⟩
            case measure => simp [intOf]; omega
        · have hk' : k = ss.length := by omega
          subst hk'
          go_wp2_with fail
          go_ret
          exact ⟨_, rfl, HOK.out, HFR.out⟩

end Go.Proofs.Ytjmfgncakegjaaa
