/-
  FnShrunk: what takes n minutes can begin at a minute of the shrunk windows and at no other one. No condition.
-/
import Derived.Test.YtfcdnaaecfhddaaDrawW
import Derived.Test.YtfcdnaaecfhddaaModelZ
import Derived.Test.YtfcdnaaecfhddaaModelO
import Derived.Test.YtfcdnaaecfhddaaWinOk
import Derived.Test.YtfcdnaaecfhddaaWinNum
import Derived.Test.YtfcdnaaecfhddaaWinShrink
import Derived.Test.YtfcdnaaecfhddaaOpenB
namespace Go.Proofs.Ytfcdnaaecfhddaa
open Go.ChangeShapes Go.WideShapes Go.ChangeAt Go.RowKit

set_option maxRecDepth 20000 in
set_option maxHeartbeats 8000000 in
theorem fnShrunk_walk {v0 : Value} {zs : List Int} (w : World) (h0 : IsBytes w v0 zs) :
    Calls Try.prog 11 #[v0] w fun e w' => e = .returned (.bool true) ∧ Below w.heap.size w w' := by
  obtain ⟨A, c, rfl, hr, hml, hz⟩ := h0
  unfold maxLen at hml
  go_enter Try.func11, Try.ntmps11
  by_cases hlen : zs.length ≤ 1048576
  · go_wp2_with fail
    refine (MakeWindows_any A c 1 zs _ hr hlen hz (by omega)).mono ?_
    rintro e w1 ⟨ps, Aw, cw, at_, rfl, hsl1, hb1, hdr, hl3⟩
    go_wp2_with fail
    refine (MakeNum_any A c 60 zs _ ((hr.below hb1).more hb1.size) hlen hz (by omega)).mono ?_
    rintro e w2 ⟨x, rfl, hx0, hx1, hb2⟩
    have hB2 := hb1.trans (hb2.mono hb1.size)
    have hsl2 := hsl1.next hb2
    obtain ⟨n, hn⟩ : ∃ n, n = x % 60 := ⟨_, rfl⟩
    have hn0 : 0 ≤ n ∧ n ≤ 59 := by omega
    have HN := Lib.hid hn
    obtain ⟨hn1, hn2⟩ := hn0
    have hok := hdr.1
    have hlen1 : ps.length ≤ 1048576 := by omega
    have HTO := Lib.hid (show ∀ p ∈ ps, p.to_ ≤ 1557 from fun p hp => by
      have h1 := (hdr.2.1 p hp).2.2
      have h2 := hdr.2.2.2
      omega)
    have HSH := Lib.hid (show shrinkF ps n = shrinkL n ps from if_pos ⟨hok, inB_mk (by omega)⟩)
    have HSOK := Lib.hid (show windowsOk (shrinkL n ps) = true from shrinkL_ok hn1 ps 0 hok)
    have HCNT := Lib.hid (shrinkL_count hn1 ps 0 hok)
    have HHAS := Lib.hid (fun m => shr_has hn1 ps 0 m hok)
    have hsle := shrinkL_le n ps
    have HOK := Lib.hid hok
    have HC3 := Lib.hid (implShrinkWindows_any Aw cw ps n w2 hsl2.rd hlen1)
    rw [HSH.out] at HC3
    clear hsl1 hdr hok hn hr
    go_wp2_with fail
    rw [← HN.out]
    refine HC3.out.mono ?_
    rintro e w3 ⟨As, cs, rfl, hss3, hb3⟩
    have hB3 := hB2.trans (hb3.mono hB2.size)
    have hw3 := hsl2.next hb3
    obtain ⟨ss, hsseq⟩ : ∃ ss, ss = shrinkL n ps := ⟨_, rfl⟩
    rw [← hsseq] at hss3 hsle HSOK HCNT ⊢
    have HHAS2 : Hid (∀ m, hasMin ss m = decide (n < runV ps m)) := Lib.hid fun m => by rw [hsseq]; exact HHAS.out m
    have hlen2 : ss.length ≤ 1048576 := by omega
    clear hsseq HHAS HC3 HSH hsl2
    have HQ1 := Lib.hid (implWindowsOk_any As cs ss w3 hss3.rd hlen2)
    rw [HSOK.out] at HQ1
    have hz3 := hB3.size
    go_wp2_with fail
    refine HQ1.out.mono ?_
    rintro e w4 ⟨rfl, hb4⟩
    have hB4 := hB3.trans (hb4.mono hB3.size)
    have hs4 := hss3.next hb4
    have hw4 := hw3.next hb4
    have HQ2 := Lib.hid (implWindowsOk_any Aw cw ps w4 hw4.rd hlen1)
    rw [HOK.out] at HQ2
    go_wp2_with fail
    refine HQ2.out.mono ?_
    rintro e w5 ⟨rfl, hb5⟩
    have hB5 := hB4.trans (hb5.mono hB4.size)
    have hs5 := hs4.next hb5
    have hw5 := hw4.next hb5
    have HQ3 := Lib.hid (implCountMinutes_any As cs ss w5 hs5.rd hlen2)
    rw [countF_ok HSOK.out] at HQ3
    go_wp2_with fail
    refine HQ3.out.mono ?_
    rintro e w6 ⟨rfl, hb6⟩
    have hB6 := hB5.trans (hb6.mono hB5.size)
    have hs6 := hs5.next hb6
    have hw6 := hw5.next hb6
    have HQ4 := Lib.hid (implCountMinutes_any Aw cw ps w6 hw6.rd hlen1)
    rw [countF_ok HOK.out] at HQ4
    go_wp2_with fail
    refine HQ4.out.mono ?_
    rintro e w7 ⟨rfl, hb7⟩
    have hB7 := hB6.trans (hb7.mono hB6.size)
    have hs7 := hs6.next hb7
    have hw7 := hw6.next hb7
    obtain ⟨ca, hca⟩ : ∃ ca, ca = countV ss := ⟨_, rfl⟩
    obtain ⟨cb, hcb⟩ : ∃ cb, cb = countV ps := ⟨_, rfl⟩
    have hcc := HCNT.out
    rw [← hca, ← hcb] at hcc
    rw [← hca, ← hcb]
    have HS7 := Lib.hid hs7
    have HW7 := Lib.hid hw7
    clear hca hcb HQ1 HQ2 HQ3 HQ4 hb2 hb3 hb4 hb5 hb6 hb7 hss3 hw3 hs4 hw4 hs5 hw5 hs6 hw6 hs7 hw7 HCNT
    go_wp2_with fail
    go_loopw [6, 7] (fun r i wr => ∃ m : Int, -1 ≤ m ∧ m ≤ 1600 ∧ i = .int .i64 m ∧ r = .int .i64 (runV ps (m + 1)) ∧ (0 ≤ runV ps (m + 1) ∧ runV ps (m + 1) ≤ 1600 - m) ∧ Below w7.heap.size w7 wr) (fun _ i _ => (intOf i + 1).toNat)
    case atStart =>
      have h1 := (behind ps 1601 fun p hp => by have := HTO.out p hp; omega).2
      exact ⟨1600, by omega, by omega, rfl, by rw [show (1600 : Int) + 1 = 1601 by omega, h1], by rw [show (1600 : Int) + 1 = 1601 by omega, h1]; omega, Below.refl _ _⟩
    case round =>
      obtain ⟨m, hm0, hm1, rfl, rfl, hrun, hbel⟩ := hrel
      obtain ⟨R, hR⟩ : ∃ R, R = runV ps (m + 1) := ⟨_, rfl⟩
      rw [← hR] at hrun ⊢
      obtain ⟨hr0, hr1⟩ := hrun
      have HR := Lib.hid hR
      clear hR
      by_cases hlt : 0 ≤ m
      · have HA := Lib.hid (implHasMinute_any Aw cw ps m wr (HW7.out.next hbel).rd hlen1)
        have hs := hbel.size
        cases hh : hasMin ps m
        · have hrv : Hid (runV ps m = 0) := Lib.hid (run_no ps m hh)
          rw [hh] at HA
          clear hh
          go_wp2_with fail
          refine HA.out.mono ?_
          rintro e w8 ⟨rfl, hb8⟩
          have hbel8 := hbel.trans (hb8.mono hs)
          have HB := Lib.hid (implHasMinute_any As cs ss m w8 (HS7.out.next hbel8).rd hlen2)
          rw [HHAS2.out, hrv.out] at HB
          go_wp2_with fail
          refine HB.out.mono ?_
          rintro e w9 ⟨rfl, hb9⟩
          have hd : decide (n < (0 : Int)) = false := by simp; omega
          rw [hd]
          clear hd
          go_wp2_with fail
          go_roundw
          case rel => exact ⟨m - 1, by omega, by omega, by go_num, by rw [show m - 1 + 1 = m by omega, hrv.out], by rw [show m - 1 + 1 = m by omega, hrv.out]; omega, hbel8.trans (hb9.mono hbel8.size)⟩
          case measure => simp [intOf]; omega
        · have hrv : Hid (runV ps m = R + 1) := Lib.hid (by rw [HR.out]; exact run_yes ps 0 m HOK.out hh)
          rw [hh] at HA
          clear hh
          go_wp2_with fail
          refine HA.out.mono ?_
          rintro e w8 ⟨rfl, hb8⟩
          have hbel8 := hbel.trans (hb8.mono hs)
          have HB := Lib.hid (implHasMinute_any As cs ss m w8 (HS7.out.next hbel8).rd hlen2)
          rw [HHAS2.out, hrv.out] at HB
          go_wp2_with fail
          refine HB.out.mono ?_
          rintro e w9 ⟨rfl, hb9⟩
          by_cases hd : n < R + 1
          all_goals
            go_wp2_with fail
            go_roundw
            case rel => exact ⟨m - 1, by omega, by omega, by go_num, by rw [show m - 1 + 1 = m by omega, hrv.out], by rw [show m - 1 + 1 = m by omega, hrv.out]; omega, hbel8.trans (hb9.mono hbel8.size)⟩
            case measure => simp [intOf]; omega
      · have hs := hbel.size
        have hw8 := HW7.out.next hbel
        have HA := Lib.hid (implNextMinute_any Aw cw ps n wr hw8.rd hlen1)
        rw [nextF_ok HOK.out] at HA
        have HB8 := Lib.hid (hB7.trans (hbel.mono hB7.size))
        have hcs := next_cases ps 0 n HOK.out hn1
        obtain ⟨k, hk⟩ : ∃ k, k = nextMin ps n := ⟨_, rfl⟩
        rw [← hk] at hcs HA
        have HW8 := Lib.hid hw8
        clear hk hw8
        rcases hcs with ⟨rfl, hall⟩ | ⟨hk1, hk2, hk3⟩
        · rcases List.eq_nil_or_concat ps with he | ⟨qs, q, he⟩
          · subst he
            go_wp2_with fail
            refine HA.out.mono ?_
            rintro e w8 ⟨rfl, hb8⟩
            go_wp2_with fail
            go_ret
            exact ⟨rfl, HB8.out.trans (hb8.mono HB8.out.size)⟩
          · rw [List.concat_eq_append] at he
            subst he
            have hq := hall q (by simp)
            obtain ⟨g, off, rfl, hg, hc⟩ := HW8.out.rd (by simp)
            have c1 := hc qs.length q (by simp) 1 (by omega)
            simp only [Window.at_] at c1
            have hql : (qs ++ [q]).length = qs.length + 1 := by simp
            rw [hql] at HA hl3 ⊢
            have hql2 : qs.length ≤ 2 := by omega
            have HHC := Lib.hid hc
            have HALL := Lib.hid hall
            have HTO2 := Lib.hid hql
            clear hc hall hql
            go_wp2_with fail
            refine HA.out.mono ?_
            rintro e w8 ⟨rfl, hb8⟩
            have d1 := (hb8.cell (p := ⟨g, off + qs.length * 2 + 1, none⟩) hg).trans c1
            go_wp2_with fail
            go_ret
            exact ⟨rfl, HB8.out.trans (hb8.mono HB8.out.size)⟩
        · have hkm : ¬ k = -1 := by omega
          by_cases hkn : k = n
          · subst hkn
            have HD := Lib.hid (fun W (h : Below wr.heap.size wr W) => implHasMinute_any Aw cw ps k W (HW8.out.next h).rd hlen1)
            rw [hk2] at HD
            clear hk3
            go_wp2_with fail
            refine HA.out.mono ?_
            rintro e w8 ⟨rfl, hb8⟩
            have HB9 := Lib.hid (HB8.out.trans (hb8.mono HB8.out.size))
            go_wp2_with fail
            refine (HD.out w8 hb8).mono ?_
            rintro e w9 ⟨rfl, hb9⟩
            go_wp2_with fail
            go_ret
            exact ⟨rfl, HB9.out.trans (hb9.mono HB9.out.size)⟩
          · have hn0 : hasMin ps n = false := by
              rcases hk3 with h | h
              · exact absurd h hkn
              · exact h
            have HD := Lib.hid (fun W (h : Below wr.heap.size wr W) => implHasMinute_any Aw cw ps k W (HW8.out.next h).rd hlen1)
            rw [hk2] at HD
            have HD2 := Lib.hid (fun W (h : Below wr.heap.size wr W) => implHasMinute_any Aw cw ps n W (HW8.out.next h).rd hlen1)
            rw [hn0] at HD2
            clear hk3 hn0
            go_wp2_with fail
            refine HA.out.mono ?_
            rintro e w8 ⟨rfl, hb8⟩
            have HB9 := Lib.hid (HB8.out.trans (hb8.mono HB8.out.size))
            go_wp2_with fail
            refine (HD.out w8 hb8).mono ?_
            rintro e w9 ⟨rfl, hb9⟩
            have hb89 := hb8.trans (hb9.mono hb8.size)
            have HB10 := Lib.hid (HB9.out.trans (hb9.mono HB9.out.size))
            go_wp2_with fail
            refine (HD2.out w9 hb89).mono ?_
            rintro e w10 ⟨rfl, hb10⟩
            go_wp2_with fail
            go_ret
            exact ⟨rfl, HB10.out.trans (hb10.mono HB10.out.size)⟩
  · go_wp2_with fail
    go_ret
    exact ⟨rfl, Below.refl _ _⟩

set_option maxRecDepth 100000 in
theorem fnShrunk_lifted (os : Os) (started : os.Started) (H : Type) (enc : TypeId × Value → H) :
    ReturnsInHanded {} Try.checked os 11 .any (Rows.fnShrunkSpec.pre6 enc Try.prog Try.f11 Rows.fnShrunkRow.domain false) (Rows.fnShrunkSpec.post enc Try.prog Try.f11 false true false false) := by
  refine returnsInHanded_of_change (C := Try.checked) own_ started (by kernel_rfl) Try.func11
    (ChangeSpec.witness6 (enc := enc) (C := Try.checked) false ⟨#[], #[.slice none 0 0], []⟩ 8 (by kernel_rfl) (by kernel_rfl) (by kernel_rfl) (by kernel_rfl)) ?_
  intro W base args ds gs before hval0 hW hcnd _
  have hval : ∀ (j : Nat) t v, Try.f11.params[j]? = some t → args[j]? = some v → Value.okWide Try.prog W .any base t v := hval0
  have hW' := hW
  obtain ⟨p, q, hA0, hV, rfl, hfz, hnd⟩ := hW
  have hA : DataW.TrodAll enc Try.prog W 0 (fun _ => true) true Try.f11.params.toList args.toList ds p := hA0
  rw [Try.params11] at hA hval
  obtain ⟨v0, d0, rfl, rfl, h0⟩ := trodAll_one hA
  obtain ⟨rfl, rfl⟩ := trodVars_none hV
  obtain ⟨x0, hx0⟩ := open_Bytes Try.underlying37 Try.underlying5 (by kernel_rfl) (hval 0 37 v0 rfl rfl) h0
  refine (fnShrunk_walk W hx0).mono fun e W' ⟨he, hb⟩ => ?_
  subst he
  exact ⟨_, rfl, law_post laidOut_ (by kernel_rfl) rfl (by kernel_rfl) Try.underlying4 hW' rfl hb⟩

theorem fnShrunk_holds : Rows.FnShrunkSaid :=
  OpenClaim.holds_of_wide 11 Try.f11 rfl rfl rfl rfl rfl rfl rfl ⟨rfl, rfl, rfl, rfl, rfl⟩ rfl rfl rfl rfl rfl (by kernel_rfl) Try.func11 (by kernel_rfl)
    (of_decide_eq_true (by kernel_rfl)) (by unfold Func.isWrapper; rw [if_neg (of_decide_eq_false (by kernel_rfl))]; exact ⟨rfl, rfl⟩)
    (fun os started H enc _ => fnShrunk_lifted os started H enc)
#print axioms fnShrunk_holds

end Go.Proofs.Ytfcdnaaecfhddaa
