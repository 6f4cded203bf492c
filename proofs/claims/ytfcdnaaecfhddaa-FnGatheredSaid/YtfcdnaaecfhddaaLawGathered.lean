/-
  FnGathered: gathered windows contain exactly the minutes of their parts, and complements and intersections are exact. No condition.
-/
import Derived.Test.YtfcdnaaecfhddaaDrawW
import Derived.Test.YtfcdnaaecfhddaaPieces
import Derived.Test.YtfcdnaaecfhddaaModelH
import Derived.Test.YtfcdnaaecfhddaaGatherN
import Derived.Test.YtfcdnaaecfhddaaWinOk
import Derived.Test.YtfcdnaaecfhddaaWinNum
import Derived.Test.YtfcdnaaecfhddaaWinOtherI
import Derived.Test.YtfcdnaaecfhddaaWinComI
import Derived.Test.YtfcdnaaecfhddaaOpenB
namespace Go.Proofs.Ytfcdnaaecfhddaa
open Go.ChangeShapes Go.WideShapes Go.ChangeAt Go.RowKit

set_option maxRecDepth 20000 in
set_option maxHeartbeats 16000000 in
theorem fnGathered_walk {v0 : Value} {zs : List Int} (w : World) (h0 : IsBytes w v0 zs) :
    Calls Try.prog 12 #[v0] w fun e w' => e = .returned (.bool true) ∧ Below w.heap.size w w' := by
  obtain ⟨A, c, rfl, hr, hml, hz⟩ := h0
  unfold maxLen at hml
  go_enter Try.func12, Try.ntmps12
  by_cases hlen : zs.length ≤ 1048576
  case neg =>
    go_wp2_with fail
    go_ret
    exact ⟨rfl, Below.refl _ _⟩
  have hB0 : Below w.heap.size w w := Below.refl _ _
  have HC1 := Lib.hid (MakePieces_any A c zs w hr hlen hz)
  go_wp2_with fail
  refine (HC1.out).mono ?_
  rintro e w1 ⟨ps, Ap, cp, rfl, hslp, hb1, hpc, hlp⟩
  have hB1 := hB0.trans (hb1.mono hB0.size)
  have hz1 := hb1.size
  clear HC1
  have hlp2 : ps.length ≤ 1048576 := by omega
  have HC2 := Lib.hid (implGatherWindows_some Ap cp ps w1 hslp.rd hlp2)
  go_wp2_with fail
  refine (HC2.out).mono ?_
  rintro e w2 ⟨ad, cg, rfl, hslg, hb2⟩
  have hB2 := hB1.trans (hb2.mono hB1.size)
  have hz2 := hb2.size
  have p2 := hslp.next hb2
  clear HC2
  obtain ⟨ws, hws⟩ : ∃ ws, ws = gatherF ps := ⟨_, rfl⟩
  have hwok : windowsOk ws = true := by rw [hws]; exact gather_ok ps
  have HWH := Lib.hid (show ∀ m : Nat, m ≤ 2880 → hasMin ws m = hasMin ps m from fun m hm => by rw [hws]; exact gather_has ps hm)
  have hwl : ws.length ≤ 2881 := by rw [hws]; exact gatherF_le ps
  rw [← hws] at hslg ⊢
  have hwl2 : ws.length ≤ 1048576 := by omega
  clear hws
  have HC3 := Lib.hid (implOtherWindows_any ad cg ws w2 hslg.rd hwl2)
  go_wp2_with fail
  refine (HC3.out).mono ?_
  rintro e w3 ⟨Ao, co, rfl, hslo, hb3⟩
  have hB3 := hB2.trans (hb3.mono hB2.size)
  have hz3 := hb3.size
  have p3 := p2.next hb3
  have g3 := hslg.next hb3
  clear HC3
  obtain ⟨os, hos⟩ : ∃ os, os = gapsF ws := ⟨_, rfl⟩
  have hgl := gapsF_small ws
  have hga := gaps_all hwok
  have hcs := common_self hwok
  rw [← hos] at hslo hgl hga hcs ⊢
  have hol2 : os.length ≤ 1048576 := by omega
  have hook := hga.2.1
  have HOH := Lib.hid hga.2.2
  have hcnt := hga.1
  have HCS := Lib.hid (show commonF ws os = [] by rw [commonF, if_pos ⟨hwok, hook⟩]; exact hcs)
  have HWOK := Lib.hid hwok
  have HOOK := Lib.hid hook
  have HCNT := Lib.hid hcnt
  clear hos hga hcs hcnt
  have HC4 := Lib.hid (MakeWindows_any A c 60 zs w3 ((hr.below hB3).more hB3.size) hlen hz (by omega))
  go_wp2_with fail
  refine (HC4.out).mono ?_
  rintro e w4 ⟨vs, Av, cv, at_, rfl, hslv, hb4, hdr, hlv⟩
  have hB4 := hB3.trans (hb4.mono hB3.size)
  have hz4 := hb4.size
  have p4 := p3.next hb4
  have g4 := g3.next hb4
  have o4 := hslo.next hb4
  clear HC4
  have hvok := hdr.1
  have hlv2 : vs.length ≤ 1048576 := by omega
  have HVOK := Lib.hid hvok
  clear hdr
  have HC5 := Lib.hid (implCommonWindows_any (some ad) Av cg cv ws vs w4 g4.rd hslv.rd hwl2 hlv2)
  go_wp2_with fail
  refine (HC5.out).mono ?_
  rintro e w5 ⟨Ab, cb, rfl, hslb, hb5⟩
  have hB5 := hB4.trans (hb5.mono hB4.size)
  have hz5 := hb5.size
  have p5 := p4.next hb5
  have g5 := g4.next hb5
  have o5 := o4.next hb5
  have v5 := hslv.next hb5
  clear HC5
  obtain ⟨bs, hbs⟩ : ∃ bs, bs = commonF ws vs := ⟨_, rfl⟩
  have hbl := commonF_small ws vs
  have hbs2 : bs = commonL ws vs := by rw [hbs, commonF, if_pos ⟨HWOK.out, HVOK.out⟩]
  have HBOK : Hid (windowsOk bs = true) := Lib.hid (by rw [hbs2]; exact common_ok ws vs 0 0 HWOK.out HVOK.out (by omega) (by omega))
  have HBH : Hid (∀ m, hasMin bs m = (hasMin ws m && hasMin vs m)) := Lib.hid fun m => by rw [hbs2]; exact common_has vs m ws
  rw [← hbs] at hslb hbl ⊢
  have hbl2 : bs.length ≤ 1048576 := by omega
  clear hbs hbs2 hwok hook hvok
  have HC6 := Lib.hid (implWindowsOk_any (some ad) cg ws w5 g5.rd hwl2)
  rw [HWOK.out] at HC6
  go_wp2_with fail
  refine (HC6.out).mono ?_
  rintro e w6 ⟨rfl, hb6⟩
  have hB6 := hB5.trans (hb6.mono hB5.size)
  have hz6 := hb6.size
  have p6 := p5.next hb6
  have g6 := g5.next hb6
  have o6 := o5.next hb6
  have v6 := v5.next hb6
  have b6 := hslb.next hb6
  clear HC6
  have HC7 := Lib.hid (implWindowsOk_any Ao co os w6 o6.rd hol2)
  rw [HOOK.out] at HC7
  go_wp2_with fail
  refine (HC7.out).mono ?_
  rintro e w7 ⟨rfl, hb7⟩
  have hB7 := hB6.trans (hb7.mono hB6.size)
  have hz7 := hb7.size
  have p7 := p6.next hb7
  have g7 := g6.next hb7
  have o7 := o6.next hb7
  have v7 := v6.next hb7
  have b7 := b6.next hb7
  clear HC7
  have HC8 := Lib.hid (implWindowsOk_any Ab cb bs w7 b7.rd hbl2)
  rw [HBOK.out] at HC8
  go_wp2_with fail
  refine (HC8.out).mono ?_
  rintro e w8 ⟨rfl, hb8⟩
  have hB8 := hB7.trans (hb8.mono hB7.size)
  have hz8 := hb8.size
  have p8 := p7.next hb8
  have g8 := g7.next hb8
  have o8 := o7.next hb8
  have v8 := v7.next hb8
  have b8 := b7.next hb8
  clear HC8
  have HC9 := Lib.hid (implCountMinutes_any (some ad) cg ws w8 g8.rd hwl2)
  rw [countF_ok HWOK.out] at HC9
  go_wp2_with fail
  refine (HC9.out).mono ?_
  rintro e w9 ⟨rfl, hb9⟩
  have hB9 := hB8.trans (hb9.mono hB8.size)
  have hz9 := hb9.size
  have p9 := p8.next hb9
  have g9 := g8.next hb9
  have o9 := o8.next hb9
  have v9 := v8.next hb9
  have b9 := b8.next hb9
  clear HC9
  have HC10 := Lib.hid (implCountMinutes_any Ao co os w9 o9.rd hol2)
  rw [countF_ok HOOK.out] at HC10
  go_wp2_with fail
  refine (HC10.out).mono ?_
  rintro e w10 ⟨rfl, hb10⟩
  have hB10 := hB9.trans (hb10.mono hB9.size)
  have hz10 := hb10.size
  have p10 := p9.next hb10
  have g10 := g9.next hb10
  have o10 := o9.next hb10
  have v10 := v9.next hb10
  have b10 := b9.next hb10
  clear HC10
  obtain ⟨ca, hca⟩ : ∃ ca, ca = countV ws := ⟨_, rfl⟩
  obtain ⟨cc, hcc⟩ : ∃ cc, cc = countV os := ⟨_, rfl⟩
  have hsum := HCNT.out
  rw [← hca, ← hcc] at hsum
  rw [← hca, ← hcc]
  have e1 : IntKind.i64.wrap (ca + cc) = 2881 := by rw [hsum]; rfl
  clear hca hcc
  have HC11 := Lib.hid (implCommonWindows_any (some ad) Ao cg co ws os w10 g10.rd o10.rd hwl2 hol2)
  rw [HCS.out] at HC11
  go_wp2_with fail
  refine (HC11.out).mono ?_
  rintro e w11 ⟨Az, cz, rfl, hslz, hb11⟩
  have hB11 := hB10.trans (hb11.mono hB10.size)
  have hz11 := hb11.size
  have p11 := p10.next hb11
  have g11 := g10.next hb11
  have o11 := o10.next hb11
  have v11 := v10.next hb11
  have b11 := b10.next hb11
  clear HC11
  clear hslz
  have HP := Lib.hid p11
  have HG := Lib.hid g11
  have HO := Lib.hid o11
  have HV := Lib.hid v11
  have HB := Lib.hid b11
  have HBN := Lib.hid hB11
  have hzn := hB11.size
  clear hr hpc
  go_wp2_with fail
  go_loopw [8] (fun i wr => ∃ k : Nat, k ≤ 1300 ∧ i = .int .i64 k ∧ Below w11.heap.size w11 wr) (fun i _ => 1300 - (intOf i).toNat)
  case atStart => exact ⟨0, Nat.zero_le _, rfl, Below.refl _ _⟩
  case round =>
    obtain ⟨k, hk, rfl, hbel⟩ := hrel
    by_cases hlt : k < 1300
    · have hk1 : (k : Int) < 1300 := by omega
      have hs := hbel.size
      have C1 : Hid (∀ W, Below w11.heap.size w11 W → Calls Try.prog 19 #[.slice (some ad) ws.length cg, .int .i64 k] W fun e w' => e = .returned (.bool (hasMin ws k)) ∧ Below W.heap.size W w') := Lib.hid fun W h => implHasMinute_any _ _ _ _ _ (HG.out.next h).rd hwl2
      have C2 : Hid (∀ W, Below w11.heap.size w11 W → Calls Try.prog 19 #[.slice Ap ps.length cp, .int .i64 k] W fun e w' => e = .returned (.bool (hasMin ws k)) ∧ Below W.heap.size W w') := Lib.hid fun W h => by
        rw [HWH.out k (by omega)]
        exact implHasMinute_any _ _ _ _ _ (HP.out.next h).rd hlp2
      have C3 : Hid (∀ W, Below w11.heap.size w11 W → Calls Try.prog 19 #[.slice Ao os.length co, .int .i64 k] W fun e w' => e = .returned (.bool (!hasMin ws k)) ∧ Below W.heap.size W w') := Lib.hid fun W h => by
        rw [← HOH.out k (by omega) (by omega)]
        exact implHasMinute_any _ _ _ _ _ (HO.out.next h).rd hol2
      have C4 : Hid (∀ W, Below w11.heap.size w11 W → Calls Try.prog 19 #[.slice Ab bs.length cb, .int .i64 k] W fun e w' => e = .returned (.bool (hasMin ws k && hasMin vs k)) ∧ Below W.heap.size W w') := Lib.hid fun W h => by
        rw [← HBH.out k]
        exact implHasMinute_any _ _ _ _ _ (HB.out.next h).rd hbl2
      have C5 : Hid (∀ W, Below w11.heap.size w11 W → Calls Try.prog 19 #[.slice Av vs.length cv, .int .i64 k] W fun e w' => e = .returned (.bool (hasMin vs k)) ∧ Below W.heap.size W w') := Lib.hid fun W h => implHasMinute_any _ _ _ _ _ (HV.out.next h).rd hlv2
      cases h1 : hasMin ws k
      · rw [h1] at C1 C2 C3 C4
        clear h1
        go_wp2_with fail
        refine (C1.out _ hbel).mono ?_
        rintro e x1 ⟨rfl, hx1⟩
        have hX1 := hbel.trans (hx1.mono hs)
        go_wp2_with fail
        refine (C2.out _ hX1).mono ?_
        rintro e x2 ⟨rfl, hx2⟩
        have hX2 := hX1.trans (hx2.mono hX1.size)
        go_wp2_with fail
        refine (C3.out _ hX2).mono ?_
        rintro e x3 ⟨rfl, hx3⟩
        have hX3 := hX2.trans (hx3.mono hX2.size)
        go_wp2_with fail
        refine (C4.out _ hX3).mono ?_
        rintro e x4 ⟨rfl, hx4⟩
        have hX4 := hX3.trans (hx4.mono hX3.size)
        go_wp2_with fail
        go_roundw
        case rel => exact ⟨k + 1, by omega, by go_num, hX4⟩
        case measure => simp [intOf]; omega
      · cases h2 : hasMin vs k
        all_goals
          rw [h1] at C1 C2 C3 C4
          rw [h2] at C4 C5
          clear h1 h2
          go_wp2_with fail
          refine (C1.out _ hbel).mono ?_
          rintro e x1 ⟨rfl, hx1⟩
          have hX1 := hbel.trans (hx1.mono hs)
          go_wp2_with fail
          refine (C2.out _ hX1).mono ?_
          rintro e x2 ⟨rfl, hx2⟩
          have hX2 := hX1.trans (hx2.mono hX1.size)
          go_wp2_with fail
          refine (C3.out _ hX2).mono ?_
          rintro e x3 ⟨rfl, hx3⟩
          have hX3 := hX2.trans (hx3.mono hX2.size)
          go_wp2_with fail
          refine (C4.out _ hX3).mono ?_
          rintro e x4 ⟨rfl, hx4⟩
          have hX4 := hX3.trans (hx4.mono hX3.size)
          go_wp2_with fail
          refine (C5.out _ hX4).mono ?_
          rintro e x5 ⟨rfl, hx5⟩
          have hX5 := hX4.trans (hx5.mono hX4.size)
          go_wp2_with fail
          go_roundw
          case rel => exact ⟨k + 1, by omega, by go_num, hX5⟩
          case measure => simp [intOf]; omega
    · have hk2 : k = 1300 := by omega
      subst hk2
      go_wp2_with fail
      go_ret
      exact ⟨rfl, HBN.out.trans (hbel.mono hzn)⟩

set_option maxRecDepth 100000 in
theorem fnGathered_lifted (os : Os) (started : os.Started) (H : Type) (enc : TypeId × Value → H) :
    ReturnsInHanded {} Try.checked os 12 .any (Rows.fnGatheredSpec.pre6 enc Try.prog Try.f12 Rows.fnGatheredRow.domain false) (Rows.fnGatheredSpec.post enc Try.prog Try.f12 false true false false) := by
  refine returnsInHanded_of_change (C := Try.checked) own_ started (by kernel_rfl) Try.func12
    (ChangeSpec.witness6 (enc := enc) (C := Try.checked) false ⟨#[], #[.slice none 0 0], []⟩ 8 (by kernel_rfl) (by kernel_rfl) (by kernel_rfl) (by kernel_rfl)) ?_
  intro W base args ds gs before hval0 hW hcnd _
  have hval : ∀ (j : Nat) t v, Try.f12.params[j]? = some t → args[j]? = some v → Value.okWide Try.prog W .any base t v := hval0
  have hW' := hW
  obtain ⟨p, q, hA0, hV, rfl, hfz, hnd⟩ := hW
  have hA : DataW.TrodAll enc Try.prog W 0 (fun _ => true) true Try.f12.params.toList args.toList ds p := hA0
  rw [Try.params12] at hA hval
  obtain ⟨v0, d0, rfl, rfl, h0⟩ := trodAll_one hA
  obtain ⟨rfl, rfl⟩ := trodVars_none hV
  obtain ⟨x0, hx0⟩ := open_Bytes Try.underlying37 Try.underlying5 (by kernel_rfl) (hval 0 37 v0 rfl rfl) h0
  refine (fnGathered_walk W hx0).mono fun e W' ⟨he, hb⟩ => ?_
  subst he
  exact ⟨_, rfl, law_post laidOut_ (by kernel_rfl) rfl (by kernel_rfl) Try.underlying4 hW' rfl hb⟩

theorem fnGathered_holds : Rows.FnGatheredSaid :=
  OpenClaim.holds_of_wide 12 Try.f12 rfl rfl rfl rfl rfl rfl rfl ⟨rfl, rfl, rfl, rfl, rfl⟩ rfl rfl rfl rfl rfl (by kernel_rfl) Try.func12 (by kernel_rfl)
    (of_decide_eq_true (by kernel_rfl)) (by unfold Func.isWrapper; rw [if_neg (of_decide_eq_false (by kernel_rfl))]; exact ⟨rfl, rfl⟩)
    (fun os started H enc _ => fnGathered_lifted os started H enc)
#print axioms fnGathered_holds

end Go.Proofs.Ytfcdnaaecfhddaa
