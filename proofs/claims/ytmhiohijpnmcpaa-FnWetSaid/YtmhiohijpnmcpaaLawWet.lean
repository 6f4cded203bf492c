/-
  FnWet: the windows of a level are the minutes at which the ends of the band reach it. No condition.
-/
import Derived.Test.YtmhiohijpnmcpaaDrawG
import Derived.Test.YtmhiohijpnmcpaaWetI
import Derived.Test.YtmhiohijpnmcpaaWinNum
import Derived.Test.YtmhiohijpnmcpaaOpenB
namespace Go.Proofs.Ytmhiohijpnmcpaa
open Go.ChangeShapes Go.WideShapes Go.ChangeAt Go.RowKit

set_option maxRecDepth 20000 in
set_option maxHeartbeats 16000000 in
theorem fnWet_walk {v0 : Value} {zs : List Int} (w : World) (h0 : IsBytes w v0 zs) :
    Calls Try.prog 13 #[v0] w fun e w' => e = .returned (.bool true) ∧ Below w.heap.size w w' := by
  obtain ⟨A, c, rfl, hr, hml, hz⟩ := h0
  unfold maxLen at hml
  go_enter Try.func13, Try.ntmps13
  by_cases hlen : zs.length ≤ 1048576
  case neg =>
    go_wp2_with fail
    go_ret
    exact ⟨rfl, Below.refl _ _⟩
  have hB0 : Below w.heap.size w w := Below.refl _ _
  have HC1 := Lib.hid (MakeForecast_any A c zs w hr hlen hz)
  go_wp2_with fail
  refine (HC1.out).mono ?_
  rintro e w1 ⟨m, ps, ss, A1, A2, c1, c2, rfl, hfo, hs1, hs2, hb1, hl1, hl2⟩
  have hB1 := hB0.trans (hb1.mono hB0.size)
  have hz1 := hb1.size
  clear HC1
  have hp2 : ps.length ≤ 1048576 := by omega
  have hq2 : ss.length ≤ 1048576 := by omega
  have hwf : ∀ p ∈ ps, p.wf := fun p hp => by
    have h1 := foreOk_tide hfo
    unfold tideOk at h1
    rw [Bool.and_eq_true] at h1
    have h2 := partOk_true (List.all_eq_true.1 h1.2 p hp)
    have h3 := isPer_true h2.2.1
    unfold Part.wf I64
    omega
  have HFO := Lib.hid hfo
  obtain ⟨wb, hwb⟩ : ∃ wb, wb = w1.alloc (.cells #[.int .i64 m, .slice A1 ps.length c1, .slice A2 ss.length c2] 35) := ⟨_, rfl⟩
  have hbb : Below w1.heap.size w1 wb := by rw [hwb]; exact (Below.refl _ _).alloc (Nat.le_refl _) _
  have hbk : Blk wb w1.heap.size 35 #[.int .i64 m, .slice A1 ps.length c1, .slice A2 ss.length c2] := by rw [hwb]; exact Blk.new _ _ _
  have hBb := hB1.trans (hbb.mono hB1.size)
  have hzb := hbb.size
  have sp_b := hs1.next hbb
  have sq_b := hs2.next hbb
  have HWB := Lib.hid hwb
  clear hwb hs1 hs2 hfo
  have HC2 := Lib.hid (MakeNum_any A c 60 zs wb ((hr.below hBb).more hBb.size) hlen hz (by omega))
  go_wp2_with fail
  rw [← HWB.out]
  refine HC2.out.mono ?_
  rintro e w2 ⟨x, rfl, hx0, hx1, hb2⟩
  have hB2 := hBb.trans (hb2.mono hBb.size)
  have hz2 := hb2.size
  have f_2 := hbk.next hb2
  have p_2 := sp_b.next hb2
  have q_2 := sq_b.next hb2
  clear HC2 hbk sp_b sq_b
  obtain ⟨lev, hlev⟩ : ∃ lev, lev = x % 500 - 100 := ⟨_, rfl⟩
  have hlv1 : -100 ≤ lev ∧ lev ≤ 399 := by omega
  have HLEV := Lib.hid hlev
  clear hlev
  have e500 : IntKind.i64.wrap (x % 500 - 100) = x % 500 - 100 := IntWalk.i64_in _ (by omega)
  have c2_0 := f_2.cell 0
  have c2_1 := f_2.cell 1
  have c2_2 := f_2.cell 2
  have HC3 := Lib.hid (implLowWindows_any m A1 A2 c1 c2 ps ss lev w2 p_2.rd q_2.rd hwf hp2 hq2)
  go_wp2_with fail
  rw [← HLEV.out]
  refine (HC3.out).mono ?_
  rintro e w3 ⟨Al, cl, rfl, hsl, hb3⟩
  have hB3 := hB2.trans (hb3.mono hB2.size)
  have hz3 := hb3.size
  have f_3 := f_2.next hb3
  have p_3 := p_2.next hb3
  have q_3 := q_2.next hb3
  clear HC3
  clear c2_0 c2_1 c2_2 e500
  have c3_0 := f_3.cell 0
  have c3_1 := f_3.cell 1
  have c3_2 := f_3.cell 2
  have HC4 := Lib.hid (implHighWindows_any m A1 A2 c1 c2 ps ss lev w3 p_3.rd q_3.rd hwf hp2 hq2)
  go_wp2_with fail
  refine (HC4.out).mono ?_
  rintro e w4 ⟨Ah, ch, rfl, hsh, hb4⟩
  have hB4 := hB3.trans (hb4.mono hB3.size)
  have hz4 := hb4.size
  have f_4 := f_3.next hb4
  have p_4 := p_3.next hb4
  have q_4 := q_3.next hb4
  have l_4 := hsl.next hb4
  clear HC4
  clear c3_0 c3_1 c3_2
  obtain ⟨lw, hlw⟩ : ∃ lw, lw = wetF false m ps ss lev := ⟨_, rfl⟩
  obtain ⟨hw, hhw⟩ : ∃ hw, hw = wetF true m ps ss lev := ⟨_, rfl⟩
  have HLOK := Lib.hid (show windowsOk lw = true by rw [hlw]; exact wet_ok _ _ _ _ _ HFO.out)
  have HHOK := Lib.hid (show windowsOk hw = true by rw [hhw]; exact wet_ok _ _ _ _ _ HFO.out)
  have HLH := Lib.hid (show ∀ t : Nat, t ≤ 2880 → hasMin lw t = decide (lev ≤ lowV m ps ss t) from fun t ht => by rw [hlw]; exact wet_has false m ps ss lev HFO.out ht)
  have HHH := Lib.hid (show ∀ t : Nat, t ≤ 2880 → hasMin hw t = decide (lev ≤ highV m ps ss t) from fun t ht => by rw [hhw]; exact wet_has true m ps ss lev HFO.out ht)
  have HCNT := Lib.hid (show countV lw ≤ countV hw by rw [hlw, hhw]; exact wet_count m ps ss lev HFO.out)
  have hll : lw.length ≤ 1048576 := by have := wetF_le false m ps ss lev; rw [← hlw] at this; omega
  have hhl : hw.length ≤ 1048576 := by have := wetF_le true m ps ss lev; rw [← hhw] at this; omega
  rw [← hlw] at l_4 ⊢
  rw [← hhw] at hsh ⊢
  clear hlw hhw
  have HC5 := Lib.hid (implWindowsOk_any Al cl lw w4 l_4.rd hll)
  rw [HLOK.out] at HC5
  go_wp2_with fail
  refine (HC5.out).mono ?_
  rintro e w5 ⟨rfl, hb5⟩
  have hB5 := hB4.trans (hb5.mono hB4.size)
  have hz5 := hb5.size
  have f_5 := f_4.next hb5
  have p_5 := p_4.next hb5
  have q_5 := q_4.next hb5
  have l_5 := l_4.next hb5
  have h_5 := hsh.next hb5
  clear HC5
  have HC6 := Lib.hid (implWindowsOk_any Ah ch hw w5 h_5.rd hhl)
  rw [HHOK.out] at HC6
  go_wp2_with fail
  refine (HC6.out).mono ?_
  rintro e w6 ⟨rfl, hb6⟩
  have hB6 := hB5.trans (hb6.mono hB5.size)
  have hz6 := hb6.size
  have f_6 := f_5.next hb6
  have p_6 := p_5.next hb6
  have q_6 := q_5.next hb6
  have l_6 := l_5.next hb6
  have h_6 := h_5.next hb6
  clear HC6
  have HC7 := Lib.hid (implCountMinutes_any Al cl lw w6 l_6.rd hll)
  rw [countF_ok HLOK.out] at HC7
  go_wp2_with fail
  refine (HC7.out).mono ?_
  rintro e w7 ⟨rfl, hb7⟩
  have hB7 := hB6.trans (hb7.mono hB6.size)
  have hz7 := hb7.size
  have f_7 := f_6.next hb7
  have p_7 := p_6.next hb7
  have q_7 := q_6.next hb7
  have l_7 := l_6.next hb7
  have h_7 := h_6.next hb7
  clear HC7
  have HC8 := Lib.hid (implCountMinutes_any Ah ch hw w7 h_7.rd hhl)
  rw [countF_ok HHOK.out] at HC8
  go_wp2_with fail
  refine (HC8.out).mono ?_
  rintro e w8 ⟨rfl, hb8⟩
  have hB8 := hB7.trans (hb8.mono hB7.size)
  have hz8 := hb8.size
  have f_8 := f_7.next hb8
  have p_8 := p_7.next hb8
  have q_8 := q_7.next hb8
  have l_8 := l_7.next hb8
  have h_8 := h_7.next hb8
  clear HC8
  obtain ⟨ca, hca⟩ : ∃ ca, ca = countV lw := ⟨_, rfl⟩
  obtain ⟨cb, hcb⟩ : ∃ cb, cb = countV hw := ⟨_, rfl⟩
  have hcc := HCNT.out
  rw [← hca, ← hcb] at hcc
  rw [← hca, ← hcb]
  clear hca hcb
  have c8_0 := f_8.cell 0
  have c8_1 := f_8.cell 1
  have c8_2 := f_8.cell 2
  have HC9 := Lib.hid (implForecastOk_any m A1 A2 c1 c2 ps ss w8 p_8.rd q_8.rd hwf hp2 hq2)
  rw [HFO.out] at HC9
  go_wp2_with fail
  refine (HC9.out).mono ?_
  rintro e w9 ⟨rfl, hb9⟩
  have hB9 := hB8.trans (hb9.mono hB8.size)
  have hz9 := hb9.size
  have f_9 := f_8.next hb9
  have p_9 := p_8.next hb9
  have q_9 := q_8.next hb9
  have l_9 := l_8.next hb9
  have h_9 := h_8.next hb9
  clear HC9
  clear c8_0 c8_1 c8_2
  have HC10 := Lib.hid (MakeNum_any A c 62 zs w9 ((hr.below hB9).more hB9.size) hlen hz (by omega))
  go_wp2_with fail
  refine (HC10.out).mono ?_
  rintro e w10 ⟨y, rfl, hy0, hy1, hb10⟩
  have hB10 := hB9.trans (hb10.mono hB9.size)
  have hz10 := hb10.size
  have f_10 := f_9.next hb10
  have p_10 := p_9.next hb10
  have q_10 := q_9.next hb10
  have l_10 := l_9.next hb10
  have h_10 := h_9.next hb10
  clear HC10
  obtain ⟨at_, hat⟩ : ∃ at_ : Nat, y % 2600 = (at_ : Int) := ⟨(y % 2600).toNat, by omega⟩
  have hat1 : at_ ≤ 2599 := by omega
  have HAT := Lib.hid hat
  have HF9 := Lib.hid f_10
  have HP9 := Lib.hid p_10
  have HQ9 := Lib.hid q_10
  have HL9 := Lib.hid l_10
  have HH9 := Lib.hid h_10
  have HBN := Lib.hid hB10
  have hzn := hB10.size
  have hbf : w1.heap.size < w10.heap.size := f_10.lt
  clear hat hr
  go_wp2_with fail
  rw [HAT.out]
  go_loopw [8] (fun i wr => ∃ k : Nat, at_ ≤ k ∧ k ≤ at_ + 200 ∧ i = .int .i64 k ∧ Below w10.heap.size w10 wr) (fun i _ => at_ + 200 - (intOf i).toNat)
  case atStart => exact ⟨at_, Nat.le_refl _, by omega, rfl, Below.refl _ _⟩
  case round =>
    obtain ⟨k, hk0, hk1, rfl, hbel⟩ := hrel
    by_cases hlt : k < at_ + 200
    · have hki : (k : Int) < (at_ : Int) + 200 := by omega
      have hk2 : (0 : Int) ≤ (k : Int) := by omega
      have hk3 : (k : Int) ≤ 2880 := by omega
      have hs := hbel.size
      have HIN := Lib.hid (inB_mk (n := (k : Int)) (lo := 0) (hi := 2880) (by omega))
      have HSC := Lib.hid (show surgeC m ps ss k = true by rw [surgeC, HFO.out, HIN.out]; rfl)
      have HL1 := Lib.hid (show lowF m ps ss k = lowV m ps ss k by rw [lowF, if_pos HSC.out])
      have HL2 := Lib.hid (show highF m ps ss k = highV m ps ss k by rw [highF, if_pos HSC.out])
      obtain ⟨lo, hlo⟩ : ∃ lo, lo = lowV m ps ss k := ⟨_, rfl⟩
      obtain ⟨hi, hhi⟩ : ∃ hi, hi = highV m ps ss k := ⟨_, rfl⟩
      have C1 : Hid (∀ W, Below w10.heap.size w10 W → Calls Try.prog 45 #[.slice Al lw.length cl, .int .i64 k] W fun e w' => e = .returned (.bool (decide (lev ≤ lo))) ∧ Below W.heap.size W w') := Lib.hid fun W h => by
        rw [hlo, ← HLH.out k (by omega)]
        exact implHasMinute_any _ _ _ _ _ (HL9.out.next h).rd hll
      have C2 : Hid (∀ W, Below w10.heap.size w10 W → Calls Try.prog 22 #[.agg #[.int .i64 m, .slice A1 ps.length c1, .slice A2 ss.length c2], .int .i64 k] W fun e w' => e = .returned (.int .i64 lo) ∧ Below W.heap.size W w') := Lib.hid fun W h => by
        rw [hlo, ← HL1.out]
        exact implLowAt_any _ _ _ _ _ _ _ _ _ (HP9.out.next h).rd (HQ9.out.next h).rd hwf hp2 hq2
      have C3 : Hid (∀ W, Below w10.heap.size w10 W → Calls Try.prog 45 #[.slice Ah hw.length ch, .int .i64 k] W fun e w' => e = .returned (.bool (decide (lev ≤ hi))) ∧ Below W.heap.size W w') := Lib.hid fun W h => by
        rw [hhi, ← HHH.out k (by omega)]
        exact implHasMinute_any _ _ _ _ _ (HH9.out.next h).rd hhl
      have C4 : Hid (∀ W, Below w10.heap.size w10 W → Calls Try.prog 24 #[.agg #[.int .i64 m, .slice A1 ps.length c1, .slice A2 ss.length c2], .int .i64 k] W fun e w' => e = .returned (.int .i64 hi) ∧ Below W.heap.size W w') := Lib.hid fun W h => by
        rw [hhi, ← HL2.out]
        exact implHighAt_any _ _ _ _ _ _ _ _ _ (HP9.out.next h).rd (HQ9.out.next h).rd hwf hp2 hq2
      have hfr := HF9.out.next hbel
      have c0 := hfr.cell 0
      have c1_ := hfr.cell 1
      have c2_ := hfr.cell 2
      have n0 := HF9.out.cell 0
      have n1 := HF9.out.cell 1
      have n2 := HF9.out.cell 2
      have hbfr := hfr.lt
      have hB0 : Below w10.heap.size w10 wr.drew := hbel.drew
      clear hlo hhi hfr
      go_wp2_with fail
      by_cases t1 : lev ≤ lo
      all_goals by_cases t2 : lev ≤ hi
      all_goals
        first
        | (have d1 := decide_eq_true t1; rw [d1] at C1)
        | (have d1 := decide_eq_false t1; rw [d1] at C1)
        first
        | (have d2 := decide_eq_true t2; rw [d2] at C3)
        | (have d2 := decide_eq_false t2; rw [d2] at C3)
        have hflagA : True := trivial
        go_region_held3 (fun w' => w'.cell? ⟨w1.heap.size, 0, none⟩ = some (.int .i64 m) ∧ w'.cell? ⟨w1.heap.size, 1, none⟩ = some (.slice A1 ps.length c1) ∧ w'.cell? ⟨w1.heap.size, 2, none⟩ = some (.slice A2 ss.length c2)) (go_keep)
          (first
            | (go_at_call 45; clear hflagA; refine (C1.out _ hB0).mono ?_; rintro e y1 ⟨rfl, hy1⟩; have hY1 := hB0.trans (hy1.mono hB0.size); have hcc1 : ∀ b o, b < w10.heap.size → y1.cell? ⟨b, o, none⟩ = w10.cell? ⟨b, o, none⟩ := (bcell hY1).1)
            | (go_at_call 22; refine (C2.out _ hY1).mono ?_; rintro e y2 ⟨rfl, hy2⟩; have hY2 := hY1.trans (hy2.mono hY1.size); have hcc2 : ∀ b o, b < w10.heap.size → y2.cell? ⟨b, o, none⟩ = w10.cell? ⟨b, o, none⟩ := (bcell hY2).1)
            | (go_at_call 45; refine (C3.out _ hY2).mono ?_; rintro e y3 ⟨rfl, hy3⟩; have hY3 := hY2.trans (hy3.mono hY2.size); have hcc3 : ∀ b o, b < w10.heap.size → y3.cell? ⟨b, o, none⟩ = w10.cell? ⟨b, o, none⟩ := (bcell hY3).1)
            | (go_at_call 24; refine (C4.out _ hY3).mono ?_; rintro e y4 ⟨rfl, hy4⟩; have hY4 := hY3.trans (hy4.mono hY3.size); have hcc4 : ∀ b o, b < w10.heap.size → y4.cell? ⟨b, o, none⟩ = w10.cell? ⟨b, o, none⟩ := (bcell hY4).1))
        go_wp2_with fail
        go_roundw
        case rel => exact ⟨k + 1, by omega, by omega, by go_num, hY4⟩
        case measure => simp [intOf]; omega
    · have hki : ¬ (k : Int) < (at_ : Int) + 200 := by omega
      go_wp2_with fail
      go_ret
      exact ⟨rfl, HBN.out.trans (hbel.mono hzn)⟩

set_option maxRecDepth 100000 in
theorem fnWet_lifted (os : Os) (started : os.Started) (H : Type) (enc : TypeId × Value → H) :
    ReturnsInHanded {} Try.checked os 13 .any (Rows.fnWetSpec.pre6 enc Try.prog Try.f13 Rows.fnWetRow.domain false) (Rows.fnWetSpec.post enc Try.prog Try.f13 false true false false) := by
  refine returnsInHanded_of_change (C := Try.checked) own_ started (by kernel_rfl) Try.func13
    (ChangeSpec.witness6 (enc := enc) (C := Try.checked) false ⟨#[], #[.slice none 0 0], []⟩ 8 (by kernel_rfl) (by kernel_rfl) (by kernel_rfl) (by kernel_rfl)) ?_
  intro W base args ds gs before hval0 hW hcnd _
  have hval : ∀ (j : Nat) t v, Try.f13.params[j]? = some t → args[j]? = some v → Value.okWide Try.prog W .any base t v := hval0
  have hW' := hW
  obtain ⟨p, q, hA0, hV, rfl, hfz, hnd⟩ := hW
  have hA : DataW.TrodAll enc Try.prog W 0 (fun _ => true) true Try.f13.params.toList args.toList ds p := hA0
  rw [Try.params13] at hA hval
  obtain ⟨v0, d0, rfl, rfl, h0⟩ := trodAll_one hA
  obtain ⟨rfl, rfl⟩ := trodVars_none hV
  obtain ⟨x0, hx0⟩ := open_Bytes Try.underlying53 Try.underlying5 (by kernel_rfl) (hval 0 53 v0 rfl rfl) h0
  refine (fnWet_walk W hx0).mono fun e W' ⟨he, hb⟩ => ?_
  subst he
  exact ⟨_, rfl, law_post laidOut_ (by kernel_rfl) rfl (by kernel_rfl) Try.underlying4 hW' rfl hb⟩

theorem fnWet_holds : Rows.FnWetSaid :=
  OpenClaim.holds_of_wide 13 Try.f13 rfl rfl rfl rfl rfl rfl rfl ⟨rfl, rfl, rfl, rfl, rfl⟩ rfl rfl rfl rfl rfl (by kernel_rfl) Try.func13 (by kernel_rfl)
    (of_decide_eq_true (by kernel_rfl)) (by unfold Func.isWrapper; rw [if_neg (of_decide_eq_false (by kernel_rfl))]; exact ⟨rfl, rfl⟩)
    (fun os started H enc _ => fnWet_lifted os started H enc)
#print axioms fnWet_holds

end Go.Proofs.Ytmhiohijpnmcpaa
