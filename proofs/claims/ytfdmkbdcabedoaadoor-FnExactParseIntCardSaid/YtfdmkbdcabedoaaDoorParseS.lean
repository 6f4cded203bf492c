/-
  The contract of ParseInt, the reference's.
-/
import Derived.Test.YtfdmkbdcabedoaaDoorModelPI
import Derived.Test.YtfdmkbdcabedoaaDoorFmtN
import Derived.Test.YtfdmkbdcabedoaaDoorText1
namespace Go.Proofs.YtfdmkbdcabedoaaDoor
open Go.RowKit

section
variable {l : List UInt8}
theorem no_digits (h : digits (magOf l) = false) : ∀ k, ¬ ParseTo l k := fun k hk => by
  have := hk.form.2.2.1
  rw [h] at this
  cases this
theorem no_long (h : 19 < (magOf l).length) : ∀ k, ¬ ParseTo l k := fun k hk => by
  have := hk.form.2.2.2.1
  omega
theorem no_over {j : Nat} (h : 9223372036854775808 < decV ((magOf l).take j)) : ∀ k, ¬ ParseTo l k := fun k hk => by
  have h1 := hk.form.2.2.2.2
  have h2 := decV_take (magOf l) j
  have h3 := hk.1
  unfold I64 at h3
  omega
theorem no_min (hn : negOf l = false) (h : decV (magOf l) = 9223372036854775808) : ∀ k, ¬ ParseTo l k := fun k hk => by
  have h1 := hk.form.2.2.2.2
  have h2 := hk.form.2.1
  have h3 := hk.1
  unfold I64 at h3
  rw [hn] at h2
  have := of_decide_eq_false h2.symm
  omega
theorem no_other {n : Int} (hn : negOf l = true → n = -(decV (magOf l) : Int)) (hp : negOf l = false → n = decV (magOf l)) (h : Lib.itoa n ≠ l) : ∀ k, ¬ ParseTo l k := fun k hk => by
  have h1 := hk.form.2.2.2.2
  have h2 := hk.form.2.1
  refine h ?_
  have e : n = k := by
    cases hg : negOf l with
    | true =>
      rw [hg] at h2
      have := of_decide_eq_true h2.symm
      rw [hn hg]
      omega
    | false =>
      rw [hg] at h2
      have := of_decide_eq_false h2.symm
      rw [hp hg]
      omega
  rw [e]
  exact hk.2
theorem digit_at {j : Nat} {c : UInt8} (h : digits l = true) (hc : l[j]? = some c) : 48 ≤ c.toNat ∧ c.toNat ≤ 57 := by
  unfold digits at h
  rw [Bool.and_eq_true] at h
  exact of_decide_eq_true (List.all_eq_true.1 h.1 c (List.mem_of_getElem? hc))
end
theorem tdiv_ten {a q : Int} (h : q = Int.tdiv a 10) (ha : a ≤ 0) : ∃ r, q * 10 + r = a ∧ -9 ≤ r ∧ r ≤ 0 := by
  refine ⟨Int.tmod a 10, ?_⟩
  have h1 := Int.tdiv_mul_add_tmod a 10
  rw [← h] at h1
  have h2 : Int.tmod a 10 = -(((-a) % 10)) := by
    rw [show a = -(-a) by omega, Int.neg_tmod, Int.tmod_eq_emod_of_nonneg (by omega)]
    simp
  have := Int.emod_nonneg (-a) (show (10 : Int) ≠ 0 by decide)
  have := Int.emod_lt_of_pos (-a) (show (0 : Int) < 10 by decide)
  omega

set_option maxRecDepth 20000 in
set_option maxHeartbeats 16000000 in
theorem specParseInt_any (s : ByteArray) (w : World) (hs : s.size ≤ 1048576) :
    Calls Tryd.prog 8 #[.string s] w fun e w' => ∃ n b, e = .returned (.tuple #[.int .i64 n, .bool b]) ∧ ParseRes s.data.toList n b ∧ Below w.heap.size w w' := by
  have HI := Lib.hid (specIsDigits_any)
  by_cases h0 : s.size = 0
  · have hl : s.data.toList = [] := List.eq_nil_of_length_eq_zero (by rw [Array.length_toList]; exact h0)
    have HN := Lib.hid (no_digits (l := s.data.toList) (by rw [hl]; rfl))
    have hd : digits s.data.toList = false := by rw [hl]; rfl
    have HC := Lib.hid (specIsDigits_any s w (by omega))
    rw [hd] at HC
    have h1 : ¬ 0 < s.size := by omega
    clear hl hd HI h0
    go_enter Tryd.func8, Tryd.ntmps8
    go_wp2_with (go_at_call 17; refine HC.out.mono ?_; rintro e w' ⟨rfl, rfl⟩)
    refine bodyPost_ret (v := .tuple #[.int .i64 0, .bool false]) ?_ rfl ?_
    · simp [results, Tryd.results8, go_sem]
    · exact ⟨_, _, rfl, ParseRes.no HN.out, Below.refl _ _⟩
  have h1 : 0 < s.size := by omega
  obtain ⟨l, hl⟩ : ∃ l, l = s.data.toList := ⟨_, rfl⟩
  have hl0 : l[0]? = some s[0] := by rw [hl]; exact byte_at s 0 h1
  by_cases h2 : (s[0].toNat : Int) = 45
  · have h3 : ((s[0].toNat : Int) == 45) = true := by simp [h2]
    have hform : magOf l = l.drop 1 ∧ negOf l = true := by
      match l, hl0 with
      | c :: r, hl0 =>
        simp at hl0
        have hc : c = 45 := by
          apply UInt8.toNat_inj.1
          rw [hl0]
          have : (45 : UInt8).toNat = 45 := rfl
          omega
        exact ⟨by simp [magOf, hc], by simp [negOf, hc]⟩
    obtain ⟨T, hT⟩ : ∃ T, T = s.extract 1 s.size := ⟨_, rfl⟩
    have hTl : T.data.toList = magOf l := by rw [hform.1, hT, hl]; simp; exact List.take_of_length_le (by rw [List.length_tail, Array.length_toList]; exact Nat.le_refl _)
    have hTs : T.size = (magOf l).length := by rw [← hTl, Array.length_toList]; rfl
    have hTz : T.size ≤ 1048576 := by
      rw [hTs, hform.1, List.length_drop, hl, Array.length_toList]
      have : s.data.size ≤ 1048576 := hs
      omega
    have HNEG := Lib.hid hform.2
    have HT := Lib.hid hT
    have HL := Lib.hid hl
    have HTL := Lib.hid hTl
    have HTS := Lib.hid hTs
    have HC := Lib.hid (specIsDigits_any T w (by omega))
    clear hform hl hl0 h2 h0 HI
    cases hd : digits (magOf l)
    · have HN := Lib.hid (no_digits hd)
      rw [HTL.out, hd] at HC
      clear hT hTl hTs hd
      go_enter Tryd.func8, Tryd.ntmps8
      go_wp2_with fail
      rw [← HT.out]
      refine HC.out.mono ?_
      rintro e w' ⟨rfl, rfl⟩
      go_wp2_with fail
      refine bodyPost_ret (v := .tuple #[.int .i64 0, .bool false]) ?_ rfl ?_
      · simp [results, Tryd.results8, go_sem]
      · exact ⟨_, _, rfl, ParseRes.no (by rw [← HL.out]; exact HN.out), Below.refl _ _⟩
    have HD := Lib.hid hd
    rw [HTL.out, hd] at HC
    clear hd
    by_cases h19 : 19 < T.size
    · have HN := Lib.hid (no_long (l := l) (by omega))
      have h19i : (19 : Int) < (T.size : Int) := by omega
      clear hT hTl hTs
      go_enter Tryd.func8, Tryd.ntmps8
      go_wp2_with fail
      rw [← HT.out]
      refine HC.out.mono ?_
      rintro e w' ⟨rfl, rfl⟩
      go_wp2_with fail
      refine bodyPost_ret (v := .tuple #[.int .i64 0, .bool false]) ?_ rfl ?_
      · simp [results, Tryd.results8, go_sem]
      · exact ⟨_, _, rfl, ParseRes.no (by rw [← HL.out]; exact HN.out), Below.refl _ _⟩
    have h19i : ¬ (19 : Int) < (T.size : Int) := by omega
    clear hT hTl hTs h19
    go_enter Tryd.func8, Tryd.ntmps8
    go_wp2_with fail
    rw [← HT.out]
    refine HC.out.mono ?_
    rintro e w' ⟨rfl, rfl⟩
    go_wp2_with fail
    go_loopw [6, 7, 8] (fun q i d wr => ∃ k : Nat, k ≤ T.size ∧ i = .int .i64 k ∧ q = .int .i64 (-(decV ((magOf l).take k) : Int)) ∧ decV ((magOf l).take k) ≤ 9223372036854775808 ∧ wr = w) (fun _ i _ _ => T.size - (intOf i).toNat)
    case atStart => exact ⟨0, Nat.zero_le _, rfl, rfl, by simp [decV], rfl⟩
    case round =>
      obtain ⟨k, hk, rfl, rfl, hv, rfl⟩ := hrel
      by_cases hlt : k < T.size
      · have hc : (magOf l)[k]? = some T[k] := by rw [← HTL.out]; exact byte_at T k hlt
        have hdg := digit_at HD.out hc
        have hnx := decV_next hc
        obtain ⟨p, hp⟩ : ∃ p, p = decV ((magOf l).take k) := ⟨_, rfl⟩
        rw [← hp] at hv hnx ⊢
        obtain ⟨q, hq⟩ : ∃ q, q = Int.tdiv (-9223372036854775808 + ((T[k].toNat : Int) - 48)) 10 := ⟨_, rfl⟩
        obtain ⟨r, hqr, hr1, hr2⟩ := tdiv_ten hq (by omega)
        have e0 : IntKind.i64.wrap (T[k].toNat : Int) = (T[k].toNat : Int) := IntWalk.i64_in _ (by omega)
        have e1 : IntKind.i64.wrap (-9223372036854775808 + ((T[k].toNat : Int) - 48)) = -9223372036854775808 + ((T[k].toNat : Int) - 48) := IntWalk.i64_in _ (by omega)
        have e2 : IntKind.i64.wrap ((T[k].toNat : Int) - 48) = (T[k].toNat : Int) - 48 := IntWalk.i64_in _ (by omega)
        have e3 : IntKind.i64.wrap (Int.tdiv (-9223372036854775808 + ((T[k].toNat : Int) - 48)) 10) = Int.tdiv (-9223372036854775808 + ((T[k].toNat : Int) - 48)) 10 := IntWalk.i64_in _ (by rw [← hq]; omega)
        by_cases hov : -(p : Int) < q
        · have HN := Lib.hid (no_over (l := l) (j := k + 1) (by rw [hnx]; omega))
          have hov2 : -(p : Int) < Int.tdiv (-9223372036854775808 + ((T[k].toNat : Int) - 48)) 10 := by rw [← hq]; exact hov
          clear hq hc hdg hnx hqr hr1 hr2 hov hp
          go_wp2_with fail
          refine bodyPost_ret (v := .tuple #[.int .i64 0, .bool false]) ?_ rfl ?_
          · simp [results, Tryd.results8, go_sem]
          · exact ⟨_, _, rfl, ParseRes.no (by rw [← HL.out]; exact HN.out), Below.refl _ _⟩
        · have hov2 : ¬ -(p : Int) < Int.tdiv (-9223372036854775808 + ((T[k].toNat : Int) - 48)) 10 := by rw [← hq]; exact hov
          have e4 : IntKind.i64.wrap (-(p : Int) * 10) = -(p : Int) * 10 := IntWalk.i64_in _ (by omega)
          have e5 : IntKind.i64.wrap (-(p : Int) * 10 - ((T[k].toNat : Int) - 48)) = -(p : Int) * 10 - ((T[k].toNat : Int) - 48) := IntWalk.i64_in _ (by omega)
          have hle : decV ((magOf l).take (k + 1)) ≤ 9223372036854775808 := by rw [hnx]; omega
          have HLE := Lib.hid hle
          have HEQ := Lib.hid (show -(p : Int) * 10 - ((T[k].toNat : Int) - 48) = -(decV ((magOf l).take (k + 1)) : Int) by rw [hnx]; omega)
          clear hq hc hdg hnx hqr hr1 hr2 hov hle hp
          go_wp2_with fail
          go_roundw
          case rel => exact ⟨k + 1, by omega, by go_num, congrArg (Value.int .i64) HEQ.out, HLE.out, trivial⟩
          case measure => simp [intOf]; omega
      · have hk2 : k = T.size := by omega
        subst hk2
        have hall : (magOf l).take T.size = magOf l := by rw [HTS.out]; exact List.take_length
        rw [hall] at hv ⊢
        obtain ⟨V, hV⟩ : ∃ V, V = decV (magOf l) := ⟨_, rfl⟩
        rw [← hV] at hv ⊢
        obtain ⟨S, hS⟩ : ∃ S : ByteArray, S = ⟨(Lib.itoa (-(V : Int))).toArray⟩ := ⟨_, rfl⟩
        have HF := Lib.hid (specFormatInt_any (-(V : Int)) wr (by unfold I64; omega))
        rw [← hS] at HF
        have hp : (S.toList == s.toList) = true → ParseRes s.data.toList (-(V : Int)) true := fun h => by
          refine ParseRes.yes (by unfold I64; omega) ?_
          have h1 := beq_iff_eq.1 h
          rw [ByteArray.toList_eq, ByteArray.toList_eq, hS] at h1
          simpa using h1
        have hq : (S.toList == s.toList) = false → ParseRes s.data.toList 0 false := fun h => by
          rw [← HL.out]
          refine ParseRes.no (no_other (n := -(V : Int)) (fun _ => by rw [hV]) (fun h => by rw [HNEG.out] at h; cases h) fun e => ?_)
          have h1 : S.toList = s.toList := by rw [ByteArray.toList_eq, ByteArray.toList_eq, hS, e, HL.out]
          rw [h1] at h
          simp at h
        have HP := Lib.hid hp
        have HQ := Lib.hid hq
        clear hp hq hS hV
        cases hc : (S.toList == s.toList)
        all_goals
          go_wp2_with fail
          refine HF.out.mono ?_
          rintro e w1 ⟨rfl, hb1⟩
          go_wp2_with fail
        · refine bodyPost_ret (v := .tuple #[.int .i64 0, .bool false]) ?_ rfl ?_
          · simp [results, Tryd.results8, go_sem]
          · exact ⟨_, _, rfl, HQ.out hc, hb1⟩
        · refine bodyPost_ret (v := .tuple #[.int .i64 (-(V : Int)), .bool true]) ?_ rfl ?_
          · simp [results, Tryd.results8, go_sem]
          · exact ⟨_, _, rfl, HP.out hc, hb1⟩
  · have h3 : ((s[0].toNat : Int) == 45) = false := by simp [h2]
    have hform : magOf l = l ∧ negOf l = false := by
      match l, hl0 with
      | c :: r, hl0 =>
        simp at hl0
        have hc : c ≠ 45 := fun ec => by
          rw [ec] at hl0
          have h4 : (s[0].toNat : Int) = 45 := by rw [← hl0]; rfl
          exact h2 h4
        exact ⟨by simp [magOf, hc], by simp [negOf, hc]⟩
    obtain ⟨T, hT⟩ : ∃ T, T = s := ⟨_, rfl⟩
    have hTl : T.data.toList = magOf l := by rw [hform.1, hT, hl]
    have hTs : T.size = (magOf l).length := by rw [← hTl, Array.length_toList]; rfl
    have hTz : T.size ≤ 1048576 := by
      rw [hT]
      exact hs
    have HNEG := Lib.hid hform.2
    have HT := Lib.hid hT
    have HL := Lib.hid hl
    have HTL := Lib.hid hTl
    have HTS := Lib.hid hTs
    have HC := Lib.hid (specIsDigits_any T w (by omega))
    clear hform hl hl0 h2 h0 HI
    cases hd : digits (magOf l)
    · have HN := Lib.hid (no_digits hd)
      rw [HTL.out, hd] at HC
      clear hT hTl hTs hd
      go_enter Tryd.func8, Tryd.ntmps8
      go_wp2_with fail
      skip
      refine (HT.out ▸ HC.out).mono ?_
      rintro e w' ⟨rfl, rfl⟩
      go_wp2_with fail
      refine bodyPost_ret (v := .tuple #[.int .i64 0, .bool false]) ?_ rfl ?_
      · simp [results, Tryd.results8, go_sem]
      · exact ⟨_, _, rfl, ParseRes.no (by rw [← HL.out]; exact HN.out), Below.refl _ _⟩
    have HD := Lib.hid hd
    rw [HTL.out, hd] at HC
    clear hd
    by_cases h19 : 19 < T.size
    · have HN := Lib.hid (no_long (l := l) (by omega))
      have h19i : (19 : Int) < (s.size : Int) := by rw [← hT]; omega
      clear hT hTl hTs
      go_enter Tryd.func8, Tryd.ntmps8
      go_wp2_with fail
      skip
      refine (HT.out ▸ HC.out).mono ?_
      rintro e w' ⟨rfl, rfl⟩
      go_wp2_with fail
      refine bodyPost_ret (v := .tuple #[.int .i64 0, .bool false]) ?_ rfl ?_
      · simp [results, Tryd.results8, go_sem]
      · exact ⟨_, _, rfl, ParseRes.no (by rw [← HL.out]; exact HN.out), Below.refl _ _⟩
    subst hT
    have h19i : ¬ (19 : Int) < (T.size : Int) := by omega
    clear hTl hTs h19
    go_enter Tryd.func8, Tryd.ntmps8
    go_wp2_with fail
    skip
    refine HC.out.mono ?_
    rintro e w' ⟨rfl, rfl⟩
    go_wp2_with fail
    go_loopw [6, 7, 8] (fun q i d wr => ∃ k : Nat, k ≤ T.size ∧ i = .int .i64 k ∧ q = .int .i64 (-(decV ((magOf l).take k) : Int)) ∧ decV ((magOf l).take k) ≤ 9223372036854775808 ∧ wr = w) (fun _ i _ _ => T.size - (intOf i).toNat)
    case atStart => exact ⟨0, Nat.zero_le _, rfl, rfl, by simp [decV], rfl⟩
    case round =>
      obtain ⟨k, hk, rfl, rfl, hv, rfl⟩ := hrel
      by_cases hlt : k < T.size
      · have hc : (magOf l)[k]? = some T[k] := by rw [← HTL.out]; exact byte_at T k hlt
        have hdg := digit_at HD.out hc
        have hnx := decV_next hc
        obtain ⟨p, hp⟩ : ∃ p, p = decV ((magOf l).take k) := ⟨_, rfl⟩
        rw [← hp] at hv hnx ⊢
        obtain ⟨q, hq⟩ : ∃ q, q = Int.tdiv (-9223372036854775808 + ((T[k].toNat : Int) - 48)) 10 := ⟨_, rfl⟩
        obtain ⟨r, hqr, hr1, hr2⟩ := tdiv_ten hq (by omega)
        have e0 : IntKind.i64.wrap (T[k].toNat : Int) = (T[k].toNat : Int) := IntWalk.i64_in _ (by omega)
        have e1 : IntKind.i64.wrap (-9223372036854775808 + ((T[k].toNat : Int) - 48)) = -9223372036854775808 + ((T[k].toNat : Int) - 48) := IntWalk.i64_in _ (by omega)
        have e2 : IntKind.i64.wrap ((T[k].toNat : Int) - 48) = (T[k].toNat : Int) - 48 := IntWalk.i64_in _ (by omega)
        have e3 : IntKind.i64.wrap (Int.tdiv (-9223372036854775808 + ((T[k].toNat : Int) - 48)) 10) = Int.tdiv (-9223372036854775808 + ((T[k].toNat : Int) - 48)) 10 := IntWalk.i64_in _ (by rw [← hq]; omega)
        by_cases hov : -(p : Int) < q
        · have HN := Lib.hid (no_over (l := l) (j := k + 1) (by rw [hnx]; omega))
          have hov2 : -(p : Int) < Int.tdiv (-9223372036854775808 + ((T[k].toNat : Int) - 48)) 10 := by rw [← hq]; exact hov
          clear hq hc hdg hnx hqr hr1 hr2 hov hp
          go_wp2_with fail
          refine bodyPost_ret (v := .tuple #[.int .i64 0, .bool false]) ?_ rfl ?_
          · simp [results, Tryd.results8, go_sem]
          · exact ⟨_, _, rfl, ParseRes.no (by rw [← HL.out]; exact HN.out), Below.refl _ _⟩
        · have hov2 : ¬ -(p : Int) < Int.tdiv (-9223372036854775808 + ((T[k].toNat : Int) - 48)) 10 := by rw [← hq]; exact hov
          have e4 : IntKind.i64.wrap (-(p : Int) * 10) = -(p : Int) * 10 := IntWalk.i64_in _ (by omega)
          have e5 : IntKind.i64.wrap (-(p : Int) * 10 - ((T[k].toNat : Int) - 48)) = -(p : Int) * 10 - ((T[k].toNat : Int) - 48) := IntWalk.i64_in _ (by omega)
          have hle : decV ((magOf l).take (k + 1)) ≤ 9223372036854775808 := by rw [hnx]; omega
          have HLE := Lib.hid hle
          have HEQ := Lib.hid (show -(p : Int) * 10 - ((T[k].toNat : Int) - 48) = -(decV ((magOf l).take (k + 1)) : Int) by rw [hnx]; omega)
          clear hq hc hdg hnx hqr hr1 hr2 hov hle hp
          go_wp2_with fail
          go_roundw
          case rel => exact ⟨k + 1, by omega, by go_num, congrArg (Value.int .i64) HEQ.out, HLE.out, trivial⟩
          case measure => simp [intOf]; omega
      · have hk2 : k = T.size := by omega
        subst hk2
        have hall : (magOf l).take T.size = magOf l := by rw [HTS.out]; exact List.take_length
        rw [hall] at hv ⊢
        obtain ⟨V, hV⟩ : ∃ V, V = decV (magOf l) := ⟨_, rfl⟩
        rw [← hV] at hv ⊢
        by_cases hmn : V = 9223372036854775808
        · have HN := Lib.hid (no_min (l := l) HNEG.out (by rw [← hV]; exact hmn))
          have e6 : (-(V : Int) == -9223372036854775808) = true := by simp; omega
          clear hV hmn
          go_wp2_with fail
          refine bodyPost_ret (v := .tuple #[.int .i64 0, .bool false]) ?_ rfl ?_
          · simp [results, Tryd.results8, go_sem]
          · exact ⟨_, _, rfl, ParseRes.no (by rw [← HL.out]; exact HN.out), Below.refl _ _⟩
        · have e6 : (-(V : Int) == -9223372036854775808) = false := by simp; omega
          have e7 : IntKind.i64.wrap (V : Int) = (V : Int) := IntWalk.i64_in _ (by omega)
          have e8 : IntKind.i64.wrap (-(-(V : Int))) = (V : Int) := by rw [Int.neg_neg]; exact e7
          obtain ⟨S, hS⟩ : ∃ S : ByteArray, S = ⟨(Lib.itoa ((V : Int))).toArray⟩ := ⟨_, rfl⟩
          have HF := Lib.hid (specFormatInt_any ((V : Int)) wr (by unfold I64; omega))
          rw [← hS] at HF
          have hp : (S.toList == T.toList) = true → ParseRes T.data.toList ((V : Int)) true := fun h => by
            refine ParseRes.yes (by unfold I64; omega) ?_
            have h1 := beq_iff_eq.1 h
            rw [ByteArray.toList_eq, ByteArray.toList_eq, hS] at h1
            simpa using h1
          have hq : (S.toList == T.toList) = false → ParseRes T.data.toList 0 false := fun h => by
            rw [← HL.out]
            refine ParseRes.no (no_other (n := (V : Int)) (fun h => by rw [HNEG.out] at h; cases h) (fun _ => by rw [hV]) fun e => ?_)
            have h1 : S.toList = T.toList := by rw [ByteArray.toList_eq, ByteArray.toList_eq, hS, e, HL.out]
            rw [h1] at h
            simp at h
          have HP := Lib.hid hp
          have HQ := Lib.hid hq
          clear hp hq hS hV
          cases hc : (S.toList == T.toList)
          all_goals
            go_wp2_with fail
            refine HF.out.mono ?_
            rintro e w1 ⟨rfl, hb1⟩
            go_wp2_with fail
          · refine bodyPost_ret (v := .tuple #[.int .i64 0, .bool false]) ?_ rfl ?_
            · simp [results, Tryd.results8, go_sem]
            · exact ⟨_, _, rfl, HQ.out hc, hb1⟩
          · refine bodyPost_ret (v := .tuple #[.int .i64 ((V : Int)), .bool true]) ?_ rfl ?_
            · simp [results, Tryd.results8, go_sem]
            · exact ⟨_, _, rfl, HP.out hc, hb1⟩

end Go.Proofs.YtfdmkbdcabedoaaDoor
