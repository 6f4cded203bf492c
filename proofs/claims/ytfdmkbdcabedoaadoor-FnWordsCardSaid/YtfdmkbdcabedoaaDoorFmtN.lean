/-
  The contract of the reference's FormatInt below 0: it calls itself.
-/
import Derived.Test.YtfdmkbdcabedoaaDoorFmt
import Derived.Lib.AppendIntMem
namespace Go.Proofs.YtfdmkbdcabedoaaDoor
open Go.RowKit

set_option maxHeartbeats 4000000 in
theorem specFormatInt_neg : ∀ (u : Nat) (n : Int), n.natAbs = u → ∀ w : World, n < 0 → -9223372036854775808 ≤ n →
    Calls Tryd.prog 6 #[.int .i64 n] w fun e w' => e = .returned (.string ⟨(45 :: Lib.decDigits n.natAbs).toArray⟩) ∧ Below w.heap.size w w' := by
  intro u
  induction u using Nat.strongRecOn with
  | _ u ih =>
    intro n hu w hn hmin
    obtain ⟨q, hq⟩ : ∃ q, q = Int.tdiv n 10 := ⟨_, rfl⟩
    obtain ⟨r, hr⟩ : ∃ r, r = Int.tmod n 10 := ⟨_, rfl⟩
    have hqr : q * 10 + r = n ∧ -9 ≤ r ∧ r ≤ 0 := by
      have h1 := Int.tdiv_mul_add_tmod n 10
      rw [← hq, ← hr] at h1
      have h2 : r = -(((-n) % 10)) := by
        rw [hr, show n = -(-n) by omega, Int.neg_tmod, Int.tmod_eq_emod_of_nonneg (by omega)]
        simp
      have := Int.emod_nonneg (-n) (show (10 : Int) ≠ 0 by decide)
      have := Int.emod_lt_of_pos (-n) (show (0 : Int) < 10 by decide)
      omega
    have e1 : IntKind.i64.wrap (n.tdiv 10) = n.tdiv 10 := IntWalk.i64_in _ (by rw [← hq]; omega)
    have HQ := Lib.hid hq
    have HR := Lib.hid hr
    have HIH : Hid (q ≠ 0 → ∀ W, Calls Tryd.prog 6 #[.int .i64 (n.tdiv 10)] W fun e w' => e = .returned (.string ⟨(45 :: Lib.decDigits q.natAbs).toArray⟩) ∧ Below W.heap.size W w') := Lib.hid fun h W => by
      rw [← hq]
      exact ih q.natAbs (by omega) q rfl W (by omega) (by omega)
    clear hq hr hu ih
    have hsz : (Lib.decDigits q.natAbs).length ≤ 20 := dec_len (by omega)
    go_enter Tryd.func6, Tryd.ntmps6
    by_cases hq0 : q = 0
    · have e2 : n.tdiv 10 = 0 := by rw [← HQ.out]; exact hq0
      obtain ⟨d, hd⟩ : ∃ d : UInt8, d = UInt8.ofNat (48 + n.natAbs) := ⟨_, rfl⟩
      have hcv := byte_text (w.alloc (.cells #[.int .u8 (48 - n)] 5)) w.heap.size (48 - n) (Blk.new _ _ _)
      rw [show (48 - n).toNat = 48 + n.natAbs by omega, ← hd] at hcv
      have HRES := Lib.hid (show Lib.decDigits n.natAbs = [d] by rw [Lib.decDigits_one (by omega), hd])
      have HB := Lib.hid (show Below w.heap.size w (w.alloc (.cells #[.int .u8 (48 - n)] 5)) from (Below.refl _ _).alloc (Nat.le_refl _) _)
      have HAP := Lib.hid (ba_app [45] [d])
      clear hd
      go_wp2_with fail
      go_ret
      exact ⟨by rw [HRES.out]; exact congrArg (fun x => Ending.returned (.string x)) HAP.out, HB.out⟩
    · have e2 : ¬ n.tdiv 10 = 0 := by rw [← HQ.out]; exact hq0
      have HIQ := Lib.hid (HIH.out hq0)
      have e3 : IntKind.i64.wrap (48 - n.tmod 10) = 48 - n.tmod 10 := IntWalk.i64_in _ (by rw [← HR.out]; omega)
      have e4 : IntKind.u8.wrap (48 - n.tmod 10) = 48 - n.tmod 10 := by
        rw [← HR.out]
        have h1 : 0 ≤ 48 - r ∧ 48 - r < 256 := by omega
        simp [IntKind.wrap, IntKind.signed, IntKind.bits]
        omega
      obtain ⟨d, hd⟩ : ∃ d : UInt8, d = UInt8.ofNat (48 + n.natAbs % 10) := ⟨_, rfl⟩
      have hdd : UInt8.ofNat (48 - n.tmod 10).toNat = d := by
        rw [hd, ← HR.out]
        congr 1
        omega
      have HCV : Hid (∀ W b, Blk W b 5 #[.int .u8 (48 - n.tmod 10)] → Sem.run Tryd.prog (convert 27 9 (.slice (some ⟨b, 0, none⟩) 1 1)) W = .ok (.string ⟨#[d]⟩) W) := Lib.hid fun W b h => by
        rw [byte_text W b _ h, hdd]
      have hcv1 := HCV.out (w.drew.alloc (.cells #[.int .u8 (48 - n.tmod 10)] 5)) w.heap.size (Blk.new w.drew _ _)
      have hcv2 := HCV.out (w.alloc (.cells #[.int .u8 (48 - n.tmod 10)] 5)).drew w.heap.size (Blk.new w _ _)
      have HRES := Lib.hid (show 45 :: Lib.decDigits n.natAbs = (45 :: Lib.decDigits q.natAbs) ++ [d] by
        rw [dec_step (u := n.natAbs) (by omega), show n.natAbs / 10 = q.natAbs by omega, ← hd]
        rfl)
      have HB1 := Lib.hid (show Below w.heap.size w w.drew from (Below.refl _ _).drew)
      have h1s : ∀ x : UInt8, ({ data := #[x] } : ByteArray).size = 1 := fun _ => rfl
      obtain ⟨S, hS⟩ : ∃ S : ByteArray, S = ⟨(45 :: Lib.decDigits q.natAbs).toArray⟩ := ⟨_, rfl⟩
      have hSs : S.size ≤ 21 := by
        rw [hS]
        show (45 :: Lib.decDigits q.natAbs).toArray.size ≤ 21
        simp
        omega
      rw [← hS] at HIQ
      have h1d : ({ data := #[d] } : ByteArray).size = 1 := rfl
      have hsum3 : ¬ 9223372036854775807 < S.size + 1 := by omega
      have HAP := Lib.hid (show S ++ ⟨#[d]⟩ = ⟨((45 :: Lib.decDigits q.natAbs) ++ [d]).toArray⟩ by rw [hS]; exact ba_app _ [d])
      clear hd hdd hS hsz
      go_wp2_with fail
      go_region_law (first
        | (go_simp; go_at_call 6; refine (HIQ.out _).mono ?_; rintro e w1 ⟨rfl, hb1⟩; have hcv3 := HCV.out (w1.alloc (.cells #[.int .u8 (48 - n.tmod 10)] 5)) w1.heap.size (Blk.new w1 _ _); (try have hcv4 := HCV.out w1 w.heap.size ((Blk.new w.drew _ _).next hb1))))
      all_goals
        go_wp2_with fail
        go_ret
        refine ⟨by rw [HRES.out]; exact congrArg (fun x => Ending.returned (.string x)) HAP.out, ?_⟩
        first
        | exact (HB1.out.trans hb1).alloc (HB1.out.trans hb1).size _
        | exact (HB1.out.alloc (Nat.le_refl _) _).trans (hb1.mono (by simp))
        | exact (((Below.refl _ w).alloc (Nat.le_refl _) _).drew).trans (hb1.mono (by simp))

/-- The reference's FormatInt. -/
theorem specFormatInt_any (n : Int) (w : World) (h : I64 n) :
    Calls Tryd.prog 6 #[.int .i64 n] w fun e w' => e = .returned (.string ⟨(Lib.itoa n).toArray⟩) ∧ Below w.heap.size w w' := by
  unfold I64 at h
  by_cases hn : n < 0
  · have h1 := specFormatInt_neg n.natAbs n rfl w hn h.1
    rw [show Lib.itoa n = 45 :: Lib.decDigits n.natAbs by unfold Lib.itoa; rw [if_pos hn]]
    exact h1
  · have h1 := specFormatInt_pos n.toNat w (by omega)
    rwa [show ((n.toNat : Nat) : Int) = n by omega] at h1

/-- The program's FormatInt: strconv.Itoa, which reads a table. -/
theorem implFormatInt_any (n : Int) (w : World) (h : I64 n) (htab : Lib.TabIs Tryd.prog w "internal/strconv.uint64pow10" .u64 Lib.pow10Tab) :
    Calls Tryd.prog 7 #[.int .i64 n] w fun e w' => e = .returned (.string ⟨(Lib.itoa n).toArray⟩) ∧ Below w.heap.size w w' := by
  unfold I64 at h
  have HT := Lib.hid htab
  clear htab
  go_enter Tryd.func7, Tryd.ntmps7
  go_wp2_with fail
  refine (Tryd.strconv_Itoa n h.1 h.2 w HT.out).mono ?_
  rintro e w1 ⟨rfl, k, os, hw⟩
  have hb : Below w.heap.size w w1 := by
    rw [hw]
    exact Lib.below_grow _ _ (Nat.le_refl _) _ _
  clear hw
  go_wp2_with fail
  go_ret
  exact ⟨rfl, hb⟩

end Go.Proofs.YtfdmkbdcabedoaaDoor
