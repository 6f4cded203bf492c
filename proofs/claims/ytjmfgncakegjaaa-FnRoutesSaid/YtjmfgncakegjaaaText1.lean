/-
  The contracts of IsDigits and IsName, the program's and the reference's.
-/
import Derived.Test.YtjmfgncakegjaaaScal
import Derived.Test.YtjmfgncakegjaaaModelT
namespace Go.Proofs.Ytjmfgncakegjaaa
open Go.RowKit

set_option maxHeartbeats 2000000 in
theorem implIsName_any (s : ByteArray) (w : World) (hs : s.size ≤ 9223372036854775807) :
    Calls Try.prog 53 #[.string s] w fun e w' => e = .returned (.bool (nameOk s.data.toList)) ∧ w = w' := by
  cases h0 : inB (s.size : Int) 1 8
  · go_enter Try.func53, Try.ntmps53
    go_wp2_with (go_at_call 55; refine (within_any _ _ _ _).mono ?_; rintro e w' ⟨rfl, rfl⟩)
    go_ret
    exact ⟨ret_bool (by simp [nameOk, h0]), rfl⟩
  have h1 := inB_true h0
  have h2 := h1.1
  have h3 := h1.2
  clear h1
  go_enter Try.func53, Try.ntmps53
  go_wp2_with (go_at_call 55; refine (within_any _ _ _ _).mono ?_; rintro e w' ⟨rfl, rfl⟩)
  go_loop [3, 4] (fun i _ => ∃ k : Nat, k ≤ s.size ∧ i = .int .i64 k ∧ nameL 0 s.data.toList = nameL k (s.data.toList.drop k)) (fun i _ => s.size - (intOf i).toNat)
  case atStart => exact ⟨0, Nat.zero_le _, rfl, rfl⟩
  case round =>
    obtain ⟨k, hk, rfl, hall⟩ := hrel
    have HA := Lib.hid hall
    clear hall
    by_cases hlt : k < s.size
    · by_cases t1 : (97 : Int) ≤ (s[k].toNat : Int) ∧ (s[k].toNat : Int) ≤ 122
      · have t2 := t1.1
        have t3 := t1.2
        have HX := Lib.hid (nameL_low hlt HA.out t2 t3)
        clear t1
        go_wp2_with fail
        go_round
        case rel => exact ⟨k + 1, by omega, by go_num, HX.out⟩
        case measure => simp [intOf]; omega
      have t2 : (s[k].toNat : Int) < 97 ∨ (122 : Int) < (s[k].toNat : Int) := by omega
      clear t1
      by_cases t4 : k = 0
      · have HF := Lib.hid (nameL_bad hlt HA.out t2 (.inl t4))
        have t5 : ((k : Int) == 0) = true := by simp [t4]
        clear t4
        rcases t2 with t2 | t2
        · go_wp2_with fail
          go_ret
          exact ⟨ret_bool (by simp [nameOk, HF.out]), rfl⟩
        · have d2 : decide ((s[k].toNat : Int) ≤ 122) = false := by simp; omega
          go_wp2_with fail
          go_ret
          exact ⟨ret_bool (by simp [nameOk, HF.out]), rfl⟩
      have t5 : ((k : Int) == 0) = false := by simp [t4]
      by_cases t6 : (48 : Int) ≤ (s[k].toNat : Int) ∧ (s[k].toNat : Int) ≤ 57
      · have t7 := t6.1
        have t8 := t6.2
        have HX := Lib.hid (nameL_dig hlt HA.out t4 t7 t8)
        clear t2 t6 t4
        go_wp2_with fail
        go_round
        case rel => exact ⟨k + 1, by omega, by go_num, HX.out⟩
        case measure => simp [intOf]; omega
      have HF := Lib.hid (nameL_bad hlt HA.out t2 (.inr (by omega)))
      have t7 : (s[k].toNat : Int) < 48 ∨ (57 : Int) < (s[k].toNat : Int) := by omega
      clear t6 t4
      rcases t7 with t7 | t7
      · have t9 : (s[k].toNat : Int) < 97 := by omega
        clear t2
        go_wp2_with fail
        go_ret
        exact ⟨ret_bool (by simp [nameOk, HF.out]), rfl⟩
      · rcases t2 with t2 | t2
        · go_wp2_with fail
          go_ret
          exact ⟨ret_bool (by simp [nameOk, HF.out]), rfl⟩
        · have d2 : decide ((s[k].toNat : Int) ≤ 122) = false := by simp; omega
          go_wp2_with fail
          go_ret
          exact ⟨ret_bool (by simp [nameOk, HF.out]), rfl⟩
    · have hk' : k = s.size := by omega
      subst hk'
      have HF := Lib.hid (nameL_done HA.out)
      go_wp2_with fail
      go_ret
      exact ⟨ret_bool (by simp [nameOk, h0, HF.out]), rfl⟩

set_option maxHeartbeats 2000000 in
theorem specIsName_any (s : ByteArray) (w : World) (hs : s.size ≤ 9223372036854775807) :
    Calls Try.prog 50 #[.string s] w fun e w' => e = .returned (.bool (nameOk s.data.toList)) ∧ w = w' := by
  go_enter Try.func50, Try.ntmps50
  go_wp2_with fail
  go_loop [3, 4] (fun i _ => ∃ k : Nat, k ≤ s.size ∧ i = .int .i64 k ∧ nameL 0 s.data.toList = nameL k (s.data.toList.drop k)) (fun i _ => s.size - (intOf i).toNat)
  case atStart => exact ⟨0, Nat.zero_le _, rfl, rfl⟩
  case round =>
    obtain ⟨k, hk, rfl, hall⟩ := hrel
    have HA := Lib.hid hall
    clear hall
    by_cases hlt : k < s.size
    · by_cases t1 : (97 : Int) ≤ (s[k].toNat : Int) ∧ (s[k].toNat : Int) ≤ 122
      · have t2 := t1.1
        have t3 := t1.2
        have HX := Lib.hid (nameL_low hlt HA.out t2 t3)
        clear t1
        go_wp2_with fail
        go_round
        case rel => exact ⟨k + 1, by omega, by go_num, HX.out⟩
        case measure => simp [intOf]; omega
      have t2 : (s[k].toNat : Int) < 97 ∨ (122 : Int) < (s[k].toNat : Int) := by omega
      clear t1
      by_cases t4 : k = 0
      · have HF := Lib.hid (nameL_bad hlt HA.out t2 (.inl t4))
        have t5 : ((k : Int) == 0) = true := by simp [t4]
        clear t4
        rcases t2 with t2 | t2
        · go_wp2_with fail
          go_ret
          exact ⟨ret_bool (by simp [nameOk, HF.out]), rfl⟩
        · have d2 : decide ((s[k].toNat : Int) ≤ 122) = false := by simp; omega
          go_wp2_with fail
          go_ret
          exact ⟨ret_bool (by simp [nameOk, HF.out]), rfl⟩
      have t5 : ((k : Int) == 0) = false := by simp [t4]
      by_cases t6 : (48 : Int) ≤ (s[k].toNat : Int) ∧ (s[k].toNat : Int) ≤ 57
      · have t7 := t6.1
        have t8 := t6.2
        have HX := Lib.hid (nameL_dig hlt HA.out t4 t7 t8)
        clear t2 t6 t4
        go_wp2_with fail
        go_round
        case rel => exact ⟨k + 1, by omega, by go_num, HX.out⟩
        case measure => simp [intOf]; omega
      have HF := Lib.hid (nameL_bad hlt HA.out t2 (.inr (by omega)))
      have t7 : (s[k].toNat : Int) < 48 ∨ (57 : Int) < (s[k].toNat : Int) := by omega
      clear t6 t4
      rcases t7 with t7 | t7
      · have t9 : (s[k].toNat : Int) < 97 := by omega
        clear t2
        go_wp2_with fail
        go_ret
        exact ⟨ret_bool (by simp [nameOk, HF.out]), rfl⟩
      · rcases t2 with t2 | t2
        · go_wp2_with fail
          go_ret
          exact ⟨ret_bool (by simp [nameOk, HF.out]), rfl⟩
        · have d2 : decide ((s[k].toNat : Int) ≤ 122) = false := by simp; omega
          go_wp2_with fail
          go_ret
          exact ⟨ret_bool (by simp [nameOk, HF.out]), rfl⟩
    · have hk' : k = s.size := by omega
      subst hk'
      have HF := Lib.hid (nameL_done HA.out)
      go_wp2_with (go_at_call 51; refine (l01In_any _ _ _ _).mono ?_; rintro e w' ⟨rfl, rfl⟩)
      go_ret
      exact ⟨ret_bool (by simp [nameOk, HF.out]), rfl⟩

end Go.Proofs.Ytjmfgncakegjaaa
