/-
  The contract of l05Has: does a number stand in a list.
-/
import Derived.Test.YtjmfgncakegjaaaChartG
import Derived.Test.YtjmfgncakegjaaaTInt
import Derived.Test.YtjmfgncakegjaaaModelP
namespace Go.Proofs.Ytjmfgncakegjaaa
open Go.RowKit

set_option maxHeartbeats 2000000 in
theorem l05Has_any (A : Option Addr) (c : Nat) (ps : List Int) (n : Int) (w : World) (hr : Rd w w.heap.size intAt 1 A ps) (hlen : ps.length ≤ 1048577) :
    Calls Try.prog 73 #[.slice A ps.length c, .int .i64 n] w fun e w' => e = .returned (.bool (decide (n ∈ ps))) ∧ w = w' := by
  go_enter Try.func73, Try.ntmps73
  go_wp2_with fail
  go_loop [9] (fun i => ∃ k : Nat, k ≤ ps.length ∧ i = .int .i64 k ∧ n ∉ ps.take k) (fun i => ps.length - (intOf i).toNat)
  case atStart => exact ⟨0, Nat.zero_le _, rfl, by simp⟩
  case round =>
    obtain ⟨k, hk, rfl, hno⟩ := hrel
    have HN := Lib.hid hno
    clear hno
    by_cases hlt : k < ps.length
    · obtain ⟨g, off, rfl, hg, hc⟩ := hr (by omega)
      obtain ⟨p, hp⟩ : ∃ p, ps[k]? = some p := ⟨_, List.getElem?_eq_getElem hlt⟩
      have c0 := hc k p hp 0 (by omega)
      simp only [intAt, Nat.add_zero, Nat.mul_one] at c0
      have HC := Lib.hid hc
      have HR := Lib.hid hr
      have HP := Lib.hid hp
      clear hc hr hp
      cases t : (p == n)
      · have HX : Hid (n ∉ ps.take (k + 1)) := Lib.hid (by
          have hv : ps[k] = p := (List.getElem?_eq_some_iff.1 HP.out).2
          rw [List.take_succ_eq_append_getElem hlt, hv]
          have hne : ¬ n = p := fun e => by simp [e] at t
          simp [HN.out, hne])
        go_wp2_with fail
        go_round
        case rel => exact ⟨k + 1, by omega, by go_num, HX.out⟩
        case measure => simp [intOf]; omega
      · have HX : Hid (decide (n ∈ ps) = true) := Lib.hid (by
          have e : p = n := by simpa using t
          rw [← e]
          exact decide_eq_true (List.mem_of_getElem? HP.out))
        go_wp2_with fail
        go_ret
        exact ⟨ret_bool HX.out.symm, rfl⟩
    · have hk' : k = ps.length := by omega
      subst hk'
      have HX : Hid (decide (n ∈ ps) = false) := Lib.hid (by
        have := HN.out
        rw [List.take_length] at this
        simp [this])
      go_wp2_with fail
      go_ret
      exact ⟨ret_bool HX.out.symm, rfl⟩

end Go.Proofs.Ytjmfgncakegjaaa
