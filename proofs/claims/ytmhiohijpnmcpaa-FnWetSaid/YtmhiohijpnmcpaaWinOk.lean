/-
  The contracts of WindowsOk, the program's and the reference's.
-/
import Derived.Test.YtmhiohijpnmcpaaScal
import Derived.Test.YtmhiohijpnmcpaaModelW
namespace Go.Proofs.Ytmhiohijpnmcpaa
open Go.RowKit

set_option maxHeartbeats 1000000 in
theorem implWindowsOk_any (A : Option Addr) (c : Nat) (ps : List Window) (w : World) (hr : Rd w w.heap.size Window.at_ 2 A ps) (hlen : ps.length ≤ 1048576) :
    Calls Try.prog 43 #[.slice A ps.length c] w fun e w' => e = .returned (.bool (windowsOk ps)) ∧ Below w.heap.size w w' := by
  go_enter Try.func43, Try.ntmps43
  go_wp2_with fail
  go_loopw [7] (fun i wr => ∃ k : Nat, k ≤ ps.length ∧ i = .int .i64 k ∧ (∃ lo, WokRel ps k lo) ∧ Below w.heap.size w wr) (fun i _ => ps.length - (intOf i).toNat)
  case atStart => exact ⟨0, Nat.zero_le _, rfl, ⟨0, WokRel.start ps⟩, Below.refl _ _⟩
  case round =>
    obtain ⟨k, hk, rfl, ⟨lo, hrl⟩, hbel⟩ := hrel
    have hs := hbel.size
    have HW := Lib.hid hrl
    by_cases hlt : k < ps.length
    · obtain ⟨g, off, rfl, hg, hc⟩ := hr (by omega)
      obtain ⟨p, hp⟩ : ∃ p, ps[k]? = some p := ⟨_, List.getElem?_eq_getElem hlt⟩
      have c0 := (hbel.cell (p := ⟨g, off + k * 2 + 0, none⟩) hg).trans (hc k p hp 0 (by omega))
      have c1 := (hbel.cell (p := ⟨g, off + k * 2 + 1, none⟩) hg).trans (hc k p hp 1 (by omega))
      simp only [Window.at_, Nat.add_zero] at c0 c1
      have hk0 : (0 : Int) ≤ (k : Int) := Int.natCast_nonneg _
      have hk1 : (k : Int) < (ps.length : Int) := by omega
      have HC := Lib.hid hc
      have HR := Lib.hid hr
      have HP := Lib.hid hp
      obtain ⟨a, b⟩ := p
      dsimp only at c0 c1
      clear hc hr hp hrl
      by_cases t1 : a < 0
      · have HF := Lib.hid (HW.out.bad HP.out (.inl (by have := HW.out.lo0; dsimp only; omega)))
        go_wp2_with fail
        go_quiet (fail)
        go_wp2
        go_ret
        exact ⟨ret_bool HF.out.symm, (hbel.alloc hs _).drewN _⟩
      have d1 : decide (a < 0) = false := by simp; omega
      by_cases t2 : b < a
      · have HF := Lib.hid (HW.out.bad HP.out (.inr (.inl t2)))
        go_wp2_with fail
        go_quiet (fail)
        go_wp2
        go_ret
        exact ⟨ret_bool HF.out.symm, (hbel.alloc hs _).drewN _⟩
      have d2 : decide (b < a) = false := by simp; omega
      by_cases t3 : 2880 < b
      · have HF := Lib.hid (HW.out.bad HP.out (.inr (.inr t3)))
        go_wp2_with fail
        go_quiet (fail)
        go_wp2
        go_ret
        exact ⟨ret_bool HF.out.symm, (hbel.alloc hs _).drewN _⟩
      have d3 : decide (2880 < b) = false := by simp; omega
      rcases HW.out.2 with ⟨hk6, hlo⟩ | ⟨q, hkp, hq, hlo, hq1, hq2⟩
      · have d4 : decide ((0 : Int) < (k : Int)) = false := by simp; omega
        have d5 : decide (0 < k) = false := by simp; omega
        have HN := Lib.hid (HW.out.next HP.out (by dsimp only; omega) (by dsimp only; omega) (by dsimp only; omega))
        clear hk6 hlo
        go_wp2_with fail
        go_quiet (fail)
        go_wp2
        go_roundw
        case rel => exact ⟨k + 1, by omega, by go_num, ⟨_, HN.out⟩, (hbel.alloc hs _).drewN _⟩
        case measure => simp [intOf]; omega
      · have hk8 : (1 : Int) ≤ (k : Int) := by omega
        have hk4 : (k : Int) - 1 < (ps.length : Int) := by omega
        have hk5 : (0 : Int) < (k : Int) := by omega
        have hk7 : 0 < k := hkp
        have d6 : decide (0 < k) = true := by simp; omega
        have e0 := (hbel.cell (p := ⟨g, off + (k - 1) * 2 + 1, none⟩) hg).trans (HC.out (k - 1) q hq 1 (by omega))
        simp only [Window.at_] at e0
        clear hq
        obtain ⟨qa, qb⟩ := q
        dsimp only at e0 hq1 hq2 hlo
        have e1 : ∀ o, (wr.alloc o).cell? ⟨g, off + (k - 1) * 2 + 1, none⟩ = some (.int .i64 qb) := fun o => (World.cell?_alloc_lt wr o _ (by show g < wr.heap.size; omega)).trans e0
        by_cases t4 : a < lo
        · have HF := Lib.hid (HW.out.bad HP.out (.inl t4))
          have t5 : a ≤ qb + 1 := by omega
          have w1 : IntKind.i64.wrap ((k : Int) - 1) = (k : Int) - 1 := IntWalk.i64_in _ (by omega)
          have w2 : ((k : Int) - 1).toNat = k - 1 := by omega
          have w3 : IntKind.i64.wrap (qb + 1) = qb + 1 := IntWalk.i64_in _ (by omega)
          clear hlo t4
          go_wp2_with fail
          go_quiet (fail)
          go_wp2
          go_ret
          exact ⟨ret_bool HF.out.symm, (hbel.alloc hs _).drewN _⟩
        · have HN := Lib.hid (HW.out.next HP.out (by dsimp only; omega) (by dsimp only; omega) (by dsimp only; omega))
          have t5 : qb + 1 < a := by omega
          have w1 : IntKind.i64.wrap ((k : Int) - 1) = (k : Int) - 1 := IntWalk.i64_in _ (by omega)
          have w2 : ((k : Int) - 1).toNat = k - 1 := by omega
          have w3 : IntKind.i64.wrap (qb + 1) = qb + 1 := IntWalk.i64_in _ (by omega)
          clear hlo t4
          go_wp2_with fail
          go_quiet (fail)
          go_wp2
          go_roundw
          case rel => exact ⟨k + 1, by omega, by go_num, ⟨_, HN.out⟩, (hbel.alloc hs _).drewN _⟩
          case measure => simp [intOf]; omega
    · have hk' : k = ps.length := by omega
      subst hk'
      clear hrl
      go_wp2_with fail
      go_ret
      exact ⟨ret_bool HW.out.done.symm, hbel⟩


end Go.Proofs.Ytmhiohijpnmcpaa
