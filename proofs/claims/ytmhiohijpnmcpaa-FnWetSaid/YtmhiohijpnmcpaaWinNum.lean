/-
  The contracts of HasMinute, CountMinutes and NextMinute, the program's and the reference's.
-/
import Derived.Test.YtmhiohijpnmcpaaWinOk
namespace Go.Proofs.Ytmhiohijpnmcpaa
open Go.RowKit

set_option maxHeartbeats 1000000 in
theorem implHasMinute_any (A : Option Addr) (c : Nat) (ps : List Window) (m : Int) (w : World) (hr : Rd w w.heap.size Window.at_ 2 A ps) (hlen : ps.length ≤ 1048576) :
    Calls Try.prog 45 #[.slice A ps.length c, .int .i64 m] w fun e w' => e = .returned (.bool (hasMin ps m)) ∧ Below w.heap.size w w' := by
  go_enter Try.func45, Try.ntmps45
  go_wp2_with fail
  go_loopw [9] (fun i wr => ∃ k : Nat, k ≤ ps.length ∧ i = .int .i64 k ∧ (ps.take k).any (fun p => inB m p.frm p.to_) = false ∧ Below w.heap.size w wr) (fun i _ => ps.length - (intOf i).toNat)
  case atStart => exact ⟨0, Nat.zero_le _, rfl, by simp, Below.refl _ _⟩
  case round =>
    obtain ⟨k, hk, rfl, hno, hbel⟩ := hrel
    have hs := hbel.size
    have HN := Lib.hid hno
    clear hno
    by_cases hlt : k < ps.length
    · obtain ⟨g, off, rfl, hg, hc⟩ := hr (by omega)
      obtain ⟨p, hp⟩ : ∃ p, ps[k]? = some p := ⟨_, List.getElem?_eq_getElem hlt⟩
      have c0 := (hbel.cell (p := ⟨g, off + k * 2 + 0, none⟩) hg).trans (hc k p hp 0 (by omega))
      have c1 := (hbel.cell (p := ⟨g, off + k * 2 + 1, none⟩) hg).trans (hc k p hp 1 (by omega))
      simp only [Window.at_, Nat.add_zero] at c0 c1
      have HC := Lib.hid hc
      have HR := Lib.hid hr
      have HP := Lib.hid hp
      obtain ⟨a, b⟩ := p
      dsimp only at c0 c1
      clear hc hr hp
      cases t : inB m a b
      · have HX := Lib.hid (any_none HN.out HP.out t)
        go_wp2_with (go_at_call 54; refine (within_any _ _ _ _).mono ?_; rintro e w' ⟨rfl, rfl⟩)
        go_roundw
        case rel => exact ⟨k + 1, by omega, by go_num, HX.out, hbel.alloc hs _⟩
        case measure => simp [intOf]; omega
      · have HX := Lib.hid (any_true (f := fun p => inB m p.frm p.to_) HP.out t)
        go_wp2_with (go_at_call 54; refine (within_any _ _ _ _).mono ?_; rintro e w' ⟨rfl, rfl⟩)
        go_ret
        exact ⟨ret_bool HX.out.symm, hbel.alloc hs _⟩
    · have hk' : k = ps.length := by omega
      subst hk'
      have hX := HN.out
      rw [List.take_length] at hX
      have HX := Lib.hid hX
      clear hX
      go_wp2_with fail
      go_ret
      exact ⟨ret_bool HX.out.symm, hbel⟩

set_option maxHeartbeats 1000000 in
theorem implCountMinutes_any (A : Option Addr) (c : Nat) (ps : List Window) (w : World) (hr : Rd w w.heap.size Window.at_ 2 A ps) (hlen : ps.length ≤ 1048576) :
    Calls Try.prog 44 #[.slice A ps.length c] w fun e w' => e = .returned (.int .i64 (countF ps)) ∧ Below w.heap.size w w' := by
  cases hok : windowsOk ps
  · go_enter Try.func44, Try.ntmps44
    go_wp2_with (go_at_call 43; refine (implWindowsOk_any _ _ _ _ hr hlen).mono ?_; rintro e w' ⟨rfl, hb⟩)
    go_ret
    exact ⟨ret_int (countF_no hok).symm, hb⟩
  · go_enter Try.func44, Try.ntmps44
    go_wp2_with fail
    refine (implWindowsOk_any _ _ _ _ hr hlen).mono ?_
    rintro e w0 ⟨rfl, hb0⟩
    go_wp2_with fail
    go_loopw [3, 11] (fun s i wr => ∃ k : Nat, k ≤ ps.length ∧ i = .int .i64 k ∧ s = .int .i64 (countV (ps.take k)) ∧ Below w.heap.size w wr) (fun _ i _ => ps.length - (intOf i).toNat)
    case atStart => exact ⟨0, Nat.zero_le _, rfl, by simp [countV], hb0⟩
    case round =>
      obtain ⟨k, hk, rfl, rfl, hbel⟩ := hrel
      have hs := hbel.size
      have hbd := countV_bd hok k hk
      by_cases hlt : k < ps.length
      · obtain ⟨g, off, rfl, hg, hc⟩ := hr (by omega)
        obtain ⟨p, hp⟩ : ∃ p, ps[k]? = some p := ⟨_, List.getElem?_eq_getElem hlt⟩
        have c0 := (hbel.cell (p := ⟨g, off + k * 2 + 0, none⟩) hg).trans (hc k p hp 0 (by omega))
        have c1 := (hbel.cell (p := ⟨g, off + k * 2 + 1, none⟩) hg).trans (hc k p hp 1 (by omega))
        simp only [Window.at_, Nat.add_zero] at c0 c1
        have HC := Lib.hid hc
        have HR := Lib.hid hr
        have HP := Lib.hid hp
        obtain ⟨a, b⟩ := p
        dsimp only at c0 c1
        clear hc hr hp
        have hm := windowsOk_mem hok (List.mem_of_getElem? HP.out)
        have HN := Lib.hid (countV_next HP.out)
        dsimp only at hm
        go_wp2_with fail
        go_roundw
        case rel => exact ⟨k + 1, by omega, by go_num, by rw [HN.out] <;> go_num, hbel.alloc hs _⟩
        case measure => simp [intOf]; omega
      · have hk' : k = ps.length := by omega
        subst hk'
        go_wp2_with fail
        go_ret
        exact ⟨ret_int (by rw [countF_ok hok]; simp), hbel⟩

end Go.Proofs.Ytmhiohijpnmcpaa
