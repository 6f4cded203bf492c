/-
  The contracts of level, the program's and the reference's.
-/
import Derived.Test.YtmhiohijpnmcpaaTide
import Derived.Test.YtmhiohijpnmcpaaWave
import Derived.Test.YtmhiohijpnmcpaaModelA
namespace Go.Proofs.Ytmhiohijpnmcpaa
open Go.RowKit

set_option maxHeartbeats 1000000 in
theorem implLevel_any (m : Int) (A : Option Addr) (c : Nat) (ps : List Part) (t : Int) (w : World) (hr : Rd w w.heap.size Part.at_ 3 A ps) (hok : tideOk m ps = true) (h0 : 0 ≤ t) (h1 : t ≤ 2880) :
    Calls Try.prog 83 #[.agg #[.int .i64 m, .slice A ps.length c], .int .i64 t] w fun e w' => e = .returned (.int .i64 (levelV t m ps)) ∧ Below w.heap.size w w' := by
  have hlen := tideOk_len hok
  go_enter Try.func83, Try.ntmps83
  go_wp2_with fail
  go_loopw [5, 13] (fun s i wr => ∃ k : Nat, k ≤ ps.length ∧ i = .int .i64 k ∧ s = .int .i64 (levelV t m (ps.take k)) ∧ Below w.heap.size w wr) (fun _ i _ => ps.length - (intOf i).toNat)
  case atStart => exact ⟨0, Nat.zero_le _, rfl, by simp [levelV], (Below.refl _ _).alloc (Nat.le_refl _) _⟩
  case round =>
    obtain ⟨k, hk, rfl, rfl, hbel⟩ := hrel
    have hs := hbel.size
    have hbd := levelV_bd hok t hk
    by_cases hlt : k < ps.length
    · obtain ⟨g, off, rfl, hg, hc⟩ := hr (by omega)
      obtain ⟨p, hp⟩ : ∃ p, ps[k]? = some p := ⟨_, List.getElem?_eq_getElem hlt⟩
      have c0 := (hbel.cell (p := ⟨g, off + k * 3 + 0, none⟩) hg).trans (hc k p hp 0 (by omega))
      have c1 := (hbel.cell (p := ⟨g, off + k * 3 + 1, none⟩) hg).trans (hc k p hp 1 (by omega))
      have c2 := (hbel.cell (p := ⟨g, off + k * 3 + 2, none⟩) hg).trans (hc k p hp 2 (by omega))
      simp only [Part.at_, Nat.add_zero] at c0 c1 c2
      have HC := Lib.hid hc
      have HR := Lib.hid hr
      have HP := Lib.hid hp
      clear hc hr hp
      have hpo := tideOk_mem hok (List.mem_of_getElem? HP.out)
      have hp1 := partOk_true hpo
      have hp2 := isPer_true hp1.2.1
      have hp3 := amp_wave_bd hpo (t + p.phase)
      have hp4 := partLevel_amp hpo t
      have HN := Lib.hid (levelV_next (minute := t) (mean := m) HP.out)
      obtain ⟨lv, hlv⟩ : ∃ lv, levelV t m (ps.take k) = lv := ⟨_, rfl⟩
      have HL := Lib.hid hlv
      rw [hlv] at hbd ⊢
      rw [partLevel_eq] at hp4
      have w1 : IntKind.i64.wrap (t + p.phase) = t + p.phase := IntWalk.i64_in _ (by omega)
      have w2 : IntKind.i64.wrap (p.amp * waveF (t + p.phase) p.period) = p.amp * waveF (t + p.phase) p.period := IntWalk.i64_in _ (by omega)
      have w3 : IntKind.i64.wrap ((p.amp * waveF (t + p.phase) p.period).tdiv 10000) = (p.amp * waveF (t + p.phase) p.period).tdiv 10000 := IntWalk.i64_in _ (by omega)
      have w4 : IntKind.i64.wrap (lv + (p.amp * waveF (t + p.phase) p.period).tdiv 10000) = lv + (p.amp * waveF (t + p.phase) p.period).tdiv 10000 := IntWalk.i64_in _ (by omega)
      clear hlv hpo hp1 hp2 hp3 hp4 hbd
      go_wp2_with fail
      go_quiet ((go_at_call 99; exact quiet_left (implWave_any _ _ _)))
      clear w1 w2 w3 w4
      go_wp2
      go_roundw
      case rel => exact ⟨k + 1, by omega, by go_num, by rw [HN.out, HL.out, partLevel_eq], (hbel.alloc hs _).drewN _⟩
      case measure => simp [intOf]; omega
    · have hk' : k = ps.length := by omega
      subst hk'
      go_wp2_with fail
      go_ret
      exact ⟨ret_int (by first | rfl | simp), hbel⟩

set_option maxHeartbeats 1000000 in
theorem specLevel_any (m : Int) (A : Option Addr) (c : Nat) (ps : List Part) (t : Int) (w : World) (hr : Rd w w.heap.size Part.at_ 3 A ps) (hok : tideOk m ps = true) (h0 : 0 ≤ t) (h1 : t ≤ 2880) :
    Calls Try.prog 61 #[.agg #[.int .i64 m, .slice A ps.length c], .int .i64 t] w fun e w' => e = .returned (.int .i64 (levelV t m ps)) ∧ Below w.heap.size w w' := by
  have hlen := tideOk_len hok
  go_enter Try.func61, Try.ntmps61
  go_wp2_with fail
  go_loopw [5, 13] (fun s i wr => ∃ k : Nat, k ≤ ps.length ∧ i = .int .i64 k ∧ s = .int .i64 (levelV t m (ps.take k)) ∧ Below w.heap.size w wr) (fun _ i _ => ps.length - (intOf i).toNat)
  case atStart => exact ⟨0, Nat.zero_le _, rfl, by simp [levelV], (Below.refl _ _).alloc (Nat.le_refl _) _⟩
  case round =>
    obtain ⟨k, hk, rfl, rfl, hbel⟩ := hrel
    have hs := hbel.size
    have hbd := levelV_bd hok t hk
    by_cases hlt : k < ps.length
    · obtain ⟨g, off, rfl, hg, hc⟩ := hr (by omega)
      obtain ⟨p, hp⟩ : ∃ p, ps[k]? = some p := ⟨_, List.getElem?_eq_getElem hlt⟩
      have c0 := (hbel.cell (p := ⟨g, off + k * 3 + 0, none⟩) hg).trans (hc k p hp 0 (by omega))
      have c1 := (hbel.cell (p := ⟨g, off + k * 3 + 1, none⟩) hg).trans (hc k p hp 1 (by omega))
      have c2 := (hbel.cell (p := ⟨g, off + k * 3 + 2, none⟩) hg).trans (hc k p hp 2 (by omega))
      simp only [Part.at_, Nat.add_zero] at c0 c1 c2
      have HC := Lib.hid hc
      have HR := Lib.hid hr
      have HP := Lib.hid hp
      clear hc hr hp
      have hpo := tideOk_mem hok (List.mem_of_getElem? HP.out)
      have hp1 := partOk_true hpo
      have hp2 := isPer_true hp1.2.1
      have hp3 := amp_wave_bd hpo (t + p.phase)
      have hp4 := partLevel_amp hpo t
      have HN := Lib.hid (levelV_next (minute := t) (mean := m) HP.out)
      obtain ⟨lv, hlv⟩ : ∃ lv, levelV t m (ps.take k) = lv := ⟨_, rfl⟩
      have HL := Lib.hid hlv
      rw [hlv] at hbd ⊢
      rw [partLevel_eq] at hp4
      have w1 : IntKind.i64.wrap (t + p.phase) = t + p.phase := IntWalk.i64_in _ (by omega)
      have w2 : IntKind.i64.wrap (p.amp * waveF (t + p.phase) p.period) = p.amp * waveF (t + p.phase) p.period := IntWalk.i64_in _ (by omega)
      have w3 : IntKind.i64.wrap ((p.amp * waveF (t + p.phase) p.period).tdiv 10000) = (p.amp * waveF (t + p.phase) p.period).tdiv 10000 := IntWalk.i64_in _ (by omega)
      have w4 : IntKind.i64.wrap (lv + (p.amp * waveF (t + p.phase) p.period).tdiv 10000) = lv + (p.amp * waveF (t + p.phase) p.period).tdiv 10000 := IntWalk.i64_in _ (by omega)
      clear hlv hpo hp1 hp2 hp3 hp4 hbd
      go_wp2_with fail
      go_quiet ((go_at_call 91; exact quiet_left (specWave_any _ _ _)))
      clear w1 w2 w3 w4
      go_wp2
      go_roundw
      case rel => exact ⟨k + 1, by omega, by go_num, by rw [HN.out, HL.out, partLevel_eq], (hbel.alloc hs _).drewN _⟩
      case measure => simp [intOf]; omega
    · have hk' : k = ps.length := by omega
      subst hk'
      go_wp2_with fail
      go_ret
      exact ⟨ret_int (by first | rfl | simp), hbel⟩

end Go.Proofs.Ytmhiohijpnmcpaa
