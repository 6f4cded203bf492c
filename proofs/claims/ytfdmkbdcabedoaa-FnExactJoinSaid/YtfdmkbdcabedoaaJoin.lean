/-
  The contracts of Join, the program's and the reference's.
-/
import Derived.Test.YtfdmkbdcabedoaaLaid
import Derived.Test.YtfdmkbdcabedoaaTStrArg
import Derived.Test.YtfdmkbdcabedoaaModelJ
namespace Go.Proofs.Ytfdmkbdcabedoaa
open Go.RowKit

theorem sumSz_take (ps : List ByteArray) (k : Nat) : sumSz (ps.take k) ≤ sumSz ps := by
  have h : sumSz ps = sumSz (ps.take k) + sumSz (ps.drop k) := by
    unfold sumSz
    rw [← List.sum_append, ← List.map_append, List.take_append_drop]
  omega
theorem joinV_size (ps : List ByteArray) (d : ByteArray) : (joinV ps d).size ≤ sumSz ps + ps.length * d.size := by
  have h1 := join_len d.data.toList (ps.map (·.data.toList))
  have h2 : ((ps.map (·.data.toList)).map (·.length)).sum = sumSz ps := by
    unfold sumSz
    rw [List.map_map]
    rfl
  have h3 : d.data.toList.length = d.size := by simp
  rw [h2, List.length_map, h3] at h1
  have h4 : (joinV ps d).size = (Lib.join (ps.map (·.data.toList)) d.data.toList).length := by
    show (Lib.join (ps.map (·.data.toList)) d.data.toList).toArray.size = _
    simp
  omega
theorem joinV_bd {ps : List ByteArray} {d : ByteArray} (k : Nat) (hlen : ps.length ≤ 1048576) (hsum : sumSz ps ≤ 1048576) (hd : d.size ≤ 1048576) : (joinV (ps.take k) d).size ≤ 2199023255552 := by
  have h1 := joinV_size (ps.take k) d
  have h2 := sumSz_take ps k
  have h3 : (ps.take k).length ≤ 1048576 := by rw [List.length_take]; omega
  have h4 : (ps.take k).length * d.size ≤ 1048576 * 1048576 := Nat.mul_le_mul h3 hd
  omega

set_option maxHeartbeats 2000000 in
theorem implJoin_any (g off c : Nat) (ps : List ByteArray) (d : ByteArray) (w : World) (hr : Rd w w.heap.size strAt 1 (some ⟨g, off, none⟩) ps) (hg : g < w.heap.size) (hlen : ps.length ≤ 1048576) (hcap : ps.length ≤ c) (hsum : sumSz ps ≤ 1048576) (hd : d.size ≤ 1048576) :
    Calls Try.prog 24 #[.slice (some ⟨g, off, none⟩) ps.length c, .string d] w fun e w' => e = .returned (.string (joinV ps d)) ∧ Below w.heap.size w w' := by
  have hcells : ∀ (j : Nat) x, ps[j]? = some x → w.cell? ⟨g, off + j, none⟩ = some (.string x) := fun j x hx => by
    have hl : j < ps.length := (List.getElem?_eq_some_iff.1 hx).1
    obtain ⟨g', off', e, _, hc⟩ := hr (by omega)
    cases e
    have := hc j x hx 0 (by omega)
    simpa only [strAt, Nat.add_zero, Nat.mul_one] using this
  have hj : (Lib.join (ps.map (·.data.toList)) d.data.toList).length ≤ 140737488355328 := by
    have h1 := join_len d.data.toList (ps.map (·.data.toList))
    have h2 : ((ps.map (·.data.toList)).map (·.length)).sum = sumSz ps := by
      unfold sumSz
      rw [List.map_map]
      rfl
    have h3 : d.data.toList.length = d.size := by simp
    have h4 : ps.length * d.size ≤ 1048576 * 1048576 := Nat.mul_le_mul hlen hd
    rw [h2, List.length_map, h3] at h1
    omega
  have hc := Try.strings_Join g off c ps d w hcells hg (by omega) hcap hj
  have hcj : Calls Try.prog 31 #[.slice (some ⟨g, off, none⟩) ps.length c, .string d] w fun e w' => e = .returned (.string (joinV ps d)) ∧ Below w.heap.size w w' := hc
  clear hr hcells hj hc
  go_enter Try.func24, Try.ntmps24
  go_wp2_with fail
  refine hcj.mono ?_
  rintro e w1 ⟨rfl, hb1⟩
  go_wp2_with fail
  go_ret
  exact ⟨rfl, hb1⟩

set_option maxHeartbeats 2000000 in
theorem specJoin_any (A : Option Addr) (c : Nat) (ps : List ByteArray) (d : ByteArray) (w : World) (hr : Rd w w.heap.size strAt 1 A ps) (hlen : ps.length ≤ 1048576) (hsum : sumSz ps ≤ 1048576) (hd : d.size ≤ 1048576) :
    Calls Try.prog 22 #[.slice A ps.length c, .string d] w fun e w' => e = .returned (.string (joinV ps d)) ∧ Below w.heap.size w w' := by
  go_enter Try.func22, Try.ntmps22
  go_wp2_with fail
  go_loopw [5, 10] (fun s i wr => ∃ k : Nat, k ≤ ps.length ∧ i = .int .i64 k ∧ s = .string (joinV (ps.take k) d) ∧ Below w.heap.size w wr) (fun _ i _ => ps.length - (intOf i).toNat)
  case atStart => exact ⟨0, Nat.zero_le _, rfl, rfl, Below.refl _ _⟩
  case round =>
    obtain ⟨k, hk, rfl, rfl, hbel⟩ := hrel
    by_cases hlt : k < ps.length
    · obtain ⟨g, off, rfl, hg, hc⟩ := hr (by omega)
      obtain ⟨p, hp⟩ : ∃ p, ps[k]? = some p := ⟨_, List.getElem?_eq_getElem hlt⟩
      have c0 := (hbel.cell (p := ⟨g, off + k * 1 + 0, none⟩) hg).trans (hc k p hp 0 (by omega))
      simp only [strAt, Nat.add_zero, Nat.mul_one] at c0
      have hbd := joinV_bd (ps := ps) (d := d) k hlen hsum hd
      have hps := sumSz_next hp
      have hpt := sumSz_take ps (k + 1)
      have hpb : p.size ≤ 1048576 := by omega
      clear hps hpt
      obtain ⟨s, hs⟩ : ∃ s, s = joinV (ps.take k) d := ⟨_, rfl⟩
      rw [← hs] at hbd ⊢
      have HC := Lib.hid hc
      have HR := Lib.hid hr
      have HP := Lib.hid hp
      have HS := Lib.hid hs
      clear hc hr hp hs
      by_cases hkz : k = 0
      · have HX : Hid (s ++ p = joinV (ps.take (k + 1)) d) := Lib.hid (by
          have h0 := HP.out
          rw [hkz] at h0 ⊢
          have h1 := HS.out
          rw [hkz] at h1
          rw [joinV_first h0, h1]
          exact ByteArray.empty_append)
        subst hkz
        simp only [Nat.add_zero] at c0
        go_wp2_with fail
        go_roundw
        case rel => exact ⟨1, by omega, by go_num, by rw [← HX.out], hbel⟩
        case measure => simp [intOf]; omega
      · have HX : Hid (s ++ d ++ p = joinV (ps.take (k + 1)) d) := Lib.hid (by rw [joinV_next (by omega) HP.out, HS.out])
        have hk7 : 0 < k := by omega
        have d6 : decide (0 < k) = true := by simp; omega
        go_wp2_with fail
        go_roundw
        case rel => exact ⟨k + 1, by omega, by go_num, by rw [HX.out], hbel⟩
        case measure => simp [intOf]; omega
    · have hk' : k = ps.length := by omega
      subst hk'
      have HX : Hid (joinV (ps.take ps.length) d = joinV ps d) := Lib.hid (by rw [List.take_length])
      go_wp2_with fail
      go_ret
      exact ⟨by first | rfl | (rw [← HX.out]; rfl), hbel⟩

end Go.Proofs.Ytfdmkbdcabedoaa
