/-
  The contracts of LengthSum and SquatOf, the program's and the reference's.
-/
import Derived.Test.YtjnoihilhmhihaaFleet
namespace Go.Proofs.Ytjnoihilhmhihaa
open Go.RowKit

set_option maxHeartbeats 2000000 in
theorem implLengthSum_any (A : Option Addr) (c : Nat) (ps : List Ship) (w : World) (hr : Rd w w.heap.size Ship.at_ 6 A ps) (hlen : ps.length ≤ 1048576) (hwf : ∀ p ∈ ps, p.wf) :
    Calls Try.prog 23 #[.slice A ps.length c] w fun e w' => e = .returned (.int .i64 (lensF ps)) ∧ Below w.heap.size w w' := by
  cases hok : fleetOk ps
  · go_enter Try.func23, Try.ntmps23
    go_wp2_with (go_at_call 21; refine (implFleetOk_any _ _ _ _ hr hlen hwf).mono ?_; rintro e w' ⟨rfl, hb⟩)
    go_ret
    exact ⟨ret_int (by rw [lensF, if_neg (by rw [hok]; exact Bool.false_ne_true)]), hb⟩
  · go_enter Try.func23, Try.ntmps23
    go_wp2_with fail
    refine (implFleetOk_any _ _ _ _ hr hlen hwf).mono ?_
    rintro e w0 ⟨rfl, hb0⟩
    go_wp2_with fail
    go_loopw [3, 11] (fun s i wr => ∃ k : Nat, k ≤ ps.length ∧ i = .int .i64 k ∧ s = .int .i64 (lensV (ps.take k)) ∧ Below w.heap.size w wr) (fun _ i _ => ps.length - (intOf i).toNat)
    case atStart => exact ⟨0, Nat.zero_le _, rfl, by simp [lensV], hb0⟩
    case round =>
      obtain ⟨k, hk, rfl, rfl, hbel⟩ := hrel
      have hs := hbel.size
      have hbd := lensV_bd hok k hk
      by_cases hlt : k < ps.length
      · obtain ⟨g, off, rfl, hg, hc⟩ := hr (by omega)
        obtain ⟨p, hp⟩ : ∃ p, ps[k]? = some p := ⟨_, List.getElem?_eq_getElem hlt⟩
        have c0 := (hbel.cell (p := ⟨g, off + k * 6 + 0, none⟩) hg).trans (hc k p hp 0 (by omega))
        have c1 := (hbel.cell (p := ⟨g, off + k * 6 + 1, none⟩) hg).trans (hc k p hp 1 (by omega))
        have c2 := (hbel.cell (p := ⟨g, off + k * 6 + 2, none⟩) hg).trans (hc k p hp 2 (by omega))
        have c3 := (hbel.cell (p := ⟨g, off + k * 6 + 3, none⟩) hg).trans (hc k p hp 3 (by omega))
        have c4 := (hbel.cell (p := ⟨g, off + k * 6 + 4, none⟩) hg).trans (hc k p hp 4 (by omega))
        have c5 := (hbel.cell (p := ⟨g, off + k * 6 + 5, none⟩) hg).trans (hc k p hp 5 (by omega))
        simp only [Ship.at_, Nat.add_zero] at c0 c1 c2 c3 c4 c5
        have HC := Lib.hid hc
        have HR := Lib.hid hr
        have HP := Lib.hid hp
        clear hc hr hp
        have hm := (shipOk_true (fleetOk_mem hok (List.mem_of_getElem? HP.out))).1
        have HN := Lib.hid (lensV_next HP.out)
        go_wp2_with fail
        go_roundw
        case rel => exact ⟨k + 1, by omega, by go_num, by rw [HN.out] <;> go_num, hbel.alloc hs _⟩
        case measure => simp [intOf]; omega
      · have hk' : k = ps.length := by omega
        subst hk'
        go_wp2_with fail
        go_ret
        exact ⟨ret_int (by rw [lensF, if_pos hok]; simp), hbel⟩

set_option maxHeartbeats 2000000 in
theorem specLengthSum_any (A : Option Addr) (c : Nat) (ps : List Ship) (w : World) (hr : Rd w w.heap.size Ship.at_ 6 A ps) (hlen : ps.length ≤ 1048576) (hwf : ∀ p ∈ ps, p.wf) :
    Calls Try.prog 22 #[.slice A ps.length c] w fun e w' => e = .returned (.int .i64 (lensF ps)) ∧ Below w.heap.size w w' := by
  cases hok : fleetOk ps
  · go_enter Try.func22, Try.ntmps22
    go_wp2_with (go_at_call 20; refine (specFleetOk_any _ _ _ _ hr hlen hwf).mono ?_; rintro e w' ⟨rfl, hb⟩)
    go_ret
    exact ⟨ret_int (by rw [lensF, if_neg (by rw [hok]; exact Bool.false_ne_true)]), hb⟩
  · go_enter Try.func22, Try.ntmps22
    go_wp2_with fail
    refine (specFleetOk_any _ _ _ _ hr hlen hwf).mono ?_
    rintro e w0 ⟨rfl, hb0⟩
    go_wp2_with fail
    go_loopw [3, 11] (fun s i wr => ∃ k : Nat, k ≤ ps.length ∧ i = .int .i64 k ∧ s = .int .i64 (lensV (ps.take k)) ∧ Below w.heap.size w wr) (fun _ i _ => ps.length - (intOf i).toNat)
    case atStart => exact ⟨0, Nat.zero_le _, rfl, by simp [lensV], hb0⟩
    case round =>
      obtain ⟨k, hk, rfl, rfl, hbel⟩ := hrel
      have hs := hbel.size
      have hbd := lensV_bd hok k hk
      by_cases hlt : k < ps.length
      · obtain ⟨g, off, rfl, hg, hc⟩ := hr (by omega)
        obtain ⟨p, hp⟩ : ∃ p, ps[k]? = some p := ⟨_, List.getElem?_eq_getElem hlt⟩
        have c0 := (hbel.cell (p := ⟨g, off + k * 6 + 0, none⟩) hg).trans (hc k p hp 0 (by omega))
        have c1 := (hbel.cell (p := ⟨g, off + k * 6 + 1, none⟩) hg).trans (hc k p hp 1 (by omega))
        have c2 := (hbel.cell (p := ⟨g, off + k * 6 + 2, none⟩) hg).trans (hc k p hp 2 (by omega))
        have c3 := (hbel.cell (p := ⟨g, off + k * 6 + 3, none⟩) hg).trans (hc k p hp 3 (by omega))
        have c4 := (hbel.cell (p := ⟨g, off + k * 6 + 4, none⟩) hg).trans (hc k p hp 4 (by omega))
        have c5 := (hbel.cell (p := ⟨g, off + k * 6 + 5, none⟩) hg).trans (hc k p hp 5 (by omega))
        simp only [Ship.at_, Nat.add_zero] at c0 c1 c2 c3 c4 c5
        have HC := Lib.hid hc
        have HR := Lib.hid hr
        have HP := Lib.hid hp
        clear hc hr hp
        have hm := (shipOk_true (fleetOk_mem hok (List.mem_of_getElem? HP.out))).1
        have HN := Lib.hid (lensV_next HP.out)
        go_wp2_with fail
        go_roundw
        case rel => exact ⟨k + 1, by omega, by go_num, by rw [HN.out] <;> go_num, hbel.alloc hs _⟩
        case measure => simp [intOf]; omega
      · have hk' : k = ps.length := by omega
        subst hk'
        go_wp2_with fail
        go_ret
        exact ⟨ret_int (by rw [lensF, if_pos hok]; simp), hbel⟩

set_option maxHeartbeats 2000000 in
theorem implSquatOf_any (p : Ship) (w : World) (hn : p.name.size ≤ maxLen) :
    Calls Try.prog 14 #[.agg #[.string p.name, .int .i64 p.len, .int .i64 p.draught, .int .i64 p.line, .int .i64 p.tugs, .bool p.slow]] w fun e w' => e = .returned (.int .i64 (squatF p)) ∧ Below w.heap.size w w' := by
  obtain ⟨n, l, d, li, tg, sl⟩ := p
  have hk0 := Blk.new w 26 #[.string n, .int .i64 l, .int .i64 d, .int .i64 li, .int .i64 tg, .bool sl]
  cases hok : shipOk ⟨n, l, d, li, tg, sl⟩
  · go_enter Try.func14, Try.ntmps14
    go_wp2_with (go_at_call 12; refine (implShipOk_any ⟨n, l, d, li, tg, sl⟩ _ hn).mono ?_; rintro e w' ⟨rfl, hb⟩)
    go_ret
    refine ⟨ret_int (by rw [squatF, if_neg (by rw [hok]; exact Bool.false_ne_true)]), ?_⟩
    exact ((Below.refl _ _).alloc (Nat.le_refl _) _).trans (hb.mono (by simp))
  · have hd := shipOk_true hok
    have hd1 := hd.2.1.1
    have hd2 := hd.2.1.2
    clear hd
    dsimp only at hd1 hd2
    cases sl
    · go_enter Try.func14, Try.ntmps14
      go_wp2_with fail
      refine (implShipOk_any ⟨n, l, d, li, tg, false⟩ _ hn).mono ?_
      rintro e w1 ⟨rfl, hb1⟩
      have hk1 := hk0.next hb1
      have hz1 := hb1.size
      simp at hz1
      have c0 := hk1.cell 0
      have c1 := hk1.cell 1
      have c2 := hk1.cell 2
      have c3 := hk1.cell 3
      have c4 := hk1.cell 4
      have c5 := hk1.cell 5
      go_wp2_with go_in
      go_ret
      refine ⟨ret_int (by rw [squatF, if_pos hok, squatV]; rfl), ?_⟩
      exact (((Below.refl _ _).alloc (Nat.le_refl _) _).trans (hb1.mono (by simp))).alloc (by omega) _
    · go_enter Try.func14, Try.ntmps14
      go_wp2_with fail
      refine (implShipOk_any ⟨n, l, d, li, tg, true⟩ _ hn).mono ?_
      rintro e w1 ⟨rfl, hb1⟩
      have hk1 := hk0.next hb1
      have hz1 := hb1.size
      simp at hz1
      have c0 := hk1.cell 0
      have c1 := hk1.cell 1
      have c2 := hk1.cell 2
      have c3 := hk1.cell 3
      have c4 := hk1.cell 4
      have c5 := hk1.cell 5
      go_wp2_with go_in
      go_ret
      refine ⟨ret_int (by rw [squatF, if_pos hok, squatV]; rfl), ?_⟩
      exact (((Below.refl _ _).alloc (Nat.le_refl _) _).trans (hb1.mono (by simp))).alloc (by omega) _

set_option maxHeartbeats 2000000 in
theorem specSquatOf_any (p : Ship) (w : World) (hn : p.name.size ≤ maxLen) :
    Calls Try.prog 13 #[.agg #[.string p.name, .int .i64 p.len, .int .i64 p.draught, .int .i64 p.line, .int .i64 p.tugs, .bool p.slow]] w fun e w' => e = .returned (.int .i64 (squatF p)) ∧ Below w.heap.size w w' := by
  obtain ⟨n, l, d, li, tg, sl⟩ := p
  have hk0 := Blk.new w 26 #[.string n, .int .i64 l, .int .i64 d, .int .i64 li, .int .i64 tg, .bool sl]
  cases hok : shipOk ⟨n, l, d, li, tg, sl⟩
  · go_enter Try.func13, Try.ntmps13
    go_wp2_with (go_at_call 10; refine (specShipOk_any ⟨n, l, d, li, tg, sl⟩ _ hn).mono ?_; rintro e w' ⟨rfl, hb⟩)
    go_ret
    refine ⟨ret_int (by rw [squatF, if_neg (by rw [hok]; exact Bool.false_ne_true)]), ?_⟩
    exact ((Below.refl _ _).alloc (Nat.le_refl _) _).trans (hb.mono (by simp))
  · have hd := shipOk_true hok
    have hd1 := hd.2.1.1
    have hd2 := hd.2.1.2
    clear hd
    dsimp only at hd1 hd2
    cases sl
    · go_enter Try.func13, Try.ntmps13
      go_wp2_with fail
      refine (specShipOk_any ⟨n, l, d, li, tg, false⟩ _ hn).mono ?_
      rintro e w1 ⟨rfl, hb1⟩
      have hk1 := hk0.next hb1
      have hz1 := hb1.size
      simp at hz1
      have c0 := hk1.cell 0
      have c1 := hk1.cell 1
      have c2 := hk1.cell 2
      have c3 := hk1.cell 3
      have c4 := hk1.cell 4
      have c5 := hk1.cell 5
      go_wp2_with fail
      go_ret
      refine ⟨ret_int (by rw [squatF, if_pos hok, squatV]; rfl), ?_⟩
      exact ((Below.refl _ _).alloc (Nat.le_refl _) _).trans (hb1.mono (by simp))
    · go_enter Try.func13, Try.ntmps13
      go_wp2_with fail
      refine (specShipOk_any ⟨n, l, d, li, tg, true⟩ _ hn).mono ?_
      rintro e w1 ⟨rfl, hb1⟩
      have hk1 := hk0.next hb1
      have hz1 := hb1.size
      simp at hz1
      have c0 := hk1.cell 0
      have c1 := hk1.cell 1
      have c2 := hk1.cell 2
      have c3 := hk1.cell 3
      have c4 := hk1.cell 4
      have c5 := hk1.cell 5
      go_wp2_with fail
      go_ret
      refine ⟨ret_int (by rw [squatF, if_pos hok, squatV]; rfl), ?_⟩
      exact ((Below.refl _ _).alloc (Nat.le_refl _) _).trans (hb1.mono (by simp))

end Go.Proofs.Ytjnoihilhmhihaa
