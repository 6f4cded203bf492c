/-
  The contracts of FleetOk, the program's and the reference's.
-/
import Derived.Test.YtjnoihilhmhihaaShip1
namespace Go.Proofs.Ytjnoihilhmhihaa
open Go.RowKit

set_option maxHeartbeats 2000000 in
theorem implFleetOk_any (A : Option Addr) (c : Nat) (ps : List Ship) (w : World) (hr : Rd w w.heap.size Ship.at_ 6 A ps) (hlen : ps.length ≤ 1048576) (hwf : ∀ p ∈ ps, p.wf) :
    Calls Try.prog 21 #[.slice A ps.length c] w fun e w' => e = .returned (.bool (fleetOk ps)) ∧ Below w.heap.size w w' := by
  by_cases h6 : 6 < ps.length
  · go_enter Try.func21, Try.ntmps21
    go_wp2_with fail
    go_ret
    exact ⟨ret_bool (by simp [fleetOk]; omega), Below.refl _ _⟩
  have h6' : ps.length ≤ 6 := by omega
  have d6 : decide (ps.length ≤ 6) = true := by simp; omega
  have HD := Lib.hid d6
  clear d6 h6
  go_enter Try.func21, Try.ntmps21
  go_wp2_with fail
  go_loopw [10] (fun i wr => ∃ k : Nat, k ≤ ps.length ∧ i = .int .i64 k ∧ fleetL (ps.map (·.name)) 0 ps = fleetL (ps.map (·.name)) k (ps.drop k) ∧ Below w.heap.size w wr) (fun i _ => ps.length - (intOf i).toNat)
  case atStart => exact ⟨0, Nat.zero_le _, rfl, rfl, Below.refl _ _⟩
  case round =>
    obtain ⟨k, hk, rfl, hno, hbel⟩ := hrel
    have hs := hbel.size
    have HN := Lib.hid hno
    clear hno
    by_cases hlt : k < ps.length
    · obtain ⟨g, off, rfl, hg, hc⟩ := hr (by omega)
      obtain ⟨p, hp⟩ : ∃ p, ps[k]? = some p := ⟨_, List.getElem?_eq_getElem hlt⟩
      have c0 := (hbel.cell (p := ⟨g, off + k * 6 + 0, none⟩) hg).trans (hc k p hp 0 (by omega))
      have c1 := (hbel.cell (p := ⟨g, off + k * 6 + 1, none⟩) hg).trans (hc k p hp 1 (by omega))
      have c2 := (hbel.cell (p := ⟨g, off + k * 6 + 2, none⟩) hg).trans (hc k p hp 2 (by omega))
      have c3 := (hbel.cell (p := ⟨g, off + k * 6 + 3, none⟩) hg).trans (hc k p hp 3 (by omega))
      have c4 := (hbel.cell (p := ⟨g, off + k * 6 + 4, none⟩) hg).trans (hc k p hp 4 (by omega))
      have c5 := (hbel.cell (p := ⟨g, off + k * 6 + 5, none⟩) hg).trans (hc k p hp 5 (by omega))
      simp only [Ship.at_, Nat.add_zero] at c0 c1 c2 c3 c4 c5
      have HC := Lib.hid hc
      have HR := Lib.hid hr
      have HP := Lib.hid hp
      clear hc hr hp
      have hnm := (hwf p (List.mem_of_getElem? HP.out)).1
      cases t : shipOk p
      · have HF := Lib.hid (fleetL_bad HN.out HP.out (.inl t))
        go_wp2_with (go_at_call 12; refine (implShipOk_any p _ hnm).mono ?_; rintro e w' ⟨rfl, hb⟩)
        go_ret
        refine ⟨ret_bool (by simp [fleetOk, HF.out]), ?_⟩
        exact (hbel.alloc hs _).trans (hb.mono (by simp; omega))
      have hblk := Blk.new wr 26 #[.string p.name, .int .i64 p.len, .int .i64 p.draught, .int .i64 p.line, .int .i64 p.tugs, .bool p.slow]
      go_wp2_with fail
      refine (implShipOk_any p _ hnm).mono ?_
      rintro e w1 ⟨rfl, hb1⟩
      have hz1 := hb1.size
      simp at hz1
      have hB1 := (hbel.alloc hs (.cells #[.string p.name, .int .i64 p.len, .int .i64 p.draught, .int .i64 p.line, .int .i64 p.tugs, .bool p.slow] 26)).trans (hb1.mono (by simp; omega))
      have e0 := (hblk.next hb1).cell 0
      have hrd : Rd w1 w1.heap.size Ship.at_ 6 (some ⟨g, off, none⟩) ps := (HR.out.below hB1).more hB1.size
      have HRD := Lib.hid hrd
      clear hrd c0 c1 c2 c3 c4 c5 hblk
      by_cases t2 : firstIdx 0 p.name (ps.map (·.name)) = (k : Int)
      · have HX := Lib.hid (fleetL_next HN.out HP.out t t2)
        have t3 : (firstIdx 0 p.name (ps.map (·.name)) == (k : Int)) = true := by simp [t2]
        have t4 : (firstIdx 0 p.name (ps.map (·.name)) != (k : Int)) = false := by simp [t2]
        clear t2
        go_wp2_with (go_at_call 18; refine (implShipNamed_any _ _ ps _ _ HRD.out hlen).mono ?_; rintro e w2 ⟨rfl, hb2⟩)
        go_roundw
        case rel => exact ⟨k + 1, by omega, by go_num, HX.out, hB1.trans (hb2.mono hB1.size)⟩
        case measure => simp [intOf]; omega
      · have HX := Lib.hid (fleetL_bad HN.out HP.out (.inr t2))
        have t3 : (firstIdx 0 p.name (ps.map (·.name)) == (k : Int)) = false := by simp [t2]
        have t4 : (firstIdx 0 p.name (ps.map (·.name)) != (k : Int)) = true := by simp [t2]
        clear t2
        go_wp2_with (go_at_call 18; refine (implShipNamed_any _ _ ps _ _ HRD.out hlen).mono ?_; rintro e w2 ⟨rfl, hb2⟩)
        go_ret
        exact ⟨ret_bool (by simp [fleetOk, HX.out]), hB1.trans (hb2.mono hB1.size)⟩
    · have hk' : k = ps.length := by omega
      subst hk'
      have HX := Lib.hid (fleetL_done HN.out)
      go_wp2_with fail
      go_ret
      exact ⟨ret_bool (by simp [fleetOk, HX.out, h6']), hbel⟩

set_option maxHeartbeats 2000000 in
theorem specFleetOk_any (A : Option Addr) (c : Nat) (ps : List Ship) (w : World) (hr : Rd w w.heap.size Ship.at_ 6 A ps) (hlen : ps.length ≤ 1048576) (hwf : ∀ p ∈ ps, p.wf) :
    Calls Try.prog 20 #[.slice A ps.length c] w fun e w' => e = .returned (.bool (fleetOk ps)) ∧ Below w.heap.size w w' := by
  by_cases h6 : 6 < ps.length
  · go_enter Try.func20, Try.ntmps20
    go_wp2_with fail
    go_ret
    exact ⟨ret_bool (by simp [fleetOk]; omega), Below.refl _ _⟩
  have h6' : ps.length ≤ 6 := by omega
  have d6 : decide (ps.length ≤ 6) = true := by simp; omega
  have HD := Lib.hid d6
  clear d6 h6
  go_enter Try.func20, Try.ntmps20
  go_wp2_with fail
  go_loopw [10] (fun i wr => ∃ k : Nat, k ≤ ps.length ∧ i = .int .i64 k ∧ fleetL (ps.map (·.name)) 0 ps = fleetL (ps.map (·.name)) k (ps.drop k) ∧ Below w.heap.size w wr) (fun i _ => ps.length - (intOf i).toNat)
  case atStart => exact ⟨0, Nat.zero_le _, rfl, rfl, Below.refl _ _⟩
  case round =>
    obtain ⟨k, hk, rfl, hno, hbel⟩ := hrel
    have hs := hbel.size
    have HN := Lib.hid hno
    clear hno
    by_cases hlt : k < ps.length
    · obtain ⟨g, off, rfl, hg, hc⟩ := hr (by omega)
      obtain ⟨p, hp⟩ : ∃ p, ps[k]? = some p := ⟨_, List.getElem?_eq_getElem hlt⟩
      have c0 := (hbel.cell (p := ⟨g, off + k * 6 + 0, none⟩) hg).trans (hc k p hp 0 (by omega))
      have c1 := (hbel.cell (p := ⟨g, off + k * 6 + 1, none⟩) hg).trans (hc k p hp 1 (by omega))
      have c2 := (hbel.cell (p := ⟨g, off + k * 6 + 2, none⟩) hg).trans (hc k p hp 2 (by omega))
      have c3 := (hbel.cell (p := ⟨g, off + k * 6 + 3, none⟩) hg).trans (hc k p hp 3 (by omega))
      have c4 := (hbel.cell (p := ⟨g, off + k * 6 + 4, none⟩) hg).trans (hc k p hp 4 (by omega))
      have c5 := (hbel.cell (p := ⟨g, off + k * 6 + 5, none⟩) hg).trans (hc k p hp 5 (by omega))
      simp only [Ship.at_, Nat.add_zero] at c0 c1 c2 c3 c4 c5
      have HC := Lib.hid hc
      have HR := Lib.hid hr
      have HP := Lib.hid hp
      clear hc hr hp
      have hnm := (hwf p (List.mem_of_getElem? HP.out)).1
      cases t : shipOk p
      · have HF := Lib.hid (fleetL_bad HN.out HP.out (.inl t))
        go_wp2_with (go_at_call 10; refine (specShipOk_any p _ hnm).mono ?_; rintro e w' ⟨rfl, hb⟩)
        go_ret
        refine ⟨ret_bool (by simp [fleetOk, HF.out]), ?_⟩
        exact (hbel.alloc hs _).trans (hb.mono (by simp; omega))
      have hblk := Blk.new wr 26 #[.string p.name, .int .i64 p.len, .int .i64 p.draught, .int .i64 p.line, .int .i64 p.tugs, .bool p.slow]
      go_wp2_with fail
      refine (specShipOk_any p _ hnm).mono ?_
      rintro e w1 ⟨rfl, hb1⟩
      have hz1 := hb1.size
      simp at hz1
      have hB1 := (hbel.alloc hs (.cells #[.string p.name, .int .i64 p.len, .int .i64 p.draught, .int .i64 p.line, .int .i64 p.tugs, .bool p.slow] 26)).trans (hb1.mono (by simp; omega))
      have e0 := (hblk.next hb1).cell 0
      have hrd : Rd w1 w1.heap.size Ship.at_ 6 (some ⟨g, off, none⟩) ps := (HR.out.below hB1).more hB1.size
      have HRD := Lib.hid hrd
      clear hrd c0 c1 c2 c3 c4 c5 hblk
      by_cases t2 : firstIdx 0 p.name (ps.map (·.name)) = (k : Int)
      · have HX := Lib.hid (fleetL_next HN.out HP.out t t2)
        have t3 : (firstIdx 0 p.name (ps.map (·.name)) == (k : Int)) = true := by simp [t2]
        have t4 : (firstIdx 0 p.name (ps.map (·.name)) != (k : Int)) = false := by simp [t2]
        clear t2
        go_wp2_with (go_at_call 16; refine (specShipNamed_any _ _ ps _ _ HRD.out hlen).mono ?_; rintro e w2 ⟨rfl, hb2⟩)
        go_roundw
        case rel => exact ⟨k + 1, by omega, by go_num, HX.out, hB1.trans (hb2.mono hB1.size)⟩
        case measure => simp [intOf]; omega
      · have HX := Lib.hid (fleetL_bad HN.out HP.out (.inr t2))
        have t3 : (firstIdx 0 p.name (ps.map (·.name)) == (k : Int)) = false := by simp [t2]
        have t4 : (firstIdx 0 p.name (ps.map (·.name)) != (k : Int)) = true := by simp [t2]
        clear t2
        go_wp2_with (go_at_call 16; refine (specShipNamed_any _ _ ps _ _ HRD.out hlen).mono ?_; rintro e w2 ⟨rfl, hb2⟩)
        go_ret
        exact ⟨ret_bool (by simp [fleetOk, HX.out]), hB1.trans (hb2.mono hB1.size)⟩
    · have hk' : k = ps.length := by omega
      subst hk'
      have HX := Lib.hid (fleetL_done HN.out)
      go_wp2_with fail
      go_ret
      exact ⟨ret_bool (by simp [fleetOk, HX.out, h6']), hbel⟩

end Go.Proofs.Ytjnoihilhmhihaa
