/-
  The contracts of the functions on ships and fleets, the program's and the reference's.
-/
import Derived.Test.YtjnoihilhmhihaaText1
import Derived.Test.YtjnoihilhmhihaaModelS
namespace Go.Proofs.Ytjnoihilhmhihaa
open Go.RowKit

/-- 0 ≤ i < n as a Bool. -/
def idxB (i n : Int) : Bool := decide (0 ≤ i) && decide (i < n)
theorem idxB_inB (i n : Int) : idxB i n = inB i 0 (n - 1) := by
  unfold idxB inB
  have : decide (i < n) = decide (i ≤ n - 1) := by rw [Bool.eq_iff_iff]; simp; omega
  rw [this]
set_option maxHeartbeats 400000 in
theorem isIndex_any (i n : Int) (w : World) :
    Calls Try.prog 34 #[.int .i64 i, .int .i64 n] w fun e w' => e = .returned (.bool (idxB i n)) ∧ w = w' := by
  by_cases h1 : 0 ≤ i
  · by_cases h2 : i < n
    all_goals
      go_enter Try.func34, Try.ntmps34
      go_wp2
      go_ret
      exact ⟨ret_bool (by simp [idxB, h1, h2]), rfl⟩
  · go_enter Try.func34, Try.ntmps34
    go_wp2
    go_ret
    exact ⟨ret_bool (by simp [idxB]; omega), rfl⟩
theorem isIndex4_any (i : Int) (w : World) :
    Calls Try.prog 34 #[.int .i64 i, .int .i64 4] w fun e w' => e = .returned (.bool (inB i 0 3)) ∧ w = w' :=
  (isIndex_any i 4 w).mono fun _ _ h => ⟨by rw [h.1, idxB_inB]; rfl, h.2⟩

set_option maxHeartbeats 2000000 in
theorem implShipOk_any (p : Ship) (w : World) (hn : p.name.size ≤ maxLen) :
    Calls Try.prog 12 #[.agg #[.string p.name, .int .i64 p.len, .int .i64 p.draught, .int .i64 p.line, .int .i64 p.tugs, .bool p.slow]] w fun e w' => e = .returned (.bool (shipOk p)) ∧ Below w.heap.size w w' := by
  unfold maxLen at hn
  have hn' : p.name.size ≤ 9223372036854775807 := by omega
  clear hn
  cases t1 : nameOk p.name.data.toList
  · go_enter Try.func12, Try.ntmps12
    go_wp2_with (first | (go_at_call 32; refine (implIsName_any _ _ hn').mono ?_; rintro e w' ⟨rfl, rfl⟩) | (go_at_call 33; refine (within_any _ _ _ _).mono ?_; rintro e w' ⟨rfl, rfl⟩) | (go_at_call 34; refine (isIndex4_any _ _).mono ?_; rintro e w' ⟨rfl, rfl⟩))
    go_ret
    refine ⟨ret_bool (by simp [shipOk, t1]), ?_⟩
    repeat (first | exact Below.refl _ _ | assumption | refine Below.alloc ?_ (by simp <;> omega) _ | refine Below.setCell ?_ (by simp <;> omega) _ | refine Below.drew ?_)
  cases t2 : inB p.len 10 400
  · go_enter Try.func12, Try.ntmps12
    go_wp2_with (first | (go_at_call 32; refine (implIsName_any _ _ hn').mono ?_; rintro e w' ⟨rfl, rfl⟩) | (go_at_call 33; refine (within_any _ _ _ _).mono ?_; rintro e w' ⟨rfl, rfl⟩) | (go_at_call 34; refine (isIndex4_any _ _).mono ?_; rintro e w' ⟨rfl, rfl⟩))
    go_ret
    refine ⟨ret_bool (by simp [shipOk, t1, t2]), ?_⟩
    repeat (first | exact Below.refl _ _ | assumption | refine Below.alloc ?_ (by simp <;> omega) _ | refine Below.setCell ?_ (by simp <;> omega) _ | refine Below.drew ?_)
  cases t3 : inB p.draught 100 2000
  · go_enter Try.func12, Try.ntmps12
    go_wp2_with (first | (go_at_call 32; refine (implIsName_any _ _ hn').mono ?_; rintro e w' ⟨rfl, rfl⟩) | (go_at_call 33; refine (within_any _ _ _ _).mono ?_; rintro e w' ⟨rfl, rfl⟩) | (go_at_call 34; refine (isIndex4_any _ _).mono ?_; rintro e w' ⟨rfl, rfl⟩))
    go_ret
    refine ⟨ret_bool (by simp [shipOk, t1, t2, t3]), ?_⟩
    repeat (first | exact Below.refl _ _ | assumption | refine Below.alloc ?_ (by simp <;> omega) _ | refine Below.setCell ?_ (by simp <;> omega) _ | refine Below.drew ?_)
  cases t4 : inB p.line 0 3
  · go_enter Try.func12, Try.ntmps12
    go_wp2_with (first | (go_at_call 32; refine (implIsName_any _ _ hn').mono ?_; rintro e w' ⟨rfl, rfl⟩) | (go_at_call 33; refine (within_any _ _ _ _).mono ?_; rintro e w' ⟨rfl, rfl⟩) | (go_at_call 34; refine (isIndex4_any _ _).mono ?_; rintro e w' ⟨rfl, rfl⟩))
    go_ret
    refine ⟨ret_bool (by simp [shipOk, t1, t2, t3, t4]), ?_⟩
    repeat (first | exact Below.refl _ _ | assumption | refine Below.alloc ?_ (by simp <;> omega) _ | refine Below.setCell ?_ (by simp <;> omega) _ | refine Below.drew ?_)
  cases t5 : inB p.tugs 0 4
  all_goals
    go_enter Try.func12, Try.ntmps12
    go_wp2_with (first | (go_at_call 32; refine (implIsName_any _ _ hn').mono ?_; rintro e w' ⟨rfl, rfl⟩) | (go_at_call 33; refine (within_any _ _ _ _).mono ?_; rintro e w' ⟨rfl, rfl⟩) | (go_at_call 34; refine (isIndex4_any _ _).mono ?_; rintro e w' ⟨rfl, rfl⟩))
    go_ret
    refine ⟨ret_bool (by simp [shipOk, t1, t2, t3, t4, t5]), ?_⟩
    repeat (first | exact Below.refl _ _ | assumption | refine Below.alloc ?_ (by simp <;> omega) _ | refine Below.setCell ?_ (by simp <;> omega) _ | refine Below.drew ?_)

set_option maxHeartbeats 2000000 in
theorem implShipNamed_any (A : Option Addr) (c : Nat) (ps : List Ship) (n : ByteArray) (w : World) (hr : Rd w w.heap.size Ship.at_ 6 A ps) (hlen : ps.length ≤ 1048576) :
    Calls Try.prog 18 #[.slice A ps.length c, .string n] w fun e w' => e = .returned (.int .i64 (firstIdx 0 n (ps.map (·.name)))) ∧ Below w.heap.size w w' := by
  go_enter Try.func18, Try.ntmps18
  go_wp2_with fail
  go_loopw [9] (fun i wr => ∃ k : Nat, k ≤ ps.length ∧ i = .int .i64 k ∧ firstIdx 0 n (ps.map (·.name)) = firstIdx k n ((ps.map (·.name)).drop k) ∧ Below w.heap.size w wr) (fun i _ => ps.length - (intOf i).toNat)
  case atStart => exact ⟨0, Nat.zero_le _, rfl, rfl, Below.refl _ _⟩
  case round =>
    obtain ⟨k, hk, rfl, hno, hbel⟩ := hrel
    have hs := hbel.size
    have HN := Lib.hid hno
    clear hno
    by_cases hlt : k < ps.length
    · obtain ⟨g, off, rfl, hg, hc⟩ := hr (by omega)
      obtain ⟨p, hp⟩ : ∃ p, ps[k]? = some p := ⟨_, List.getElem?_eq_getElem hlt⟩
      have c0 := (hbel.cell (p := ⟨g, off + k * 6 + 0, none⟩) hg).trans (hc k p hp 0 (by omega))
      have c1 := (hbel.cell (p := ⟨g, off + k * 6 + 1, none⟩) hg).trans (hc k p hp 1 (by omega))
      have c2 := (hbel.cell (p := ⟨g, off + k * 6 + 2, none⟩) hg).trans (hc k p hp 2 (by omega))
      have c3 := (hbel.cell (p := ⟨g, off + k * 6 + 3, none⟩) hg).trans (hc k p hp 3 (by omega))
      have c4 := (hbel.cell (p := ⟨g, off + k * 6 + 4, none⟩) hg).trans (hc k p hp 4 (by omega))
      have c5 := (hbel.cell (p := ⟨g, off + k * 6 + 5, none⟩) hg).trans (hc k p hp 5 (by omega))
      simp only [Ship.at_, Nat.add_zero] at c0 c1 c2 c3 c4 c5
      have HC := Lib.hid hc
      have HR := Lib.hid hr
      have HP := Lib.hid hp
      clear hc hr hp
      have HM : Hid ((ps.map (·.name))[k]? = some p.name) := Lib.hid (by simp [HP.out])
      by_cases t : p.name = n
      · have HX := Lib.hid (firstIdx_hit HN.out (by rw [← t]; exact HM.out))
        have t2 := str_same t
        clear t
        go_wp2_with fail
        go_ret
        exact ⟨ret_int HX.out.symm, hbel.alloc hs _⟩
      · have HX := Lib.hid (firstIdx_miss HN.out HM.out t)
        have t2 := str_diff t
        clear t
        go_wp2_with fail
        go_roundw
        case rel => exact ⟨k + 1, by omega, by go_num, HX.out, hbel.alloc hs _⟩
        case measure => simp [intOf]; omega
    · have hk' : k = ps.length := by omega
      subst hk'
      have HX := Lib.hid (firstIdx_done HN.out (by simp))
      go_wp2_with fail
      go_ret
      exact ⟨ret_int HX.out.symm, hbel⟩

set_option maxHeartbeats 2000000 in
theorem specShipOk_any (p : Ship) (w : World) (hn : p.name.size ≤ maxLen) :
    Calls Try.prog 10 #[.agg #[.string p.name, .int .i64 p.len, .int .i64 p.draught, .int .i64 p.line, .int .i64 p.tugs, .bool p.slow]] w fun e w' => e = .returned (.bool (shipOk p)) ∧ Below w.heap.size w w' := by
  unfold maxLen at hn
  have hn' : p.name.size ≤ 9223372036854775807 := by omega
  clear hn
  cases t1 : nameOk p.name.data.toList
  · go_enter Try.func10, Try.ntmps10
    go_wp2_with (first | (go_at_call 30; refine (specIsName_any _ _ hn').mono ?_; rintro e w' ⟨rfl, rfl⟩) | (go_at_call 31; refine (l01In_any _ _ _ _).mono ?_; rintro e w' ⟨rfl, rfl⟩))
    go_ret
    refine ⟨ret_bool (by simp [shipOk, t1]), ?_⟩
    repeat (first | exact Below.refl _ _ | assumption | refine Below.alloc ?_ (by simp <;> omega) _ | refine Below.setCell ?_ (by simp <;> omega) _ | refine Below.drew ?_)
  cases t2 : inB p.len 10 400
  · go_enter Try.func10, Try.ntmps10
    go_wp2_with (first | (go_at_call 30; refine (specIsName_any _ _ hn').mono ?_; rintro e w' ⟨rfl, rfl⟩) | (go_at_call 31; refine (l01In_any _ _ _ _).mono ?_; rintro e w' ⟨rfl, rfl⟩))
    go_ret
    refine ⟨ret_bool (by simp [shipOk, t1, t2]), ?_⟩
    repeat (first | exact Below.refl _ _ | assumption | refine Below.alloc ?_ (by simp <;> omega) _ | refine Below.setCell ?_ (by simp <;> omega) _ | refine Below.drew ?_)
  cases t3 : inB p.draught 100 2000
  · go_enter Try.func10, Try.ntmps10
    go_wp2_with (first | (go_at_call 30; refine (specIsName_any _ _ hn').mono ?_; rintro e w' ⟨rfl, rfl⟩) | (go_at_call 31; refine (l01In_any _ _ _ _).mono ?_; rintro e w' ⟨rfl, rfl⟩))
    go_ret
    refine ⟨ret_bool (by simp [shipOk, t1, t2, t3]), ?_⟩
    repeat (first | exact Below.refl _ _ | assumption | refine Below.alloc ?_ (by simp <;> omega) _ | refine Below.setCell ?_ (by simp <;> omega) _ | refine Below.drew ?_)
  cases t4 : inB p.line 0 3
  · go_enter Try.func10, Try.ntmps10
    go_wp2_with (first | (go_at_call 30; refine (specIsName_any _ _ hn').mono ?_; rintro e w' ⟨rfl, rfl⟩) | (go_at_call 31; refine (l01In_any _ _ _ _).mono ?_; rintro e w' ⟨rfl, rfl⟩))
    go_ret
    refine ⟨ret_bool (by simp [shipOk, t1, t2, t3, t4]), ?_⟩
    repeat (first | exact Below.refl _ _ | assumption | refine Below.alloc ?_ (by simp <;> omega) _ | refine Below.setCell ?_ (by simp <;> omega) _ | refine Below.drew ?_)
  cases t5 : inB p.tugs 0 4
  all_goals
    go_enter Try.func10, Try.ntmps10
    go_wp2_with (first | (go_at_call 30; refine (specIsName_any _ _ hn').mono ?_; rintro e w' ⟨rfl, rfl⟩) | (go_at_call 31; refine (l01In_any _ _ _ _).mono ?_; rintro e w' ⟨rfl, rfl⟩))
    go_ret
    refine ⟨ret_bool (by simp [shipOk, t1, t2, t3, t4, t5]), ?_⟩
    repeat (first | exact Below.refl _ _ | assumption | refine Below.alloc ?_ (by simp <;> omega) _ | refine Below.setCell ?_ (by simp <;> omega) _ | refine Below.drew ?_)

set_option maxHeartbeats 2000000 in
theorem specShipNamed_any (A : Option Addr) (c : Nat) (ps : List Ship) (n : ByteArray) (w : World) (hr : Rd w w.heap.size Ship.at_ 6 A ps) (hlen : ps.length ≤ 1048576) :
    Calls Try.prog 16 #[.slice A ps.length c, .string n] w fun e w' => e = .returned (.int .i64 (firstIdx 0 n (ps.map (·.name)))) ∧ Below w.heap.size w w' := by
  go_enter Try.func16, Try.ntmps16
  go_wp2_with fail
  go_loopw [9] (fun i wr => ∃ k : Nat, k ≤ ps.length ∧ i = .int .i64 k ∧ firstIdx 0 n (ps.map (·.name)) = firstIdx k n ((ps.map (·.name)).drop k) ∧ Below w.heap.size w wr) (fun i _ => ps.length - (intOf i).toNat)
  case atStart => exact ⟨0, Nat.zero_le _, rfl, rfl, Below.refl _ _⟩
  case round =>
    obtain ⟨k, hk, rfl, hno, hbel⟩ := hrel
    have hs := hbel.size
    have HN := Lib.hid hno
    clear hno
    by_cases hlt : k < ps.length
    · obtain ⟨g, off, rfl, hg, hc⟩ := hr (by omega)
      obtain ⟨p, hp⟩ : ∃ p, ps[k]? = some p := ⟨_, List.getElem?_eq_getElem hlt⟩
      have c0 := (hbel.cell (p := ⟨g, off + k * 6 + 0, none⟩) hg).trans (hc k p hp 0 (by omega))
      have c1 := (hbel.cell (p := ⟨g, off + k * 6 + 1, none⟩) hg).trans (hc k p hp 1 (by omega))
      have c2 := (hbel.cell (p := ⟨g, off + k * 6 + 2, none⟩) hg).trans (hc k p hp 2 (by omega))
      have c3 := (hbel.cell (p := ⟨g, off + k * 6 + 3, none⟩) hg).trans (hc k p hp 3 (by omega))
      have c4 := (hbel.cell (p := ⟨g, off + k * 6 + 4, none⟩) hg).trans (hc k p hp 4 (by omega))
      have c5 := (hbel.cell (p := ⟨g, off + k * 6 + 5, none⟩) hg).trans (hc k p hp 5 (by omega))
      simp only [Ship.at_, Nat.add_zero] at c0 c1 c2 c3 c4 c5
      have HC := Lib.hid hc
      have HR := Lib.hid hr
      have HP := Lib.hid hp
      clear hc hr hp
      have HM : Hid ((ps.map (·.name))[k]? = some p.name) := Lib.hid (by simp [HP.out])
      by_cases t : p.name = n
      · have HX := Lib.hid (firstIdx_hit HN.out (by rw [← t]; exact HM.out))
        have t2 := str_same t
        clear t
        go_wp2_with fail
        go_ret
        exact ⟨ret_int HX.out.symm, hbel.alloc hs _⟩
      · have HX := Lib.hid (firstIdx_miss HN.out HM.out t)
        have t2 := str_diff t
        clear t
        go_wp2_with fail
        go_roundw
        case rel => exact ⟨k + 1, by omega, by go_num, HX.out, hbel.alloc hs _⟩
        case measure => simp [intOf]; omega
    · have hk' : k = ps.length := by omega
      subst hk'
      have HX := Lib.hid (firstIdx_done HN.out (by simp))
      go_wp2_with fail
      go_ret
      exact ⟨ret_int HX.out.symm, hbel⟩

end Go.Proofs.Ytjnoihilhmhihaa
