/-
  The contracts of the laws' helpers on Ship and on slices of it: to, eq, sz, mark, held. Printed by a program of the claim's author.
-/
import Derived.Test.YtjnoihilhmhihaaModelS
import Derived.Test.YtjnoihilhmhihaaRows
import Derived.Test.YtjnoihilhmhihaaSlc
namespace Go.Proofs.Ytjnoihilhmhihaa
open Go.RowKit

set_option maxHeartbeats 400000 in
theorem toShip_any (x0 : ByteArray) (x1 : Int) (x2 : Int) (x3 : Int) (x4 : Int) (x5 : Bool) (w : World) :
    Calls Try.prog 11 #[.agg #[.string x0, .int .i64 x1, .int .i64 x2, .int .i64 x3, .int .i64 x4, .bool x5]] w fun e w' => e = .returned (.agg #[.string x0, .int .i64 x1, .int .i64 x2, .int .i64 x3, .int .i64 x4, .bool x5]) ∧ Below w.heap.size w w' := by
  go_enter Try.func11, Try.ntmps11
  go_wp2
  refine bodyPost_ret (v := .agg #[.string x0, .int .i64 x1, .int .i64 x2, .int .i64 x3, .int .i64 x4, .bool x5]) (by simp [results, Try.results11, go_sem]) rfl ⟨rfl, ?_⟩
  repeat (first | exact Below.refl _ _ | assumption | refine Below.alloc ?_ (by simp <;> omega) _ | refine Below.setCell ?_ (by simp <;> omega) _ | refine Below.drew ?_)

set_option maxHeartbeats 400000 in
theorem eqShip_same (x0 : ByteArray) (x1 : Int) (x2 : Int) (x3 : Int) (x4 : Int) (x5 : Bool) (w : World) :
    Calls Try.prog 36 #[.agg #[.string x0, .int .i64 x1, .int .i64 x2, .int .i64 x3, .int .i64 x4, .bool x5], .agg #[.string x0, .int .i64 x1, .int .i64 x2, .int .i64 x3, .int .i64 x4, .bool x5]] w
      fun e w' => e = .returned (.bool true) ∧ (w.alloc (.cells #[.string x0, .int .i64 x1, .int .i64 x2, .int .i64 x3, .int .i64 x4, .bool x5] 26)).alloc (.cells #[.string x0, .int .i64 x1, .int .i64 x2, .int .i64 x3, .int .i64 x4, .bool x5] 26) = w' := by
  go_enter Try.func36, Try.ntmps36
  go_wp2
  go_ret
  exact ⟨rfl, rfl⟩

set_option maxHeartbeats 400000 in
theorem szShip_any (p : Ship) (l : Int) (hn : p.name.size ≤ maxLen) (h0 : 0 ≤ l) (h1 : l ≤ 1048576) (w : World) :
    Calls Try.prog 9 #[.agg #[.string p.name, .int .i64 p.len, .int .i64 p.draught, .int .i64 p.line, .int .i64 p.tugs, .bool p.slow], .int .i64 l] w (SzPost l p.name.size w) := by
  unfold maxLen at hn
  have hn' : p.name.size ≤ 9223372036854775807 := by omega
  clear hn
  by_cases h : l < (p.name.size : Int)
  all_goals
    go_enter Try.func9, Try.ntmps9
    go_wp2
    go_ret
  · exact ⟨-1, rfl, by omega, by omega, (Below.refl _ _).alloc (Nat.le_refl _) _⟩
  · exact ⟨l - p.name.size, rfl, by omega, by omega, (Below.refl _ _).alloc (Nat.le_refl _) _⟩

set_option maxHeartbeats 1000000 in
theorem szShipS_any (A : Option Addr) (c : Nat) (ps : List Ship) (l : Int) (hn : ps.length ≤ 9223372036854775807) (h0 : 0 ≤ l) (h1 : l ≤ 1048576) (w : World) (hr : Rd w w.heap.size Ship.at_ 6 A ps) (hwf : ∀ p ∈ ps, p.wf) :
    Calls Try.prog 15 #[.slice A ps.length c, .int .i64 l] w (SzPost l ps.length w) := by
  by_cases h : l < (ps.length : Int)
  · go_enter Try.func15, Try.ntmps15
    go_wp2_with fail
    go_ret
    exact ⟨-1, rfl, by omega, by omega, Below.refl _ _⟩
  have h2 : (ps.length : Int) ≤ l := by omega
  clear h
  go_enter Try.func15, Try.ntmps15
  go_wp2_with fail
  go_loopw [1, 5] (fun q i wr => ∃ k : Nat, k ≤ ps.length ∧ i = .int .i64 k ∧ (∃ r : Int, q = .int .i64 r ∧ 0 ≤ r ∧ r ≤ l) ∧ Below w.heap.size w wr) (fun _ i _ => ps.length - (intOf i).toNat)
  case atStart => exact ⟨0, Nat.zero_le _, rfl, ⟨_, rfl, by omega, by omega⟩, Below.refl _ _⟩
  case round =>
    obtain ⟨k, hk, rfl, ⟨r, rfl, hr0, hr1⟩, hbel⟩ := hrel
    have hs := hbel.size
    by_cases hlt : k < ps.length
    · obtain ⟨g, off, rfl, hg, hc⟩ := hr (by omega)
      obtain ⟨p, hp⟩ : ∃ p, ps[k]? = some p := ⟨_, List.getElem?_eq_getElem hlt⟩
      have c0 := (hbel.cell (p := ⟨g, off + k * 6 + 0, none⟩) hg).trans (hc k p hp 0 (by omega))
      have c1 := (hbel.cell (p := ⟨g, off + k * 6 + 1, none⟩) hg).trans (hc k p hp 1 (by omega))
      have c2 := (hbel.cell (p := ⟨g, off + k * 6 + 2, none⟩) hg).trans (hc k p hp 2 (by omega))
      have c3 := (hbel.cell (p := ⟨g, off + k * 6 + 3, none⟩) hg).trans (hc k p hp 3 (by omega))
      have c4 := (hbel.cell (p := ⟨g, off + k * 6 + 4, none⟩) hg).trans (hc k p hp 4 (by omega))
      have c5 := (hbel.cell (p := ⟨g, off + k * 6 + 5, none⟩) hg).trans (hc k p hp 5 (by omega))
      simp only [Ship.at_, Nat.add_zero] at c0 c1 c2 c3 c4 c5
      have HC := Lib.hid hc
      have HR := Lib.hid hr
      have HP := Lib.hid hp
      clear hc hr hp
      go_wp2_with fail
      refine (szShip_any p _ (hwf p (List.mem_of_getElem? HP.out)).1 (by omega) (by omega) _).mono ?_
      rintro e w1 ⟨r', rfl, hr2, hr3, hb1⟩
      by_cases hneg : r' < 0
      · go_wp2_with fail
        go_ret
        exact ⟨-1, rfl, by omega, by omega, hbel.trans (hb1.mono hs)⟩
      · go_wp2_with fail
        go_roundw
        case rel => exact ⟨k + 1, by omega, by go_num, ⟨r', rfl, by omega, by omega⟩, hbel.trans (hb1.mono hs)⟩
        case measure => simp [intOf]; omega
    · have hk' : k = ps.length := by omega
      subst hk'
      go_wp2_with fail
      go_ret
      exact ⟨r, rfl, by omega, by omega, hbel⟩


theorem infoShip : (Try.prog.info? 26).map (fun i => (i.zero, i.size, i.bytes)) = some (some (.agg #[.string ⟨#[]⟩, .int .i64 0, .int .i64 0, .int .i64 0, .int .i64 0, .bool false]), 6, 56) := by kernel_rfl

set_option maxHeartbeats 2000000 in
theorem toShipS_any (A : Option Addr) (c : Nat) (ps : List Ship) (w : World) (hr : Rd w w.heap.size Ship.at_ 6 A ps) (hlen : ps.length ≤ 1048576) :
    Calls Try.prog 17 #[.slice A ps.length c] w fun e w' => e = .returned (.slice (some ⟨w.heap.size, 0, none⟩) ps.length ps.length) ∧ Has w' w.heap.size 26 Ship.at_ 6 ps ∧ Below w.heap.size w w' := by
  obtain ⟨i0, hi, hz0, hz1, hz2⟩ := info_parts infoShip
  have hmk := run_make_n (P := Try.prog) 33 26 i0 _ 6 56 Try.underlying33 hi hz0 hz1 hz2 ps.length (by omega) (by omega)
  clear hi hz0 hz1 hz2
  go_enter Try.func17, Try.ntmps17
  go_wp2_with fail
  go_loopw [4] (fun i wr => ∃ k : Nat, k ≤ ps.length ∧ i = .int .i64 k ∧ (∃ cs, Blk wr w.heap.size 26 cs ∧ Fill Ship.at_ 6 ps k cs) ∧ Below w.heap.size w wr) (fun i _ => ps.length - (intOf i).toNat)
  case atStart => exact ⟨0, Nat.zero_le _, rfl, ⟨_, Blk.new _ _ _, Fill.zero (by rw [size_madeCells]; exact Nat.le_refl _)⟩, (Below.refl _ _).alloc (Nat.le_refl _) _⟩
  case round =>
    obtain ⟨k, hk, rfl, ⟨cs, hblk, hfill⟩, hbel⟩ := hrel
    by_cases hlt : k < ps.length
    · obtain ⟨g, off, rfl, hg, hc⟩ := hr (by omega)
      obtain ⟨p, hp⟩ : ∃ p, ps[k]? = some p := ⟨_, List.getElem?_eq_getElem hlt⟩
      have c0 := (hbel.cell (p := ⟨g, off + k * 6 + 0, none⟩) hg).trans (hc k p hp 0 (by omega))
      have c1 := (hbel.cell (p := ⟨g, off + k * 6 + 1, none⟩) hg).trans (hc k p hp 1 (by omega))
      have c2 := (hbel.cell (p := ⟨g, off + k * 6 + 2, none⟩) hg).trans (hc k p hp 2 (by omega))
      have c3 := (hbel.cell (p := ⟨g, off + k * 6 + 3, none⟩) hg).trans (hc k p hp 3 (by omega))
      have c4 := (hbel.cell (p := ⟨g, off + k * 6 + 4, none⟩) hg).trans (hc k p hp 4 (by omega))
      have c5 := (hbel.cell (p := ⟨g, off + k * 6 + 5, none⟩) hg).trans (hc k p hp 5 (by omega))
      simp only [Ship.at_, Nat.add_zero] at c0 c1 c2 c3 c4 c5
      obtain ⟨z0, e0⟩ := hfill.room hlt 0 (by omega)
      obtain ⟨z1, e1⟩ := hfill.room hlt 1 (by omega)
      obtain ⟨z2, e2⟩ := hfill.room hlt 2 (by omega)
      obtain ⟨z3, e3⟩ := hfill.room hlt 3 (by omega)
      obtain ⟨z4, e4⟩ := hfill.room hlt 4 (by omega)
      obtain ⟨z5, e5⟩ := hfill.room hlt 5 (by omega)
      have HC := Lib.hid hc
      have HR := Lib.hid hr
      clear hc hr
      go_wp2_with fail
      refine (toShip_any _ _ _ _ _ _ _).mono ?_
      rintro e w1 ⟨rfl, hb⟩
      have hb1 := hblk.next hb
      have d0 := (hb1.cell (k * 6 + 0)).trans e0
      have d1 := (hb1.cell (k * 6 + 1)).trans e1
      have d2 := (hb1.cell (k * 6 + 2)).trans e2
      have d3 := (hb1.cell (k * 6 + 3)).trans e3
      have d4 := (hb1.cell (k * 6 + 4)).trans e4
      have d5 := (hb1.cell (k * 6 + 5)).trans e5
      have f0 := hb1.frozen (k * 6)
      have f1 := hb1.frozen (k * 6 + 1)
      have f2 := hb1.frozen (k * 6 + 2)
      have f3 := hb1.frozen (k * 6 + 3)
      have f4 := hb1.frozen (k * 6 + 4)
      have f5 := hb1.frozen (k * 6 + 5)
      simp only [Nat.add_zero] at d0
      clear c0 c1 c2 c3 c4 c5 e0 e1 e2 e3 e4 e5
      have hs := hbel.size
      have hw := hblk.lt
      go_wp2_with fail
      go_roundw
      case rel =>
        refine ⟨k + 1, by omega, by go_num, ⟨_, ((((((hb1.set_ _ _).set_ _ _).set_ _ _).set_ _ _).set_ _ _).set_ _ _), hfill.set_ hp [.string p.name, .int .i64 p.len, .int .i64 p.draught, .int .i64 p.line, .int .i64 p.tugs, .bool p.slow] rfl ?_⟩, ?_⟩
        · intro j hj
          match j, hj with
          | 0, _ => rfl
          | 1, _ => rfl
          | 2, _ => rfl
          | 3, _ => rfl
          | 4, _ => rfl
          | 5, _ => rfl
        · exact (((((((hbel.trans (hb.mono hs)).setCell (Nat.le_refl _) _).setCell (Nat.le_refl _) _).setCell (Nat.le_refl _) _).setCell (Nat.le_refl _) _).setCell (Nat.le_refl _) _).setCell (Nat.le_refl _) _)
      case measure => simp [intOf]; omega
    · have hk' : k = ps.length := by omega
      subst hk'
      go_wp2_with fail
      go_ret
      exact ⟨rfl, ⟨cs, hblk, hfill⟩, hbel⟩

set_option maxHeartbeats 2000000 in
theorem eqShipS_same (A A' : Option Addr) (c c' : Nat) (ps : List Ship) (w : World) (hr : Rd w w.heap.size Ship.at_ 6 A ps) (hr' : Rd w w.heap.size Ship.at_ 6 A' ps) (hlen : ps.length ≤ 1048576) :
    Calls Try.prog 19 #[.slice A ps.length c, .slice A' ps.length c'] w fun e w' => e = .returned (.bool true) ∧ Below w.heap.size w w' := by
  go_enter Try.func19, Try.ntmps19
  go_wp2_with fail
  go_loopw [5] (fun i wr => ∃ k : Nat, k ≤ ps.length ∧ i = .int .i64 k ∧ Below w.heap.size w wr) (fun i _ => ps.length - (intOf i).toNat)
  case atStart => exact ⟨0, Nat.zero_le _, rfl, Below.refl _ _⟩
  case round =>
    obtain ⟨k, hk, rfl, hbel⟩ := hrel
    by_cases hlt : k < ps.length
    · obtain ⟨g, off, rfl, hg, hc⟩ := hr (by omega)
      obtain ⟨g', off', rfl, hg', hc'⟩ := hr' (by omega)
      obtain ⟨p, hp⟩ : ∃ p, ps[k]? = some p := ⟨_, List.getElem?_eq_getElem hlt⟩
      have c0 := (hbel.cell (p := ⟨g, off + k * 6 + 0, none⟩) hg).trans (hc k p hp 0 (by omega))
      have c1 := (hbel.cell (p := ⟨g, off + k * 6 + 1, none⟩) hg).trans (hc k p hp 1 (by omega))
      have c2 := (hbel.cell (p := ⟨g, off + k * 6 + 2, none⟩) hg).trans (hc k p hp 2 (by omega))
      have c3 := (hbel.cell (p := ⟨g, off + k * 6 + 3, none⟩) hg).trans (hc k p hp 3 (by omega))
      have c4 := (hbel.cell (p := ⟨g, off + k * 6 + 4, none⟩) hg).trans (hc k p hp 4 (by omega))
      have c5 := (hbel.cell (p := ⟨g, off + k * 6 + 5, none⟩) hg).trans (hc k p hp 5 (by omega))
      have d0 := (hbel.cell (p := ⟨g', off' + k * 6 + 0, none⟩) hg').trans (hc' k p hp 0 (by omega))
      have d1 := (hbel.cell (p := ⟨g', off' + k * 6 + 1, none⟩) hg').trans (hc' k p hp 1 (by omega))
      have d2 := (hbel.cell (p := ⟨g', off' + k * 6 + 2, none⟩) hg').trans (hc' k p hp 2 (by omega))
      have d3 := (hbel.cell (p := ⟨g', off' + k * 6 + 3, none⟩) hg').trans (hc' k p hp 3 (by omega))
      have d4 := (hbel.cell (p := ⟨g', off' + k * 6 + 4, none⟩) hg').trans (hc' k p hp 4 (by omega))
      have d5 := (hbel.cell (p := ⟨g', off' + k * 6 + 5, none⟩) hg').trans (hc' k p hp 5 (by omega))
      simp only [Ship.at_, Nat.add_zero] at c0 c1 c2 c3 c4 c5 d0 d1 d2 d3 d4 d5
      have hk0 : (0 : Int) ≤ (k : Int) := Int.natCast_nonneg _
      have hk1 : (k : Int) < (ps.length : Int) := by omega
      have hs := hbel.size
      have HC := Lib.hid hc
      have HR := Lib.hid hr
      have HC' := Lib.hid hc'
      have HR' := Lib.hid hr'
      clear hc hr hc' hr'
      go_wp2_with fail
      go_region_held3 (fun w' => w'.cell? ⟨g, off + k * 6, none⟩ = some (.string p.name) ∧ w'.cell? ⟨g, off + k * 6 + 1, none⟩ = some (.int .i64 p.len) ∧ w'.cell? ⟨g, off + k * 6 + 2, none⟩ = some (.int .i64 p.draught) ∧ w'.cell? ⟨g, off + k * 6 + 3, none⟩ = some (.int .i64 p.line) ∧ w'.cell? ⟨g, off + k * 6 + 4, none⟩ = some (.int .i64 p.tugs) ∧ w'.cell? ⟨g, off + k * 6 + 5, none⟩ = some (.bool p.slow) ∧ w'.cell? ⟨g', off' + k * 6, none⟩ = some (.string p.name) ∧ w'.cell? ⟨g', off' + k * 6 + 1, none⟩ = some (.int .i64 p.len) ∧ w'.cell? ⟨g', off' + k * 6 + 2, none⟩ = some (.int .i64 p.draught) ∧ w'.cell? ⟨g', off' + k * 6 + 3, none⟩ = some (.int .i64 p.line) ∧ w'.cell? ⟨g', off' + k * 6 + 4, none⟩ = some (.int .i64 p.tugs) ∧ w'.cell? ⟨g', off' + k * 6 + 5, none⟩ = some (.bool p.slow)) (go_keep)
        (first | (go_at_call 36; refine (eqShip_same _ _ _ _ _ _ _).mono ?_; rintro e w' ⟨rfl, rfl⟩))
      go_wp2_with fail
      go_roundw
      case rel =>
        refine ⟨k + 1, by omega, by go_num, ?_⟩
        exact ((hbel.drew.alloc (by simpa using hs) _).alloc (by simp; omega) _)
      case measure => simp [intOf]; omega
    · have hk' : k = ps.length := by omega
      subst hk'
      go_wp2_with fail
      go_ret
      exact ⟨rfl, hbel⟩

end Go.Proofs.Ytjnoihilhmhihaa
