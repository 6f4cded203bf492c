/-
  The contracts of the laws' helpers on Segment and on slices of it: to, eq, sz, mark, held. Printed by a program of the claim's author.
-/
import Derived.Test.YtjmfgncakegjaaaModelC
import Derived.Test.YtjmfgncakegjaaaRows
import Derived.Test.YtjmfgncakegjaaaSlc
namespace Go.Proofs.Ytjmfgncakegjaaa
open Go.RowKit

set_option maxHeartbeats 400000 in
theorem toSegment_any (x0 : Int) (x1 : Int) (x2 : Int) (x3 : Int) (x4 : Bool) (w : World) :
    Calls Try.prog 70 #[.agg #[.int .i64 x0, .int .i64 x1, .int .i64 x2, .int .i64 x3, .bool x4]] w fun e w' => e = .returned (.agg #[.int .i64 x0, .int .i64 x1, .int .i64 x2, .int .i64 x3, .bool x4]) ∧ Below w.heap.size w w' := by
  go_enter Try.func70, Try.ntmps70
  go_wp2
  refine bodyPost_ret (v := .agg #[.int .i64 x0, .int .i64 x1, .int .i64 x2, .int .i64 x3, .bool x4]) (by simp [results, Try.results70, go_sem]) rfl ⟨rfl, ?_⟩
  repeat (first | exact Below.refl _ _ | assumption | refine Below.alloc ?_ (by simp <;> omega) _ | refine Below.setCell ?_ (by simp <;> omega) _ | refine Below.drew ?_)

set_option maxHeartbeats 400000 in
theorem eqSegment_same (x0 : Int) (x1 : Int) (x2 : Int) (x3 : Int) (x4 : Bool) (w : World) :
    Calls Try.prog 72 #[.agg #[.int .i64 x0, .int .i64 x1, .int .i64 x2, .int .i64 x3, .bool x4], .agg #[.int .i64 x0, .int .i64 x1, .int .i64 x2, .int .i64 x3, .bool x4]] w
      fun e w' => e = .returned (.bool true) ∧ (w.alloc (.cells #[.int .i64 x0, .int .i64 x1, .int .i64 x2, .int .i64 x3, .bool x4] 69)).alloc (.cells #[.int .i64 x0, .int .i64 x1, .int .i64 x2, .int .i64 x3, .bool x4] 69) = w' := by
  go_enter Try.func72, Try.ntmps72
  go_wp2
  go_ret
  exact ⟨rfl, rfl⟩

set_option maxHeartbeats 400000 in
theorem szSegmentS_any (A : Option Addr) (n c : Nat) (l : Int) (hn : n ≤ 9223372036854775807) (h0 : 0 ≤ l) (h1 : l ≤ 1048576) (w : World) :
    Calls Try.prog 45 #[.slice A n c, .int .i64 l] w (SzPost l n w) := by
  by_cases h : l < (n : Int)
  all_goals
    go_enter Try.func45, Try.ntmps45
    go_wp2
    go_ret
  · exact ⟨-1, rfl, by omega, by omega, Below.refl _ _⟩
  · exact ⟨l - n, rfl, by omega, by omega, Below.refl _ _⟩

theorem infoSegment : (Try.prog.info? 69).map (fun i => (i.zero, i.size, i.bytes)) = some (some (.agg #[.int .i64 0, .int .i64 0, .int .i64 0, .int .i64 0, .bool false]), 5, 40) := by kernel_rfl

set_option maxHeartbeats 2000000 in
theorem toSegmentS_any (A : Option Addr) (c : Nat) (ps : List Segment) (w : World) (hr : Rd w w.heap.size Segment.at_ 5 A ps) (hlen : ps.length ≤ 1048576) :
    Calls Try.prog 47 #[.slice A ps.length c] w fun e w' => e = .returned (.slice (some ⟨w.heap.size, 0, none⟩) ps.length ps.length) ∧ Has w' w.heap.size 69 Segment.at_ 5 ps ∧ Below w.heap.size w w' := by
  obtain ⟨i0, hi, hz0, hz1, hz2⟩ := info_parts infoSegment
  have hmk := run_make_n (P := Try.prog) 29 69 i0 _ 5 40 Try.underlying29 hi hz0 hz1 hz2 ps.length (by omega) (by omega)
  clear hi hz0 hz1 hz2
  go_enter Try.func47, Try.ntmps47
  go_wp2_with fail
  go_loopw [4] (fun i wr => ∃ k : Nat, k ≤ ps.length ∧ i = .int .i64 k ∧ (∃ cs, Blk wr w.heap.size 69 cs ∧ Fill Segment.at_ 5 ps k cs) ∧ Below w.heap.size w wr) (fun i _ => ps.length - (intOf i).toNat)
  case atStart => exact ⟨0, Nat.zero_le _, rfl, ⟨_, Blk.new _ _ _, Fill.zero (by rw [size_madeCells]; exact Nat.le_refl _)⟩, (Below.refl _ _).alloc (Nat.le_refl _) _⟩
  case round =>
    obtain ⟨k, hk, rfl, ⟨cs, hblk, hfill⟩, hbel⟩ := hrel
    by_cases hlt : k < ps.length
    · obtain ⟨g, off, rfl, hg, hc⟩ := hr (by omega)
      obtain ⟨p, hp⟩ : ∃ p, ps[k]? = some p := ⟨_, List.getElem?_eq_getElem hlt⟩
      have c0 := (hbel.cell (p := ⟨g, off + k * 5 + 0, none⟩) hg).trans (hc k p hp 0 (by omega))
      have c1 := (hbel.cell (p := ⟨g, off + k * 5 + 1, none⟩) hg).trans (hc k p hp 1 (by omega))
      have c2 := (hbel.cell (p := ⟨g, off + k * 5 + 2, none⟩) hg).trans (hc k p hp 2 (by omega))
      have c3 := (hbel.cell (p := ⟨g, off + k * 5 + 3, none⟩) hg).trans (hc k p hp 3 (by omega))
      have c4 := (hbel.cell (p := ⟨g, off + k * 5 + 4, none⟩) hg).trans (hc k p hp 4 (by omega))
      simp only [Segment.at_, Nat.add_zero] at c0 c1 c2 c3 c4
      obtain ⟨z0, e0⟩ := hfill.room hlt 0 (by omega)
      obtain ⟨z1, e1⟩ := hfill.room hlt 1 (by omega)
      obtain ⟨z2, e2⟩ := hfill.room hlt 2 (by omega)
      obtain ⟨z3, e3⟩ := hfill.room hlt 3 (by omega)
      obtain ⟨z4, e4⟩ := hfill.room hlt 4 (by omega)
      have HC := Lib.hid hc
      have HR := Lib.hid hr
      clear hc hr
      go_wp2_with fail
      refine (toSegment_any _ _ _ _ _ _).mono ?_
      rintro e w1 ⟨rfl, hb⟩
      have hb1 := hblk.next hb
      have d0 := (hb1.cell (k * 5 + 0)).trans e0
      have d1 := (hb1.cell (k * 5 + 1)).trans e1
      have d2 := (hb1.cell (k * 5 + 2)).trans e2
      have d3 := (hb1.cell (k * 5 + 3)).trans e3
      have d4 := (hb1.cell (k * 5 + 4)).trans e4
      have f0 := hb1.frozen (k * 5)
      have f1 := hb1.frozen (k * 5 + 1)
      have f2 := hb1.frozen (k * 5 + 2)
      have f3 := hb1.frozen (k * 5 + 3)
      have f4 := hb1.frozen (k * 5 + 4)
      simp only [Nat.add_zero] at d0
      clear c0 c1 c2 c3 c4 e0 e1 e2 e3 e4
      have hs := hbel.size
      have hw := hblk.lt
      go_wp2_with fail
      go_roundw
      case rel =>
        refine ⟨k + 1, by omega, by go_num, ⟨_, (((((hb1.set_ _ _).set_ _ _).set_ _ _).set_ _ _).set_ _ _), hfill.set_ hp [.int .i64 p.a, .int .i64 p.b, .int .i64 p.depth, .int .i64 p.mins, .bool p.meet] rfl ?_⟩, ?_⟩
        · intro j hj
          match j, hj with
          | 0, _ => rfl
          | 1, _ => rfl
          | 2, _ => rfl
          | 3, _ => rfl
          | 4, _ => rfl
        · exact ((((((hbel.trans (hb.mono hs)).setCell (Nat.le_refl _) _).setCell (Nat.le_refl _) _).setCell (Nat.le_refl _) _).setCell (Nat.le_refl _) _).setCell (Nat.le_refl _) _)
      case measure => simp [intOf]; omega
    · have hk' : k = ps.length := by omega
      subst hk'
      go_wp2_with fail
      go_ret
      exact ⟨rfl, ⟨cs, hblk, hfill⟩, hbel⟩

set_option maxHeartbeats 2000000 in
theorem eqSegmentS_same (A A' : Option Addr) (c c' : Nat) (ps : List Segment) (w : World) (hr : Rd w w.heap.size Segment.at_ 5 A ps) (hr' : Rd w w.heap.size Segment.at_ 5 A' ps) (hlen : ps.length ≤ 1048576) :
    Calls Try.prog 49 #[.slice A ps.length c, .slice A' ps.length c'] w fun e w' => e = .returned (.bool true) ∧ Below w.heap.size w w' := by
  go_enter Try.func49, Try.ntmps49
  go_wp2_with fail
  go_loopw [5] (fun i wr => ∃ k : Nat, k ≤ ps.length ∧ i = .int .i64 k ∧ Below w.heap.size w wr) (fun i _ => ps.length - (intOf i).toNat)
  case atStart => exact ⟨0, Nat.zero_le _, rfl, Below.refl _ _⟩
  case round =>
    obtain ⟨k, hk, rfl, hbel⟩ := hrel
    by_cases hlt : k < ps.length
    · obtain ⟨g, off, rfl, hg, hc⟩ := hr (by omega)
      obtain ⟨g', off', rfl, hg', hc'⟩ := hr' (by omega)
      obtain ⟨p, hp⟩ : ∃ p, ps[k]? = some p := ⟨_, List.getElem?_eq_getElem hlt⟩
      have c0 := (hbel.cell (p := ⟨g, off + k * 5 + 0, none⟩) hg).trans (hc k p hp 0 (by omega))
      have c1 := (hbel.cell (p := ⟨g, off + k * 5 + 1, none⟩) hg).trans (hc k p hp 1 (by omega))
      have c2 := (hbel.cell (p := ⟨g, off + k * 5 + 2, none⟩) hg).trans (hc k p hp 2 (by omega))
      have c3 := (hbel.cell (p := ⟨g, off + k * 5 + 3, none⟩) hg).trans (hc k p hp 3 (by omega))
      have c4 := (hbel.cell (p := ⟨g, off + k * 5 + 4, none⟩) hg).trans (hc k p hp 4 (by omega))
      have d0 := (hbel.cell (p := ⟨g', off' + k * 5 + 0, none⟩) hg').trans (hc' k p hp 0 (by omega))
      have d1 := (hbel.cell (p := ⟨g', off' + k * 5 + 1, none⟩) hg').trans (hc' k p hp 1 (by omega))
      have d2 := (hbel.cell (p := ⟨g', off' + k * 5 + 2, none⟩) hg').trans (hc' k p hp 2 (by omega))
      have d3 := (hbel.cell (p := ⟨g', off' + k * 5 + 3, none⟩) hg').trans (hc' k p hp 3 (by omega))
      have d4 := (hbel.cell (p := ⟨g', off' + k * 5 + 4, none⟩) hg').trans (hc' k p hp 4 (by omega))
      simp only [Segment.at_, Nat.add_zero] at c0 c1 c2 c3 c4 d0 d1 d2 d3 d4
      have hk0 : (0 : Int) ≤ (k : Int) := Int.natCast_nonneg _
      have hk1 : (k : Int) < (ps.length : Int) := by omega
      have hs := hbel.size
      have HC := Lib.hid hc
      have HR := Lib.hid hr
      have HC' := Lib.hid hc'
      have HR' := Lib.hid hr'
      clear hc hr hc' hr'
      go_wp2_with fail
      go_region_held3 (fun w' => w'.cell? ⟨g, off + k * 5, none⟩ = some (.int .i64 p.a) ∧ w'.cell? ⟨g, off + k * 5 + 1, none⟩ = some (.int .i64 p.b) ∧ w'.cell? ⟨g, off + k * 5 + 2, none⟩ = some (.int .i64 p.depth) ∧ w'.cell? ⟨g, off + k * 5 + 3, none⟩ = some (.int .i64 p.mins) ∧ w'.cell? ⟨g, off + k * 5 + 4, none⟩ = some (.bool p.meet) ∧ w'.cell? ⟨g', off' + k * 5, none⟩ = some (.int .i64 p.a) ∧ w'.cell? ⟨g', off' + k * 5 + 1, none⟩ = some (.int .i64 p.b) ∧ w'.cell? ⟨g', off' + k * 5 + 2, none⟩ = some (.int .i64 p.depth) ∧ w'.cell? ⟨g', off' + k * 5 + 3, none⟩ = some (.int .i64 p.mins) ∧ w'.cell? ⟨g', off' + k * 5 + 4, none⟩ = some (.bool p.meet)) (go_keep)
        (first | (go_at_call 72; refine (eqSegment_same _ _ _ _ _ _).mono ?_; rintro e w' ⟨rfl, rfl⟩))
      go_wp2_with fail
      go_roundw
      case rel =>
        refine ⟨k + 1, by omega, by go_num, ?_⟩
        exact ((hbel.drew.alloc (by simpa using hs) _).alloc (by simp; omega) _)
      case measure => simp [intOf]; omega
    · have hk' : k = ps.length := by omega
      subst hk'
      go_wp2_with fail
      go_ret
      exact ⟨rfl, hbel⟩

end Go.Proofs.Ytjmfgncakegjaaa
