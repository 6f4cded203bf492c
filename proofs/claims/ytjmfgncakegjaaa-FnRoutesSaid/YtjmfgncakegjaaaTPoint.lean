/-
  The contracts of the laws' helpers on Point and on slices of it: to, eq, sz, mark, held. Printed by a program of the claim's author.
-/
import Derived.Test.YtjmfgncakegjaaaModelC
import Derived.Test.YtjmfgncakegjaaaRows
import Derived.Test.YtjmfgncakegjaaaSlc
namespace Go.Proofs.Ytjmfgncakegjaaa
open Go.RowKit

set_option maxHeartbeats 400000 in
theorem toPoint_any (x0 : ByteArray) (x1 : Bool) (w : World) :
    Calls Try.prog 69 #[.agg #[.string x0, .bool x1]] w fun e w' => e = .returned (.agg #[.string x0, .bool x1]) ∧ Below w.heap.size w w' := by
  go_enter Try.func69, Try.ntmps69
  go_wp2
  refine bodyPost_ret (v := .agg #[.string x0, .bool x1]) (by simp [results, Try.results69, go_sem]) rfl ⟨rfl, ?_⟩
  repeat (first | exact Below.refl _ _ | assumption | refine Below.alloc ?_ (by simp <;> omega) _ | refine Below.setCell ?_ (by simp <;> omega) _ | refine Below.drew ?_)

set_option maxHeartbeats 400000 in
theorem eqPoint_same (x0 : ByteArray) (x1 : Bool) (w : World) :
    Calls Try.prog 71 #[.agg #[.string x0, .bool x1], .agg #[.string x0, .bool x1]] w
      fun e w' => e = .returned (.bool true) ∧ (w.alloc (.cells #[.string x0, .bool x1] 59)).alloc (.cells #[.string x0, .bool x1] 59) = w' := by
  go_enter Try.func71, Try.ntmps71
  go_wp2
  go_ret
  exact ⟨rfl, rfl⟩

set_option maxHeartbeats 400000 in
theorem szPoint_any (p : Point) (l : Int) (hn : p.name.size ≤ maxLen) (h0 : 0 ≤ l) (h1 : l ≤ 1048576) (w : World) :
    Calls Try.prog 68 #[.agg #[.string p.name, .bool p.wait], .int .i64 l] w (SzPost l p.name.size w) := by
  unfold maxLen at hn
  have hn' : p.name.size ≤ 9223372036854775807 := by omega
  clear hn
  by_cases h : l < (p.name.size : Int)
  all_goals
    go_enter Try.func68, Try.ntmps68
    go_wp2
    go_ret
  · exact ⟨-1, rfl, by omega, by omega, (Below.refl _ _).alloc (Nat.le_refl _) _⟩
  · exact ⟨l - p.name.size, rfl, by omega, by omega, (Below.refl _ _).alloc (Nat.le_refl _) _⟩

set_option maxHeartbeats 1000000 in
theorem szPointS_any (A : Option Addr) (c : Nat) (ps : List Point) (l : Int) (hn : ps.length ≤ 9223372036854775807) (h0 : 0 ≤ l) (h1 : l ≤ 1048576) (w : World) (hr : Rd w w.heap.size Point.at_ 2 A ps) (hwf : ∀ p ∈ ps, p.wf) :
    Calls Try.prog 44 #[.slice A ps.length c, .int .i64 l] w (SzPost l ps.length w) := by
  by_cases h : l < (ps.length : Int)
  · go_enter Try.func44, Try.ntmps44
    go_wp2_with fail
    go_ret
    exact ⟨-1, rfl, by omega, by omega, Below.refl _ _⟩
  have h2 : (ps.length : Int) ≤ l := by omega
  clear h
  go_enter Try.func44, Try.ntmps44
  go_wp2_with fail
  go_loopw [1, 5] (fun q i wr => ∃ k : Nat, k ≤ ps.length ∧ i = .int .i64 k ∧ (∃ r : Int, q = .int .i64 r ∧ 0 ≤ r ∧ r ≤ l) ∧ Below w.heap.size w wr) (fun _ i _ => ps.length - (intOf i).toNat)
  case atStart => exact ⟨0, Nat.zero_le _, rfl, ⟨_, rfl, by omega, by omega⟩, Below.refl _ _⟩
  case round =>
    obtain ⟨k, hk, rfl, ⟨r, rfl, hr0, hr1⟩, hbel⟩ := hrel
    have hs := hbel.size
    by_cases hlt : k < ps.length
    · obtain ⟨g, off, rfl, hg, hc⟩ := hr (by omega)
      obtain ⟨p, hp⟩ : ∃ p, ps[k]? = some p := ⟨_, List.getElem?_eq_getElem hlt⟩
      have c0 := (hbel.cell (p := ⟨g, off + k * 2 + 0, none⟩) hg).trans (hc k p hp 0 (by omega))
      have c1 := (hbel.cell (p := ⟨g, off + k * 2 + 1, none⟩) hg).trans (hc k p hp 1 (by omega))
      simp only [Point.at_, Nat.add_zero] at c0 c1
      have HC := Lib.hid hc
      have HR := Lib.hid hr
      have HP := Lib.hid hp
      clear hc hr hp
      go_wp2_with fail
      refine (szPoint_any p _ (hwf p (List.mem_of_getElem? HP.out)).1 (by omega) (by omega) _).mono ?_
      rintro e w1 ⟨r', rfl, hr2, hr3, hb1⟩
      by_cases hneg : r' < 0
      · go_wp2_with fail
        go_ret
        exact ⟨-1, rfl, by omega, by omega, hbel.trans (hb1.mono hs)⟩
      · go_wp2_with fail
        go_roundw
        case rel => exact ⟨k + 1, by omega, by go_num, ⟨r', rfl, by omega, by omega⟩, hbel.trans (hb1.mono hs)⟩
        case measure => simp [intOf]; omega
    · have hk' : k = ps.length := by omega
      subst hk'
      go_wp2_with fail
      go_ret
      exact ⟨r, rfl, by omega, by omega, hbel⟩


theorem infoPoint : (Try.prog.info? 59).map (fun i => (i.zero, i.size, i.bytes)) = some (some (.agg #[.string ⟨#[]⟩, .bool false]), 2, 24) := by kernel_rfl

set_option maxHeartbeats 2000000 in
theorem toPointS_any (A : Option Addr) (c : Nat) (ps : List Point) (w : World) (hr : Rd w w.heap.size Point.at_ 2 A ps) (hlen : ps.length ≤ 1048576) :
    Calls Try.prog 46 #[.slice A ps.length c] w fun e w' => e = .returned (.slice (some ⟨w.heap.size, 0, none⟩) ps.length ps.length) ∧ Has w' w.heap.size 59 Point.at_ 2 ps ∧ Below w.heap.size w w' := by
  obtain ⟨i0, hi, hz0, hz1, hz2⟩ := info_parts infoPoint
  have hmk := run_make_n (P := Try.prog) 28 59 i0 _ 2 24 Try.underlying28 hi hz0 hz1 hz2 ps.length (by omega) (by omega)
  clear hi hz0 hz1 hz2
  go_enter Try.func46, Try.ntmps46
  go_wp2_with fail
  go_loopw [4] (fun i wr => ∃ k : Nat, k ≤ ps.length ∧ i = .int .i64 k ∧ (∃ cs, Blk wr w.heap.size 59 cs ∧ Fill Point.at_ 2 ps k cs) ∧ Below w.heap.size w wr) (fun i _ => ps.length - (intOf i).toNat)
  case atStart => exact ⟨0, Nat.zero_le _, rfl, ⟨_, Blk.new _ _ _, Fill.zero (by rw [size_madeCells]; exact Nat.le_refl _)⟩, (Below.refl _ _).alloc (Nat.le_refl _) _⟩
  case round =>
    obtain ⟨k, hk, rfl, ⟨cs, hblk, hfill⟩, hbel⟩ := hrel
    by_cases hlt : k < ps.length
    · obtain ⟨g, off, rfl, hg, hc⟩ := hr (by omega)
      obtain ⟨p, hp⟩ : ∃ p, ps[k]? = some p := ⟨_, List.getElem?_eq_getElem hlt⟩
      have c0 := (hbel.cell (p := ⟨g, off + k * 2 + 0, none⟩) hg).trans (hc k p hp 0 (by omega))
      have c1 := (hbel.cell (p := ⟨g, off + k * 2 + 1, none⟩) hg).trans (hc k p hp 1 (by omega))
      simp only [Point.at_, Nat.add_zero] at c0 c1
      obtain ⟨z0, e0⟩ := hfill.room hlt 0 (by omega)
      obtain ⟨z1, e1⟩ := hfill.room hlt 1 (by omega)
      have HC := Lib.hid hc
      have HR := Lib.hid hr
      clear hc hr
      go_wp2_with fail
      refine (toPoint_any _ _ _).mono ?_
      rintro e w1 ⟨rfl, hb⟩
      have hb1 := hblk.next hb
      have d0 := (hb1.cell (k * 2 + 0)).trans e0
      have d1 := (hb1.cell (k * 2 + 1)).trans e1
      have f0 := hb1.frozen (k * 2)
      have f1 := hb1.frozen (k * 2 + 1)
      simp only [Nat.add_zero] at d0
      clear c0 c1 e0 e1
      have hs := hbel.size
      have hw := hblk.lt
      go_wp2_with fail
      go_roundw
      case rel =>
        refine ⟨k + 1, by omega, by go_num, ⟨_, ((hb1.set_ _ _).set_ _ _), hfill.set_ hp [.string p.name, .bool p.wait] rfl ?_⟩, ?_⟩
        · intro j hj
          match j, hj with
          | 0, _ => rfl
          | 1, _ => rfl
        · exact (((hbel.trans (hb.mono hs)).setCell (Nat.le_refl _) _).setCell (Nat.le_refl _) _)
      case measure => simp [intOf]; omega
    · have hk' : k = ps.length := by omega
      subst hk'
      go_wp2_with fail
      go_ret
      exact ⟨rfl, ⟨cs, hblk, hfill⟩, hbel⟩

set_option maxHeartbeats 2000000 in
theorem eqPointS_same (A A' : Option Addr) (c c' : Nat) (ps : List Point) (w : World) (hr : Rd w w.heap.size Point.at_ 2 A ps) (hr' : Rd w w.heap.size Point.at_ 2 A' ps) (hlen : ps.length ≤ 1048576) :
    Calls Try.prog 48 #[.slice A ps.length c, .slice A' ps.length c'] w fun e w' => e = .returned (.bool true) ∧ Below w.heap.size w w' := by
  go_enter Try.func48, Try.ntmps48
  go_wp2_with fail
  go_loopw [5] (fun i wr => ∃ k : Nat, k ≤ ps.length ∧ i = .int .i64 k ∧ Below w.heap.size w wr) (fun i _ => ps.length - (intOf i).toNat)
  case atStart => exact ⟨0, Nat.zero_le _, rfl, Below.refl _ _⟩
  case round =>
    obtain ⟨k, hk, rfl, hbel⟩ := hrel
    by_cases hlt : k < ps.length
    · obtain ⟨g, off, rfl, hg, hc⟩ := hr (by omega)
      obtain ⟨g', off', rfl, hg', hc'⟩ := hr' (by omega)
      obtain ⟨p, hp⟩ : ∃ p, ps[k]? = some p := ⟨_, List.getElem?_eq_getElem hlt⟩
      have c0 := (hbel.cell (p := ⟨g, off + k * 2 + 0, none⟩) hg).trans (hc k p hp 0 (by omega))
      have c1 := (hbel.cell (p := ⟨g, off + k * 2 + 1, none⟩) hg).trans (hc k p hp 1 (by omega))
      have d0 := (hbel.cell (p := ⟨g', off' + k * 2 + 0, none⟩) hg').trans (hc' k p hp 0 (by omega))
      have d1 := (hbel.cell (p := ⟨g', off' + k * 2 + 1, none⟩) hg').trans (hc' k p hp 1 (by omega))
      simp only [Point.at_, Nat.add_zero] at c0 c1 d0 d1
      have hk0 : (0 : Int) ≤ (k : Int) := Int.natCast_nonneg _
      have hk1 : (k : Int) < (ps.length : Int) := by omega
      have hs := hbel.size
      have HC := Lib.hid hc
      have HR := Lib.hid hr
      have HC' := Lib.hid hc'
      have HR' := Lib.hid hr'
      clear hc hr hc' hr'
      go_wp2_with fail
      go_region_held3 (fun w' => w'.cell? ⟨g, off + k * 2, none⟩ = some (.string p.name) ∧ w'.cell? ⟨g, off + k * 2 + 1, none⟩ = some (.bool p.wait) ∧ w'.cell? ⟨g', off' + k * 2, none⟩ = some (.string p.name) ∧ w'.cell? ⟨g', off' + k * 2 + 1, none⟩ = some (.bool p.wait)) (go_keep)
        (first | (go_at_call 71; refine (eqPoint_same _ _ _).mono ?_; rintro e w' ⟨rfl, rfl⟩))
      go_wp2_with fail
      go_roundw
      case rel =>
        refine ⟨k + 1, by omega, by go_num, ?_⟩
        exact ((hbel.drew.alloc (by simpa using hs) _).alloc (by simp; omega) _)
      case measure => simp [intOf]; omega
    · have hk' : k = ps.length := by omega
      subst hk'
      go_wp2_with fail
      go_ret
      exact ⟨rfl, hbel⟩

end Go.Proofs.Ytjmfgncakegjaaa
