/-
  The contracts of the laws' helpers on Surge and on slices of it: to, eq, sz, mark, held. Printed by a program of the claim's author.
-/
import Derived.Test.YtmhiohijpnmcpaaModelB
import Derived.Test.YtmhiohijpnmcpaaRows
import Derived.Test.YtmhiohijpnmcpaaSlc
namespace Go.Proofs.Ytmhiohijpnmcpaa
open Go.RowKit

set_option maxHeartbeats 400000 in
theorem toSurge_any (x0 : Int) (x1 : Int) (x2 : Int) (w : World) :
    Calls Try.prog 87 #[.agg #[.int .i64 x0, .int .i64 x1, .int .i64 x2]] w fun e w' => e = .returned (.agg #[.int .i64 x0, .int .i64 x1, .int .i64 x2]) ∧ Below w.heap.size w w' := by
  go_enter Try.func87, Try.ntmps87
  go_wp2
  refine bodyPost_ret (v := .agg #[.int .i64 x0, .int .i64 x1, .int .i64 x2]) (by simp [results, Try.results87, go_sem]) rfl ⟨rfl, ?_⟩
  repeat (first | exact Below.refl _ _ | assumption | refine Below.alloc ?_ (by simp <;> omega) _ | refine Below.setCell ?_ (by simp <;> omega) _ | refine Below.drew ?_)

set_option maxHeartbeats 400000 in
theorem eqSurge_same (x0 : Int) (x1 : Int) (x2 : Int) (w : World) :
    Calls Try.prog 90 #[.agg #[.int .i64 x0, .int .i64 x1, .int .i64 x2], .agg #[.int .i64 x0, .int .i64 x1, .int .i64 x2]] w
      fun e w' => e = .returned (.bool true) ∧ (w.alloc (.cells #[.int .i64 x0, .int .i64 x1, .int .i64 x2] 66)).alloc (.cells #[.int .i64 x0, .int .i64 x1, .int .i64 x2] 66) = w' := by
  go_enter Try.func90, Try.ntmps90
  go_wp2
  go_ret
  exact ⟨rfl, rfl⟩

set_option maxHeartbeats 400000 in
theorem szSurgeS_any (A : Option Addr) (n c : Nat) (l : Int) (hn : n ≤ 9223372036854775807) (h0 : 0 ≤ l) (h1 : l ≤ 1048576) (w : World) :
    Calls Try.prog 47 #[.slice A n c, .int .i64 l] w (SzPost l n w) := by
  by_cases h : l < (n : Int)
  all_goals
    go_enter Try.func47, Try.ntmps47
    go_wp2
    go_ret
  · exact ⟨-1, rfl, by omega, by omega, Below.refl _ _⟩
  · exact ⟨l - n, rfl, by omega, by omega, Below.refl _ _⟩

theorem infoSurge : (Try.prog.info? 66).map (fun i => (i.zero, i.size, i.bytes)) = some (some (.agg #[.int .i64 0, .int .i64 0, .int .i64 0]), 3, 24) := by kernel_rfl

set_option maxHeartbeats 2000000 in
theorem toSurgeS_any (A : Option Addr) (c : Nat) (ps : List Surge) (w : World) (hr : Rd w w.heap.size Surge.at_ 3 A ps) (hlen : ps.length ≤ 1048576) :
    Calls Try.prog 52 #[.slice A ps.length c] w fun e w' => e = .returned (.slice (some ⟨w.heap.size, 0, none⟩) ps.length ps.length) ∧ Has w' w.heap.size 66 Surge.at_ 3 ps ∧ Below w.heap.size w w' := by
  obtain ⟨i0, hi, hz0, hz1, hz2⟩ := info_parts infoSurge
  have hmk := run_make_n (P := Try.prog) 33 66 i0 _ 3 24 Try.underlying33 hi hz0 hz1 hz2 ps.length (by omega) (by omega)
  clear hi hz0 hz1 hz2
  go_enter Try.func52, Try.ntmps52
  go_wp2_with fail
  go_loopw [4] (fun i wr => ∃ k : Nat, k ≤ ps.length ∧ i = .int .i64 k ∧ (∃ cs, Blk wr w.heap.size 66 cs ∧ Fill Surge.at_ 3 ps k cs) ∧ Below w.heap.size w wr) (fun i _ => ps.length - (intOf i).toNat)
  case atStart => exact ⟨0, Nat.zero_le _, rfl, ⟨_, Blk.new _ _ _, Fill.zero (by rw [size_madeCells]; exact Nat.le_refl _)⟩, (Below.refl _ _).alloc (Nat.le_refl _) _⟩
  case round =>
    obtain ⟨k, hk, rfl, ⟨cs, hblk, hfill⟩, hbel⟩ := hrel
    by_cases hlt : k < ps.length
    · obtain ⟨g, off, rfl, hg, hc⟩ := hr (by omega)
      obtain ⟨p, hp⟩ : ∃ p, ps[k]? = some p := ⟨_, List.getElem?_eq_getElem hlt⟩
      have c0 := (hbel.cell (p := ⟨g, off + k * 3 + 0, none⟩) hg).trans (hc k p hp 0 (by omega))
      have c1 := (hbel.cell (p := ⟨g, off + k * 3 + 1, none⟩) hg).trans (hc k p hp 1 (by omega))
      have c2 := (hbel.cell (p := ⟨g, off + k * 3 + 2, none⟩) hg).trans (hc k p hp 2 (by omega))
      simp only [Surge.at_, Nat.add_zero] at c0 c1 c2
      obtain ⟨z0, e0⟩ := hfill.room hlt 0 (by omega)
      obtain ⟨z1, e1⟩ := hfill.room hlt 1 (by omega)
      obtain ⟨z2, e2⟩ := hfill.room hlt 2 (by omega)
      have HC := Lib.hid hc
      have HR := Lib.hid hr
      clear hc hr
      go_wp2_with fail
      refine (toSurge_any _ _ _ _).mono ?_
      rintro e w1 ⟨rfl, hb⟩
      have hb1 := hblk.next hb
      have d0 := (hb1.cell (k * 3 + 0)).trans e0
      have d1 := (hb1.cell (k * 3 + 1)).trans e1
      have d2 := (hb1.cell (k * 3 + 2)).trans e2
      have f0 := hb1.frozen (k * 3)
      have f1 := hb1.frozen (k * 3 + 1)
      have f2 := hb1.frozen (k * 3 + 2)
      simp only [Nat.add_zero] at d0
      clear c0 c1 c2 e0 e1 e2
      have hs := hbel.size
      have hw := hblk.lt
      go_wp2_with fail
      go_roundw
      case rel =>
        refine ⟨k + 1, by omega, by go_num, ⟨_, (((hb1.set_ _ _).set_ _ _).set_ _ _), hfill.set_ hp [.int .i64 p.frm, .int .i64 p.low, .int .i64 p.high] rfl ?_⟩, ?_⟩
        · intro j hj
          match j, hj with
          | 0, _ => rfl
          | 1, _ => rfl
          | 2, _ => rfl
        · exact ((((hbel.trans (hb.mono hs)).setCell (Nat.le_refl _) _).setCell (Nat.le_refl _) _).setCell (Nat.le_refl _) _)
      case measure => simp [intOf]; omega
    · have hk' : k = ps.length := by omega
      subst hk'
      go_wp2_with fail
      go_ret
      exact ⟨rfl, ⟨cs, hblk, hfill⟩, hbel⟩

set_option maxHeartbeats 2000000 in
theorem eqSurgeS_same (A A' : Option Addr) (c c' : Nat) (ps : List Surge) (w : World) (hr : Rd w w.heap.size Surge.at_ 3 A ps) (hr' : Rd w w.heap.size Surge.at_ 3 A' ps) (hlen : ps.length ≤ 1048576) :
    Calls Try.prog 57 #[.slice A ps.length c, .slice A' ps.length c'] w fun e w' => e = .returned (.bool true) ∧ Below w.heap.size w w' := by
  go_enter Try.func57, Try.ntmps57
  go_wp2_with fail
  go_loopw [5] (fun i wr => ∃ k : Nat, k ≤ ps.length ∧ i = .int .i64 k ∧ Below w.heap.size w wr) (fun i _ => ps.length - (intOf i).toNat)
  case atStart => exact ⟨0, Nat.zero_le _, rfl, Below.refl _ _⟩
  case round =>
    obtain ⟨k, hk, rfl, hbel⟩ := hrel
    by_cases hlt : k < ps.length
    · obtain ⟨g, off, rfl, hg, hc⟩ := hr (by omega)
      obtain ⟨g', off', rfl, hg', hc'⟩ := hr' (by omega)
      obtain ⟨p, hp⟩ : ∃ p, ps[k]? = some p := ⟨_, List.getElem?_eq_getElem hlt⟩
      have c0 := (hbel.cell (p := ⟨g, off + k * 3 + 0, none⟩) hg).trans (hc k p hp 0 (by omega))
      have c1 := (hbel.cell (p := ⟨g, off + k * 3 + 1, none⟩) hg).trans (hc k p hp 1 (by omega))
      have c2 := (hbel.cell (p := ⟨g, off + k * 3 + 2, none⟩) hg).trans (hc k p hp 2 (by omega))
      have d0 := (hbel.cell (p := ⟨g', off' + k * 3 + 0, none⟩) hg').trans (hc' k p hp 0 (by omega))
      have d1 := (hbel.cell (p := ⟨g', off' + k * 3 + 1, none⟩) hg').trans (hc' k p hp 1 (by omega))
      have d2 := (hbel.cell (p := ⟨g', off' + k * 3 + 2, none⟩) hg').trans (hc' k p hp 2 (by omega))
      simp only [Surge.at_, Nat.add_zero] at c0 c1 c2 d0 d1 d2
      have hk0 : (0 : Int) ≤ (k : Int) := Int.natCast_nonneg _
      have hk1 : (k : Int) < (ps.length : Int) := by omega
      have hs := hbel.size
      have HC := Lib.hid hc
      have HR := Lib.hid hr
      have HC' := Lib.hid hc'
      have HR' := Lib.hid hr'
      clear hc hr hc' hr'
      go_wp2_with fail
      go_region_held3 (fun w' => w'.cell? ⟨g, off + k * 3, none⟩ = some (.int .i64 p.frm) ∧ w'.cell? ⟨g, off + k * 3 + 1, none⟩ = some (.int .i64 p.low) ∧ w'.cell? ⟨g, off + k * 3 + 2, none⟩ = some (.int .i64 p.high) ∧ w'.cell? ⟨g', off' + k * 3, none⟩ = some (.int .i64 p.frm) ∧ w'.cell? ⟨g', off' + k * 3 + 1, none⟩ = some (.int .i64 p.low) ∧ w'.cell? ⟨g', off' + k * 3 + 2, none⟩ = some (.int .i64 p.high)) (go_keep)
        (first | (go_at_call 90; refine (eqSurge_same _ _ _ _).mono ?_; rintro e w' ⟨rfl, rfl⟩))
      go_wp2_with fail
      go_roundw
      case rel =>
        refine ⟨k + 1, by omega, by go_num, ?_⟩
        exact ((hbel.drew.alloc (by simpa using hs) _).alloc (by simp; omega) _)
      case measure => simp [intOf]; omega
    · have hk' : k = ps.length := by omega
      subst hk'
      go_wp2_with fail
      go_ret
      exact ⟨rfl, hbel⟩

def markSurgeL (k : Int) (n : Nat) : List Surge := (List.range n).map fun i : Nat => ⟨k + 3 * (i : Int), k + 3 * (i : Int) + 1, k + 3 * (i : Int) + 1 + 1⟩
theorem markSurgeL_length (k : Int) (n : Nat) : (markSurgeL k n).length = n := by simp [markSurgeL]
theorem markSurgeL_at {k : Int} {n j : Nat} (hj : j < n) : (markSurgeL k n)[j]? = some ⟨k + 3 * (j : Int), k + 3 * (j : Int) + 1, k + 3 * (j : Int) + 1 + 1⟩ := by
  simp [markSurgeL, hj]

set_option maxHeartbeats 2000000 in
theorem markSurgeS_any (A : Option Addr) (c lo hi : Nat) (ps : List Surge) (k : Int) (w : World) (hsl : Sl w lo hi A 66 Surge.at_ 3 ps) (hlen : ps.length ≤ 1048576) (hk0 : 0 ≤ k) (hk1 : k ≤ 1048576) :
    Calls Try.prog 69 #[.slice A ps.length c, .int .i64 k] w fun e w' => e = .returned (.int .i64 (k + 3 * (ps.length : Int))) ∧ Sl w' lo hi A 66 Surge.at_ 3 (markSurgeL k ps.length) ∧ Out lo hi w w' := by
  obtain ⟨ms, hms⟩ : ∃ ms, ms = markSurgeL k ps.length := ⟨_, rfl⟩
  have hml : ms.length = ps.length := by rw [hms, markSurgeL_length]
  have HMS := Lib.hid hms
  have hst := MarkInv.start (ms := ms) hsl hml
  rw [← hms]
  clear hms
  go_enter Try.func69, Try.ntmps69
  go_wp2_with fail
  go_loopw [1, 5] (fun q i wr => ∃ j : Nat, j ≤ ps.length ∧ i = .int .i64 j ∧ q = .int .i64 (k + 3 * (j : Int)) ∧ MarkInv w wr A 66 Surge.at_ 3 ms j) (fun _ i _ => ps.length - (intOf i).toNat)
  case atStart => exact ⟨0, Nat.zero_le _, rfl, by simp, hst⟩
  case round =>
    obtain ⟨j, hj, rfl, rfl, hinv⟩ := hrel
    by_cases hlt : j < ps.length
    · obtain ⟨g, cs, rfl, hblk, hfill, hgr⟩ := hinv.some_ (by rw [hml]; omega)
      have HP := Lib.hid ((show ms[j]? = some ⟨k + 3 * (j : Int), k + 3 * (j : Int) + 1, k + 3 * (j : Int) + 1 + 1⟩ by rw [HMS.out]; exact markSurgeL_at hlt))
      obtain ⟨z0, e0⟩ := hfill.room (by rw [hml]; exact hlt) 0 (by omega)
      obtain ⟨z1, e1⟩ := hfill.room (by rw [hml]; exact hlt) 1 (by omega)
      obtain ⟨z2, e2⟩ := hfill.room (by rw [hml]; exact hlt) 2 (by omega)
      have d0 := (hblk.cell (j * 3 + 0)).trans e0
      have d1 := (hblk.cell (j * 3 + 1)).trans e1
      have d2 := (hblk.cell (j * 3 + 2)).trans e2
      have f0 := hblk.frozen (j * 3)
      have f1 := hblk.frozen (j * 3 + 1)
      have f2 := hblk.frozen (j * 3 + 2)
      simp only [Nat.add_zero] at d0
      have HML := Lib.hid hml
      have HS := Lib.hid hsl
      have HT := Lib.hid hst
      have HI := Lib.hid hinv
      clear e0 e1 e2 hml hsl hst hinv
      go_wp2_with fail
      go_roundw
      case rel =>
        refine ⟨j + 1, by omega, by go_num, by go_num, .inr ⟨g, _, rfl, (((hblk.set_ _ _).set_ _ _).set_ _ _), hfill.set_ HP.out [.int .i64 (k + 3 * (j : Int)), .int .i64 (k + 3 * (j : Int) + 1), .int .i64 (k + 3 * (j : Int) + 1 + 1)] rfl ?_, (grown_set (grown_set (grown_set hgr _ _) _ _) _ _)⟩⟩
        intro q hq
        match q, hq with
        | 0, _ => rfl
        | 1, _ => rfl
        | 2, _ => rfl
      case measure => simp [intOf]; omega
    · have hk' : j = ps.length := by omega
      subst hk'
      go_wp2_with fail
      go_ret
      exact ⟨rfl, hinv.done hsl hml, hinv.out hsl⟩

set_option maxHeartbeats 2000000 in
theorem heldSurgeS_any (A : Option Addr) (c n : Nat) (k : Int) (w : World) (hr : Rd w w.heap.size Surge.at_ 3 A (markSurgeL k n)) (hlen : n ≤ 1048576) (hk0 : 0 ≤ k) (hk1 : k ≤ 1048576) :
    Calls Try.prog 71 #[.slice A n c, .int .i64 k] w fun e w' => e = .returned (.int .i64 (k + 3 * (n : Int))) ∧ w = w' := by
  go_enter Try.func71, Try.ntmps71
  go_wp2_with fail
  go_loop [1, 5] (fun q i => ∃ j : Nat, j ≤ n ∧ i = .int .i64 j ∧ q = .int .i64 (k + 3 * (j : Int))) (fun _ i => n - (intOf i).toNat)
  case atStart => exact ⟨0, Nat.zero_le _, rfl, by simp⟩
  case round =>
    obtain ⟨j, hj, rfl, rfl⟩ := hrel
    by_cases hlt : j < n
    · obtain ⟨g, off, rfl, hg, hc⟩ := hr (by rw [markSurgeL_length]; omega)
      have c0 := hc j _ (markSurgeL_at hlt) 0 (by omega)
      have c1 := hc j _ (markSurgeL_at hlt) 1 (by omega)
      have c2 := hc j _ (markSurgeL_at hlt) 2 (by omega)
      simp only [Surge.at_, Nat.add_zero] at c0 c1 c2
      have HC := Lib.hid hc
      have HR := Lib.hid hr
      clear hc hr
      go_wp2_with fail
      go_round
      case rel => exact ⟨j + 1, by omega, by go_num, by go_num⟩
      case measure => simp [intOf]; omega
    · have hk' : j = n := by omega
      subst hk'
      go_wp2_with fail
      go_ret
      exact ⟨rfl, rfl⟩

end Go.Proofs.Ytmhiohijpnmcpaa
