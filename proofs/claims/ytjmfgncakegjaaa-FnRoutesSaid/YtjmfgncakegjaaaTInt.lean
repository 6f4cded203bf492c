/-
  The contracts of the laws' helpers on slices of ints: toIntS, eqIntS, markIntS, heldIntS.
-/
import Derived.Test.YtjmfgncakegjaaaRows
import Derived.Test.YtjmfgncakegjaaaSlc
namespace Go.Proofs.Ytjmfgncakegjaaa
open Go.RowKit

/-- The one cell of an int. -/
def intAt (x : Int) (_ : Nat) : Value := .int .i64 x

theorem infoInt : (Try.prog.info? 3).map (fun i => (i.zero, i.size, i.bytes)) = some (some (.int .i64 0), 1, 8) := by kernel_rfl

set_option maxHeartbeats 2000000 in
theorem toIntS_any (A : Option Addr) (c : Nat) (ps : List Int) (w : World) (hr : Rd w w.heap.size intAt 1 A ps) (hlen : ps.length ≤ 1048576) :
    Calls Try.prog 25 #[.slice A ps.length c] w fun e w' => e = .returned (.slice (some ⟨w.heap.size, 0, none⟩) ps.length ps.length) ∧ Has w' w.heap.size 3 intAt 1 ps ∧ Below w.heap.size w w' := by
  obtain ⟨i0, hi, hz0, hz1, hz2⟩ := info_parts infoInt
  have hmk := run_make_n (P := Try.prog) 39 3 i0 _ 1 8 Try.underlying39 hi hz0 hz1 hz2 ps.length (by omega) (by omega)
  clear hi hz0 hz1 hz2
  go_enter Try.func25, Try.ntmps25
  go_wp2_with fail
  go_loopw [4] (fun i wr => ∃ k : Nat, k ≤ ps.length ∧ i = .int .i64 k ∧ (∃ cs, Blk wr w.heap.size 3 cs ∧ Fill intAt 1 ps k cs) ∧ Below w.heap.size w wr) (fun i _ => ps.length - (intOf i).toNat)
  case atStart => exact ⟨0, Nat.zero_le _, rfl, ⟨_, Blk.new _ _ _, Fill.zero (by rw [size_madeCells]; simp)⟩, (Below.refl _ _).alloc (Nat.le_refl _) _⟩
  case round =>
    obtain ⟨k, hk, rfl, ⟨cs, hblk, hfill⟩, hbel⟩ := hrel
    by_cases hlt : k < ps.length
    · obtain ⟨g, off, rfl, hg, hc⟩ := hr (by omega)
      obtain ⟨p, hp⟩ : ∃ p, ps[k]? = some p := ⟨_, List.getElem?_eq_getElem hlt⟩
      have c0 := (hbel.cell (p := ⟨g, off + k * 1 + 0, none⟩) hg).trans (hc k p hp 0 (by omega))
      simp only [intAt, Nat.add_zero, Nat.mul_one] at c0
      obtain ⟨z0, e0⟩ := hfill.room hlt 0 (by omega)
      have d0 := (hblk.cell (k * 1 + 0)).trans e0
      have f0 := hblk.frozen (k * 1 + 0)
      simp only [Nat.add_zero, Nat.mul_one] at d0 f0
      have HC := Lib.hid hc
      have HR := Lib.hid hr
      have hs := hbel.size
      have hw := hblk.lt
      clear hc hr
      go_wp2_with fail
      go_roundw
      case rel =>
        have hb1 := hblk.set_ (k * 1) (.int .i64 p)
        rw [Nat.mul_one] at hb1
        refine ⟨k + 1, by omega, by go_num, ⟨_, hb1, ?_⟩, ?_⟩
        · have h1 := hfill.set_ hp [.int .i64 p] rfl (fun j hj => by
            match j, hj with
            | 0, _ => rfl)
          rw [Nat.mul_one] at h1
          exact h1
        · exact hbel.setCell (Nat.le_refl _) _
      case measure => simp [intOf]; omega
    · have hk' : k = ps.length := by omega
      subst hk'
      go_wp2_with fail
      go_ret
      exact ⟨rfl, ⟨cs, hblk, hfill⟩, hbel⟩

set_option maxHeartbeats 2000000 in
theorem eqIntS_same (A A' : Option Addr) (c c' : Nat) (ps : List Int) (w : World) (hr : Rd w w.heap.size intAt 1 A ps) (hr' : Rd w w.heap.size intAt 1 A' ps) (hlen : ps.length ≤ 1048576) :
    Calls Try.prog 27 #[.slice A ps.length c, .slice A' ps.length c'] w fun e w' => e = .returned (.bool true) ∧ Below w.heap.size w w' := by
  go_enter Try.func27, Try.ntmps27
  go_wp2_with fail
  go_loopw [5] (fun i wr => ∃ k : Nat, k ≤ ps.length ∧ i = .int .i64 k ∧ Below w.heap.size w wr) (fun i _ => ps.length - (intOf i).toNat)
  case atStart => exact ⟨0, Nat.zero_le _, rfl, Below.refl _ _⟩
  case round =>
    obtain ⟨k, hk, rfl, hbel⟩ := hrel
    by_cases hlt : k < ps.length
    · obtain ⟨g, off, rfl, hg, hc⟩ := hr (by omega)
      obtain ⟨g', off', rfl, hg', hc'⟩ := hr' (by omega)
      obtain ⟨p, hp⟩ : ∃ p, ps[k]? = some p := ⟨_, List.getElem?_eq_getElem hlt⟩
      have c0 := (hbel.cell (p := ⟨g, off + k * 1 + 0, none⟩) hg).trans (hc k p hp 0 (by omega))
      have d0 := (hbel.cell (p := ⟨g', off' + k * 1 + 0, none⟩) hg').trans (hc' k p hp 0 (by omega))
      simp only [intAt, Nat.add_zero, Nat.mul_one] at c0 d0
      have hk0 : (0 : Int) ≤ (k : Int) := Int.natCast_nonneg _
      have hk1 : (k : Int) < (ps.length : Int) := by omega
      have HC := Lib.hid hc
      have HR := Lib.hid hr
      have HC' := Lib.hid hc'
      have HR' := Lib.hid hr'
      clear hc hr hc' hr'
      go_wp2_with fail
      go_quiet (fail)
      go_wp2
      go_roundw
      case rel => exact ⟨k + 1, by omega, by go_num, hbel.drewN _⟩
      case measure => simp [intOf]; omega
    · have hk' : k = ps.length := by omega
      subst hk'
      go_wp2_with fail
      go_ret
      exact ⟨rfl, hbel⟩

def markIntL (k : Int) (n : Nat) : List Int := (List.range n).map fun i : Nat => k + (i : Int)
theorem markIntL_length (k : Int) (n : Nat) : (markIntL k n).length = n := by simp [markIntL]
theorem markIntL_at {k : Int} {n j : Nat} (hj : j < n) : (markIntL k n)[j]? = some (k + (j : Int)) := by
  simp [markIntL, hj]

set_option maxHeartbeats 2000000 in
theorem markIntS_any (A : Option Addr) (c lo hi : Nat) (ps : List Int) (k : Int) (w : World) (hsl : Sl w lo hi A 3 intAt 1 ps) (hlen : ps.length ≤ 1048576) (hk0 : 0 ≤ k) (hk1 : k ≤ 16777216) :
    Calls Try.prog 33 #[.slice A ps.length c, .int .i64 k] w fun e w' => e = .returned (.int .i64 (k + (ps.length : Int))) ∧ Sl w' lo hi A 3 intAt 1 (markIntL k ps.length) ∧ Out lo hi w w' := by
  obtain ⟨ms, hms⟩ : ∃ ms, ms = markIntL k ps.length := ⟨_, rfl⟩
  have hml : ms.length = ps.length := by rw [hms, markIntL_length]
  have HMS := Lib.hid hms
  have hst := MarkInv.start (ms := ms) hsl hml
  rw [← hms]
  clear hms
  go_enter Try.func33, Try.ntmps33
  go_wp2_with fail
  go_loopw [1, 5] (fun q i wr => ∃ j : Nat, j ≤ ps.length ∧ i = .int .i64 j ∧ q = .int .i64 (k + (j : Int)) ∧ MarkInv w wr A 3 intAt 1 ms j) (fun _ i _ => ps.length - (intOf i).toNat)
  case atStart => exact ⟨0, Nat.zero_le _, rfl, by simp, hst⟩
  case round =>
    obtain ⟨j, hj, rfl, rfl, hinv⟩ := hrel
    by_cases hlt : j < ps.length
    · obtain ⟨g, cs, rfl, hblk, hfill, hgr⟩ := hinv.some_ (by rw [hml]; omega)
      have HP := Lib.hid ((show ms[j]? = some (k + (j : Int)) by rw [HMS.out]; exact markIntL_at hlt))
      obtain ⟨z0, e0⟩ := hfill.room (by rw [hml]; exact hlt) 0 (by omega)
      have d0 := (hblk.cell (j * 1 + 0)).trans e0
      have f0 := hblk.frozen (j * 1 + 0)
      simp only [Nat.add_zero, Nat.mul_one] at d0 f0
      have HML := Lib.hid hml
      have HS := Lib.hid hsl
      have HT := Lib.hid hst
      have HI := Lib.hid hinv
      clear e0 hml hsl hst hinv
      go_wp2_with fail
      go_roundw
      case rel =>
        have hb1 := hblk.set_ (j * 1) (.int .i64 (k + (j : Int)))
        rw [Nat.mul_one] at hb1
        have h1 := hfill.set_ HP.out [.int .i64 (k + (j : Int))] rfl (fun q hq => by
          match q, hq with
          | 0, _ => rfl)
        rw [Nat.mul_one] at h1
        exact ⟨j + 1, by omega, by go_num, by go_num, .inr ⟨g, _, rfl, hb1, h1, grown_set hgr _ _⟩⟩
      case measure => simp [intOf]; omega
    · have hk' : j = ps.length := by omega
      subst hk'
      go_wp2_with fail
      go_ret
      exact ⟨rfl, hinv.done hsl hml, hinv.out hsl⟩

set_option maxHeartbeats 2000000 in
theorem heldIntS_any (A : Option Addr) (c n : Nat) (k : Int) (w : World) (hr : Rd w w.heap.size intAt 1 A (markIntL k n)) (hlen : n ≤ 1048576) (hk0 : 0 ≤ k) (hk1 : k ≤ 1048576) :
    Calls Try.prog 34 #[.slice A n c, .int .i64 k] w fun e w' => e = .returned (.int .i64 (k + (n : Int))) ∧ w = w' := by
  go_enter Try.func34, Try.ntmps34
  go_wp2_with fail
  go_loop [1, 5] (fun q i => ∃ j : Nat, j ≤ n ∧ i = .int .i64 j ∧ q = .int .i64 (k + (j : Int))) (fun _ i => n - (intOf i).toNat)
  case atStart => exact ⟨0, Nat.zero_le _, rfl, by simp⟩
  case round =>
    obtain ⟨j, hj, rfl, rfl⟩ := hrel
    by_cases hlt : j < n
    · obtain ⟨g, off, rfl, hg, hc⟩ := hr (by rw [markIntL_length]; omega)
      have c0 := hc j _ (markIntL_at hlt) 0 (by omega)
      simp only [intAt, Nat.add_zero, Nat.mul_one] at c0
      have HC := Lib.hid hc
      have HR := Lib.hid hr
      clear hc hr
      go_wp2_with fail
      go_round
      case rel => exact ⟨j + 1, by omega, by go_num, by go_num⟩
      case measure => simp [intOf]; omega
    · have hk' : j = n := by omega
      subst hk'
      go_wp2_with fail
      go_ret
      exact ⟨rfl, rfl⟩

end Go.Proofs.Ytjmfgncakegjaaa
