/-
  The contracts of the laws' helpers on slices of texts that came in: szStringS, toStringS.
-/
import Derived.Test.YtfdmkbdcabedoaaTString
namespace Go.Proofs.Ytfdmkbdcabedoaa
open Go.RowKit

def sumSz (ps : List ByteArray) : Nat := (ps.map (·.size)).sum
theorem sumSz_next {ps : List ByteArray} {k : Nat} {p : ByteArray} (hp : ps[k]? = some p) : sumSz (ps.take (k + 1)) = sumSz (ps.take k) + p.size := by
  have hl : k < ps.length := (List.getElem?_eq_some_iff.1 hp).1
  have hv : ps[k] = p := (List.getElem?_eq_some_iff.1 hp).2
  unfold sumSz
  rw [List.take_succ_eq_append_getElem hl, List.map_append, List.sum_append, hv]
  simp
/-- What szStringS hands back: below 0, or what is left. -/
def SzTexts (l : Int) (ps : List ByteArray) (w : World) (e : Ending) (w' : World) : Prop := ∃ r : Int, e = .returned (.int .i64 r) ∧ (0 ≤ r → (ps.length : Int) ≤ l ∧ (sumSz ps : Int) ≤ l) ∧ Below w.heap.size w w'

set_option maxHeartbeats 1000000 in
theorem szStringS_any (A : Option Addr) (c : Nat) (ps : List ByteArray) (l : Int) (hn : ps.length ≤ 9223372036854775807) (h0 : 0 ≤ l) (h1 : l ≤ 1048576) (w : World) (hr : Rd w w.heap.size strAt 1 A ps) (hwf : ∀ p ∈ ps, p.size ≤ maxLen) :
    Calls Try.prog 21 #[.slice A ps.length c, .int .i64 l] w (SzTexts l ps w) := by
  by_cases h : l < (ps.length : Int)
  · go_enter Try.func21, Try.ntmps21
    go_wp2_with fail
    go_ret
    exact ⟨-1, rfl, by omega, Below.refl _ _⟩
  have h2 : (ps.length : Int) ≤ l := by omega
  clear h
  go_enter Try.func21, Try.ntmps21
  go_wp2_with fail
  go_loopw [1, 5] (fun q i wr => ∃ k : Nat, k ≤ ps.length ∧ i = .int .i64 k ∧ (∃ r : Int, q = .int .i64 r ∧ 0 ≤ r ∧ r + sumSz (ps.take k) ≤ l) ∧ Below w.heap.size w wr) (fun _ i _ => ps.length - (intOf i).toNat)
  case atStart => exact ⟨0, Nat.zero_le _, rfl, ⟨_, rfl, by omega, by simp [sumSz]; omega⟩, Below.refl _ _⟩
  case round =>
    obtain ⟨k, hk, rfl, ⟨r, rfl, hr0, hr1⟩, hbel⟩ := hrel
    by_cases hlt : k < ps.length
    · obtain ⟨g, off, rfl, hg, hc⟩ := hr (by omega)
      obtain ⟨p, hp⟩ : ∃ p, ps[k]? = some p := ⟨_, List.getElem?_eq_getElem hlt⟩
      have c0 := (hbel.cell (p := ⟨g, off + k * 1 + 0, none⟩) hg).trans (hc k p hp 0 (by omega))
      simp only [strAt, Nat.add_zero, Nat.mul_one] at c0
      have hpw := hwf p (List.mem_of_getElem? hp)
      unfold maxLen at hpw
      have hs := sumSz_next hp
      have HC := Lib.hid hc
      have HR := Lib.hid hr
      have HP := Lib.hid hp
      have HS := Lib.hid hs
      clear hc hr hp hs
      by_cases hneg : r < (p.size : Int)
      · go_wp2_with fail
        go_ret
        exact ⟨-1, rfl, by omega, hbel⟩
      · go_wp2_with fail
        go_roundw
        case rel => exact ⟨k + 1, by omega, by go_num, ⟨r - p.size, by go_num, by omega, by rw [HS.out]; omega⟩, hbel⟩
        case measure => simp [intOf]; omega
    · have hk' : k = ps.length := by omega
      subst hk'
      go_wp2_with fail
      go_ret
      exact ⟨r, rfl, fun _ => ⟨h2, by rw [List.take_length] at hr1; omega⟩, hbel⟩

set_option maxHeartbeats 2000000 in
theorem toStringS_any (A : Option Addr) (c : Nat) (ps : List ByteArray) (w : World) (hr : Rd w w.heap.size strAt 1 A ps) (hlen : ps.length ≤ 1048576) :
    Calls Try.prog 23 #[.slice A ps.length c] w fun e w' => e = .returned (.slice (some ⟨w.heap.size, 0, none⟩) ps.length ps.length) ∧ Has w' w.heap.size 9 strAt 1 ps ∧ Below w.heap.size w w' := by
  obtain ⟨i0, hi, hz0, hz1, hz2⟩ := info_parts infoString
  have hmk := run_make_n (P := Try.prog) 24 9 i0 _ 1 16 Try.underlying24 hi hz0 hz1 hz2 ps.length (by omega) (by omega)
  clear hi hz0 hz1 hz2
  go_enter Try.func23, Try.ntmps23
  go_wp2_with fail
  go_loopw [4] (fun i wr => ∃ k : Nat, k ≤ ps.length ∧ i = .int .i64 k ∧ (∃ cs, Blk wr w.heap.size 9 cs ∧ Fill strAt 1 ps k cs) ∧ Below w.heap.size w wr) (fun i _ => ps.length - (intOf i).toNat)
  case atStart => exact ⟨0, Nat.zero_le _, rfl, ⟨_, Blk.new _ _ _, Fill.zero (by rw [size_madeCells]; simp)⟩, (Below.refl _ _).alloc (Nat.le_refl _) _⟩
  case round =>
    obtain ⟨k, hk, rfl, ⟨cs, hblk, hfill⟩, hbel⟩ := hrel
    by_cases hlt : k < ps.length
    · obtain ⟨g, off, rfl, hg, hc⟩ := hr (by omega)
      obtain ⟨p, hp⟩ : ∃ p, ps[k]? = some p := ⟨_, List.getElem?_eq_getElem hlt⟩
      have c0 := (hbel.cell (p := ⟨g, off + k * 1 + 0, none⟩) hg).trans (hc k p hp 0 (by omega))
      simp only [strAt, Nat.add_zero, Nat.mul_one] at c0
      obtain ⟨z0, e0⟩ := hfill.room hlt 0 (by omega)
      have d0 := (hblk.cell (k * 1 + 0)).trans e0
      have f0 := hblk.frozen (k * 1 + 0)
      simp only [Nat.add_zero, Nat.mul_one] at d0 f0
      have HC := Lib.hid hc
      have HR := Lib.hid hr
      have hs := hbel.size
      have hw := hblk.lt
      clear hc hr
      go_wp2_with fail
      go_roundw
      case rel =>
        have hb1 := hblk.set_ (k * 1) (.string p)
        rw [Nat.mul_one] at hb1
        refine ⟨k + 1, by omega, by go_num, ⟨_, hb1, ?_⟩, ?_⟩
        · have h1 := hfill.set_ hp [.string p] rfl (fun j hj => by
            match j, hj with
            | 0, _ => rfl)
          rw [Nat.mul_one] at h1
          exact h1
        · exact hbel.setCell (Nat.le_refl _) _
      case measure => simp [intOf]; omega
    · have hk' : k = ps.length := by omega
      subst hk'
      go_wp2_with fail
      go_ret
      exact ⟨rfl, ⟨cs, hblk, hfill⟩, hbel⟩

end Go.Proofs.Ytfdmkbdcabedoaa
