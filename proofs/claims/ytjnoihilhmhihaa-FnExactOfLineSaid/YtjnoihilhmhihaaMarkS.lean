/-
  The contract of the laws' markShipS, as far as it is used: it writes into the slice alone.
-/
import Derived.Test.YtjnoihilhmhihaaMarkT
import Derived.Test.YtjnoihilhmhihaaModelS
namespace Go.Proofs.Ytjnoihilhmhihaa
open Go.RowKit

theorem Out.setCell {lo hi : Nat} {w w' : World} (h : Out lo hi w w') {p : Addr} (h1 : lo ≤ p.block) (h2 : p.block < hi) (u : Value) : Out lo hi w (w'.setCell p u) :=
  ⟨h.os, h.tape, h.output, by simpa [World.setCell] using h.size, fun k hk ho => (Below.heap_setCell w' p u k (by omega)).trans (h.block k hk ho)⟩

set_option maxHeartbeats 4000000 in
theorem markShipS_weak (A : Option Addr) (c lo hi : Nat) (ps : List Ship) (k : Int) (w : World) (hsl : Sl w lo hi A 26 Ship.at_ 6 ps) (hlen : ps.length ≤ 1048576) (hk0 : 0 ≤ k) (hk1 : k ≤ 1048576) :
    Calls Try.prog 27 #[.slice A ps.length c, .int .i64 k] w fun e w' => ∃ r : Int, e = .returned (.int .i64 r) ∧ 0 ≤ r ∧ Out lo hi w w' := by
  have hst : (A = none ∧ ps = []) ∨ ∃ g cs, A = some ⟨g, 0, none⟩ ∧ lo ≤ g ∧ g < hi ∧ Blk w g 26 cs ∧ ps.length * 6 ≤ cs.size := by
    rcases hsl with h | ⟨g, e, h1, h2, cs, hb, hf⟩
    · exact .inl h
    · exact .inr ⟨g, cs, e, h1, h2, hb, hf.1⟩
  clear hsl
  go_enter Try.func27, Try.ntmps27
  go_wp2_with fail
  go_loopw [1, 5] (fun q i wr => ∃ j : Nat, j ≤ ps.length ∧ i = .int .i64 j ∧ q = .int .i64 (k + 6 * (j : Int)) ∧ ((A = none ∧ ps = []) ∨ ∃ g cs, A = some ⟨g, 0, none⟩ ∧ lo ≤ g ∧ g < hi ∧ Blk wr g 26 cs ∧ ps.length * 6 ≤ cs.size) ∧ Out lo hi w wr) (fun _ i _ => ps.length - (intOf i).toNat)
  case atStart => exact ⟨0, Nat.zero_le _, rfl, by simp, hst, Out.of_below lo hi (Below.refl _ _)⟩
  case round =>
    clear hst
    obtain ⟨j, hj, rfl, rfl, hst, hout⟩ := hrel
    by_cases hlt : j < ps.length
    · rcases hst with ⟨_, h0⟩ | ⟨g, cs, rfl, hg1, hg2, hblk, hcs⟩
      · rw [h0] at hlt
        exact absurd hlt (by simp)
      have room : ∀ q, q < 6 → ∃ v, cs[j * 6 + q]? = some v := fun q hq => ⟨_, Array.getElem?_eq_getElem (by omega)⟩
      obtain ⟨z0, e0⟩ := room 0 (by omega)
      obtain ⟨z1, e1⟩ := room 1 (by omega)
      obtain ⟨z2, e2⟩ := room 2 (by omega)
      obtain ⟨z3, e3⟩ := room 3 (by omega)
      obtain ⟨z4, e4⟩ := room 4 (by omega)
      obtain ⟨z5, e5⟩ := room 5 (by omega)
      have hz := hout.size
      have hgw : g < wr.heap.size := hblk.lt
      go_wp2_with fail
      refine (markText_any _ _ (by omega) (by omega)).mono ?_
      rintro e w1 ⟨s, rfl, hb1⟩
      have hb := hblk.next hb1
      have hO := hout.trans (Out.of_below lo hi hb1)
      have d0 := (hb.cell (j * 6 + 0)).trans e0
      have d1 := (hb.cell (j * 6 + 1)).trans e1
      have d2 := (hb.cell (j * 6 + 2)).trans e2
      have d3 := (hb.cell (j * 6 + 3)).trans e3
      have d4 := (hb.cell (j * 6 + 4)).trans e4
      have d5 := (hb.cell (j * 6 + 5)).trans e5
      have f0 := hb.frozen (j * 6 + 0)
      have f1 := hb.frozen (j * 6 + 1)
      have f2 := hb.frozen (j * 6 + 2)
      have f3 := hb.frozen (j * 6 + 3)
      have f4 := hb.frozen (j * 6 + 4)
      have f5 := hb.frozen (j * 6 + 5)
      simp only [Nat.add_zero] at d0 f0
      clear e0 e1 e2 e3 e4 e5 room hb1 hblk hout
      go_wp2_with fail
      go_roundw
      case rel =>
        refine ⟨j + 1, by omega, by go_num, by go_num, .inr ⟨g, _, rfl, hg1, hg2, ((((((hb.set_ _ _).set_ _ _).set_ _ _).set_ _ _).set_ _ _).set_ _ _), by simp; omega⟩, ?_⟩
        exact ((((((hO.setCell hg1 hg2 _).setCell hg1 hg2 _).setCell hg1 hg2 _).setCell hg1 hg2 _).setCell hg1 hg2 _).setCell hg1 hg2 _)
      case measure => simp [intOf]; omega
    · have hk' : j = ps.length := by omega
      subst hk'
      go_wp2_with fail
      go_ret
      exact ⟨_, rfl, by omega, hout⟩

end Go.Proofs.Ytjnoihilhmhihaa
