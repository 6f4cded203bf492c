/-
  The contracts of the laws' markPointS, markSegmentS, markChart, as far as they are used: they write into their slices alone.
-/
import Derived.Test.YtjmfgncakegjaaaMarkT
import Derived.Test.YtjmfgncakegjaaaChartL
namespace Go.Proofs.Ytjmfgncakegjaaa
open Go.RowKit

theorem Out.setCell {lo hi : Nat} {w w' : World} (h : Out lo hi w w') {p : Addr} (h1 : lo ≤ p.block) (h2 : p.block < hi) (u : Value) : Out lo hi w (w'.setCell p u) :=
  ⟨h.os, h.tape, h.output, by simpa [World.setCell] using h.size, fun k hk ho => (Below.heap_setCell w' p u k (by omega)).trans (h.block k hk ho)⟩
theorem Blk.out {lo hi g : Nat} {t : TypeId} {cs : Array Value} {w w' : World} (h : Blk w g t cs) (ho : Out lo hi w w') (hd : g < lo ∨ hi ≤ g) : Blk w' g t cs := (ho.block g h.lt hd).trans h
theorem Blk.other {g g' : Nat} {t t' : TypeId} {cs cs' : Array Value} {w : World} (h : Blk w g t cs) (h' : Blk w g' t' cs') (ht : t ≠ t') : g ≠ g' := fun e => by
  subst e
  unfold Blk at h h'
  rw [h] at h'
  cases h'
  exact ht rfl
/-- A slice at the head of a block with room for n records. -/
def Room (w : World) (lo hi : Nat) (A : Option Addr) (t : TypeId) (size n : Nat) : Prop := (A = none ∧ n = 0) ∨ ∃ g cs, A = some ⟨g, 0, none⟩ ∧ lo ≤ g ∧ g < hi ∧ Blk w g t cs ∧ n * size ≤ cs.size
theorem Sl.room {α : Type} {w : World} {lo hi size : Nat} {A : Option Addr} {t : TypeId} {enc : α → Nat → Value} {ps : List α} (h : Sl w lo hi A t enc size ps) : Room w lo hi A t size ps.length := by
  rcases h with ⟨h, h0⟩ | ⟨g, e, h1, h2, cs, hb, hf⟩
  · exact .inl ⟨h, by rw [h0]; rfl⟩
  · exact .inr ⟨g, cs, e, h1, h2, hb, hf.1⟩
/-- Blocks of another type are as they were. -/
def Other (t : TypeId) (w w' : World) : Prop := ∀ g u cs, u ≠ t → Blk w g u cs → Blk w' g u cs
theorem Room.other {w w' : World} {lo hi n size : Nat} {A : Option Addr} {t u : TypeId} (h : Room w lo hi A t size n) (ho : Other u w w') (ht : t ≠ u) : Room w' lo hi A t size n :=
  h.imp id fun ⟨g, cs, e, h1, h2, hb, hs⟩ => ⟨g, cs, e, h1, h2, ho g t cs ht hb, hs⟩
theorem Other.next {t : TypeId} {a w w' : World} (h : Other t a w) (hb : Below w.heap.size w w') : Other t a w' := fun g u cs hu hk => (h g u cs hu hk).next hb
theorem Other.set_ {t : TypeId} {a w : World} {g : Nat} {cs : Array Value} (h : Other t a w) (hb : Blk w g t cs) (i : Nat) (u : Value) : Other t a (w.setCell ⟨g, i, none⟩ u) := fun g' u' cs' hu hk => by
  have h1 := h g' u' cs' hu hk
  exact h1.far (h1.other hb hu) u

set_option maxHeartbeats 4000000 in
theorem markPointS_weak (A : Option Addr) (c lo hi n : Nat) (k : Int) (w : World) (hst : Room w lo hi A 59 2 n) (hlen : n ≤ 1048576) (hk0 : 0 ≤ k) (hk1 : k ≤ 8388608) :
    Calls Try.prog 61 #[.slice A n c, .int .i64 k] w fun e w' => e = .returned (.int .i64 (k + 2 * (n : Int))) ∧ Out lo hi w w' ∧ Other 59 w w' := by
  go_enter Try.func61, Try.ntmps61
  go_wp2_with fail
  go_loopw [1, 5] (fun q i wr => ∃ j : Nat, j ≤ n ∧ i = .int .i64 j ∧ q = .int .i64 (k + 2 * (j : Int)) ∧ Room wr lo hi A 59 2 n ∧ Out lo hi w wr ∧ Other 59 w wr) (fun _ i _ => n - (intOf i).toNat)
  case atStart => exact ⟨0, Nat.zero_le _, rfl, by simp, hst, Out.of_below lo hi (Below.refl _ _), fun _ _ _ _ h => h⟩
  case round =>
    clear hst
    obtain ⟨j, hj, rfl, rfl, hst, hout, hoth⟩ := hrel
    by_cases hlt : j < n
    · rcases hst with ⟨_, h0⟩ | ⟨g, cs, rfl, hg1, hg2, hblk, hcs⟩
      · omega
      have room : ∀ q, q < 2 → ∃ v, cs[j * 2 + q]? = some v := fun q hq => ⟨_, Array.getElem?_eq_getElem (by omega)⟩
      obtain ⟨z0, e0⟩ := room 0 (by omega)
      obtain ⟨z1, e1⟩ := room 1 (by omega)
      have hz := hout.size
      have hgw : g < wr.heap.size := hblk.lt
      go_wp2_with fail
      refine (markText_any _ _ (by omega) (by omega)).mono ?_
      rintro e w1 ⟨s, rfl, hb1⟩
      have hb := hblk.next hb1
      have hO := hout.trans (Out.of_below lo hi hb1)
      have hT := hoth.next hb1
      have d0 := (hb.cell (j * 2 + 0)).trans e0
      have f0 := hb.frozen (j * 2 + 0)
      have d1 := (hb.cell (j * 2 + 1)).trans e1
      have f1 := hb.frozen (j * 2 + 1)
      simp only [Nat.add_zero] at d0 f0
      clear e0 e1 room hb1 hblk hout hoth
      go_wp2_with fail
      go_roundw
      case rel => exact ⟨j + 1, by omega, by go_num, by go_num, .inr ⟨g, _, rfl, hg1, hg2, ((hb.set_ _ _).set_ _ _), by simp; omega⟩, ((hO.setCell hg1 hg2 _).setCell hg1 hg2 _), ((hT.set_ hb _ _).set_ (hb.set_ _ _) _ _)⟩
      case measure => simp [intOf]; omega
    · have hk' : j = n := by omega
      subst hk'
      go_wp2_with fail
      go_ret
      exact ⟨rfl, hout, hoth⟩

set_option maxHeartbeats 4000000 in
theorem markSegmentS_weak (A : Option Addr) (c lo hi n : Nat) (k : Int) (w : World) (hst : Room w lo hi A 69 5 n) (hlen : n ≤ 1048576) (hk0 : 0 ≤ k) (hk1 : k ≤ 8388608) :
    Calls Try.prog 62 #[.slice A n c, .int .i64 k] w fun e w' => e = .returned (.int .i64 (k + 5 * (n : Int))) ∧ Out lo hi w w' ∧ Other 69 w w' := by
  go_enter Try.func62, Try.ntmps62
  go_wp2_with fail
  go_loopw [1, 5] (fun q i wr => ∃ j : Nat, j ≤ n ∧ i = .int .i64 j ∧ q = .int .i64 (k + 5 * (j : Int)) ∧ Room wr lo hi A 69 5 n ∧ Out lo hi w wr ∧ Other 69 w wr) (fun _ i _ => n - (intOf i).toNat)
  case atStart => exact ⟨0, Nat.zero_le _, rfl, by simp, hst, Out.of_below lo hi (Below.refl _ _), fun _ _ _ _ h => h⟩
  case round =>
    clear hst
    obtain ⟨j, hj, rfl, rfl, hst, hout, hoth⟩ := hrel
    by_cases hlt : j < n
    · rcases hst with ⟨_, h0⟩ | ⟨g, cs, rfl, hg1, hg2, hblk, hcs⟩
      · omega
      have room : ∀ q, q < 5 → ∃ v, cs[j * 5 + q]? = some v := fun q hq => ⟨_, Array.getElem?_eq_getElem (by omega)⟩
      obtain ⟨z0, e0⟩ := room 0 (by omega)
      obtain ⟨z1, e1⟩ := room 1 (by omega)
      obtain ⟨z2, e2⟩ := room 2 (by omega)
      obtain ⟨z3, e3⟩ := room 3 (by omega)
      obtain ⟨z4, e4⟩ := room 4 (by omega)
      have hz := hout.size
      have hgw : g < wr.heap.size := hblk.lt
      have hb := hblk
      have hO := hout
      have hT := hoth
      have d0 := (hb.cell (j * 5 + 0)).trans e0
      have f0 := hb.frozen (j * 5 + 0)
      have d1 := (hb.cell (j * 5 + 1)).trans e1
      have f1 := hb.frozen (j * 5 + 1)
      have d2 := (hb.cell (j * 5 + 2)).trans e2
      have f2 := hb.frozen (j * 5 + 2)
      have d3 := (hb.cell (j * 5 + 3)).trans e3
      have f3 := hb.frozen (j * 5 + 3)
      have d4 := (hb.cell (j * 5 + 4)).trans e4
      have f4 := hb.frozen (j * 5 + 4)
      simp only [Nat.add_zero] at d0 f0
      clear e0 e1 e2 e3 e4 room hblk hout hoth
      go_wp2_with fail
      go_roundw
      case rel => exact ⟨j + 1, by omega, by go_num, by go_num, .inr ⟨g, _, rfl, hg1, hg2, (((((hb.set_ _ _).set_ _ _).set_ _ _).set_ _ _).set_ _ _), by simp; omega⟩, (((((hO.setCell hg1 hg2 _).setCell hg1 hg2 _).setCell hg1 hg2 _).setCell hg1 hg2 _).setCell hg1 hg2 _), (((((hT.set_ hb _ _).set_ (hb.set_ _ _) _ _).set_ ((hb.set_ _ _).set_ _ _) _ _).set_ (((hb.set_ _ _).set_ _ _).set_ _ _) _ _).set_ ((((hb.set_ _ _).set_ _ _).set_ _ _).set_ _ _) _ _)⟩
      case measure => simp [intOf]; omega
    · have hk' : j = n := by omega
      subst hk'
      go_wp2_with fail
      go_ret
      exact ⟨rfl, hout, hoth⟩

set_option maxHeartbeats 4000000 in
theorem markChart_weak (A A' : Option Addr) (c c' lo hi : Nat) (ps : List Point) (ss : List Segment) (w : World) (hs : Sl w lo hi A 59 Point.at_ 2 ps) (hs' : Sl w lo hi A' 69 Segment.at_ 5 ss) (hlen : ps.length ≤ 1048576) (hlen' : ss.length ≤ 1048576) :
    Calls Try.prog 32 #[.agg #[.slice A ps.length c, .slice A' ss.length c'], .int .i64 1] w fun e w' => ∃ r : Int, e = .returned (.int .i64 r) ∧ 0 ≤ r ∧ r ≤ 8388608 ∧ Out lo hi w w' := by
  have hk0 := Blk.new w 31 #[.slice A ps.length c, .slice A' ss.length c']
  have hB0 : Below w.heap.size w (w.alloc (.cells #[.slice A ps.length c, .slice A' ss.length c'] 31)) := (Below.refl _ _).alloc (Nat.le_refl _) _
  have hr := (hs.next hB0).room
  have hr' := (hs'.next hB0).room
  go_enter Try.func32, Try.ntmps32
  go_wp2_with fail
  refine (markPointS_weak _ _ lo hi _ _ _ hr hlen (by omega) (by omega)).mono ?_
  rintro e w1 ⟨rfl, hO1, hT1⟩
  have hr1 := hr'.other hT1 (by decide)
  have hk1 := hT1 _ _ _ (by decide) hk0
  have c0 := hk1.cell 0
  have c1 := hk1.cell 1
  go_wp2_with fail
  refine (markSegmentS_weak _ _ lo hi _ _ _ hr1 hlen' (by omega) (by omega)).mono ?_
  rintro e w2 ⟨rfl, hO2, _⟩
  go_wp2_with fail
  go_ret
  exact ⟨_, rfl, by omega, by omega, ((Out.of_below lo hi hB0).trans hO1).trans hO2⟩

end Go.Proofs.Ytjmfgncakegjaaa
