/-
  The contracts of the laws' markPartS, markSurgeS, markTide, markForecast, as far as they are used: they write into their slices alone.
-/
import Derived.Test.YtmhiohijpnmcpaaForeL
namespace Go.Proofs.Ytmhiohijpnmcpaa
open Go.RowKit

theorem Out.setCell {lo hi : Nat} {w w' : World} (h : Out lo hi w w') {p : Addr} (h1 : lo ≤ p.block) (h2 : p.block < hi) (u : Value) : Out lo hi w (w'.setCell p u) :=
  ⟨h.os, h.tape, h.output, by simpa [World.setCell] using h.size, fun k hk ho => (Below.heap_setCell w' p u k (by omega)).trans (h.block k hk ho)⟩
theorem Blk.out {lo hi g : Nat} {t : TypeId} {cs : Array Value} {w w' : World} (h : Blk w g t cs) (ho : Out lo hi w w') (hd : g < lo ∨ hi ≤ g) : Blk w' g t cs := (ho.block g h.lt hd).trans h
theorem Blk.other {g g' : Nat} {t t' : TypeId} {cs cs' : Array Value} {w : World} (h : Blk w g t cs) (h' : Blk w g' t' cs') (ht : t ≠ t') : g ≠ g' := fun e => by
  subst e
  unfold Blk at h h'
  rw [h] at h'
  cases h'
  exact ht rfl
/-- A slice at the head of a block with room for n records. -/
def Room (w : World) (lo hi : Nat) (A : Option Addr) (t : TypeId) (size n : Nat) : Prop := (A = none ∧ n = 0) ∨ ∃ g cs, A = some ⟨g, 0, none⟩ ∧ lo ≤ g ∧ g < hi ∧ Blk w g t cs ∧ n * size ≤ cs.size
theorem Sl.room {α : Type} {w : World} {lo hi size : Nat} {A : Option Addr} {t : TypeId} {enc : α → Nat → Value} {ps : List α} (h : Sl w lo hi A t enc size ps) : Room w lo hi A t size ps.length := by
  rcases h with ⟨h, h0⟩ | ⟨g, e, h1, h2, cs, hb, hf⟩
  · exact .inl ⟨h, by rw [h0]; rfl⟩
  · exact .inr ⟨g, cs, e, h1, h2, hb, hf.1⟩
/-- Blocks of another type are as they were. -/
def Other (t : TypeId) (w w' : World) : Prop := ∀ g u cs, u ≠ t → Blk w g u cs → Blk w' g u cs
theorem Room.other {w w' : World} {lo hi n size : Nat} {A : Option Addr} {t u : TypeId} (h : Room w lo hi A t size n) (ho : Other u w w') (ht : t ≠ u) : Room w' lo hi A t size n :=
  h.imp id fun ⟨g, cs, e, h1, h2, hb, hs⟩ => ⟨g, cs, e, h1, h2, ho g t cs ht hb, hs⟩
theorem Other.next {t : TypeId} {a w w' : World} (h : Other t a w) (hb : Below w.heap.size w w') : Other t a w' := fun g u cs hu hk => (h g u cs hu hk).next hb
theorem Other.set_ {t : TypeId} {a w : World} {g : Nat} {cs : Array Value} (h : Other t a w) (hb : Blk w g t cs) (i : Nat) (u : Value) : Other t a (w.setCell ⟨g, i, none⟩ u) := fun g' u' cs' hu hk => by
  have h1 := h g' u' cs' hu hk
  exact h1.far (h1.other hb hu) u

set_option maxHeartbeats 4000000 in
theorem markPartS_weak (A : Option Addr) (c lo hi n : Nat) (k : Int) (w : World) (hst : Room w lo hi A 91 3 n) (hlen : n ≤ 1048576) (hk0 : 0 ≤ k) (hk1 : k ≤ 8388608) :
    Calls Try.prog 93 #[.slice A n c, .int .i64 k] w fun e w' => e = .returned (.int .i64 (k + 3 * (n : Int))) ∧ Out lo hi w w' ∧ Other 91 w w' := by
  go_enter Try.func93, Try.ntmps93
  go_wp2_with fail
  go_loopw [1, 5] (fun q i wr => ∃ j : Nat, j ≤ n ∧ i = .int .i64 j ∧ q = .int .i64 (k + 3 * (j : Int)) ∧ Room wr lo hi A 91 3 n ∧ Out lo hi w wr ∧ Other 91 w wr) (fun _ i _ => n - (intOf i).toNat)
  case atStart => exact ⟨0, Nat.zero_le _, rfl, by simp, hst, Out.of_below lo hi (Below.refl _ _), fun _ _ _ _ h => h⟩
  case round =>
    clear hst
    obtain ⟨j, hj, rfl, rfl, hst, hout, hoth⟩ := hrel
    by_cases hlt : j < n
    · rcases hst with ⟨_, h0⟩ | ⟨g, cs, rfl, hg1, hg2, hblk, hcs⟩
      · omega
      have room : ∀ q, q < 3 → ∃ v, cs[j * 3 + q]? = some v := fun q hq => ⟨_, Array.getElem?_eq_getElem (by omega)⟩
      obtain ⟨z0, e0⟩ := room 0 (by omega)
      obtain ⟨z1, e1⟩ := room 1 (by omega)
      obtain ⟨z2, e2⟩ := room 2 (by omega)
      have hz := hout.size
      have hgw : g < wr.heap.size := hblk.lt
      have hb := hblk
      have hO := hout
      have hT := hoth
      have d0 := (hb.cell (j * 3 + 0)).trans e0
      have f0 := hb.frozen (j * 3 + 0)
      have d1 := (hb.cell (j * 3 + 1)).trans e1
      have f1 := hb.frozen (j * 3 + 1)
      have d2 := (hb.cell (j * 3 + 2)).trans e2
      have f2 := hb.frozen (j * 3 + 2)
      simp only [Nat.add_zero] at d0 f0
      clear e0 e1 e2 room hblk hout hoth
      go_wp2_with fail
      go_roundw
      case rel => exact ⟨j + 1, by omega, by go_num, by go_num, .inr ⟨g, _, rfl, hg1, hg2, (((hb.set_ _ _).set_ _ _).set_ _ _), by simp; omega⟩, (((hO.setCell hg1 hg2 _).setCell hg1 hg2 _).setCell hg1 hg2 _), (((hT.set_ hb _ _).set_ (hb.set_ _ _) _ _).set_ ((hb.set_ _ _).set_ _ _) _ _)⟩
      case measure => simp [intOf]; omega
    · have hk' : j = n := by omega
      subst hk'
      go_wp2_with fail
      go_ret
      exact ⟨rfl, hout, hoth⟩

set_option maxHeartbeats 4000000 in
theorem markSurgeS_weak (A : Option Addr) (c lo hi n : Nat) (k : Int) (w : World) (hst : Room w lo hi A 66 3 n) (hlen : n ≤ 1048576) (hk0 : 0 ≤ k) (hk1 : k ≤ 8388608) :
    Calls Try.prog 69 #[.slice A n c, .int .i64 k] w fun e w' => e = .returned (.int .i64 (k + 3 * (n : Int))) ∧ Out lo hi w w' ∧ Other 66 w w' := by
  go_enter Try.func69, Try.ntmps69
  go_wp2_with fail
  go_loopw [1, 5] (fun q i wr => ∃ j : Nat, j ≤ n ∧ i = .int .i64 j ∧ q = .int .i64 (k + 3 * (j : Int)) ∧ Room wr lo hi A 66 3 n ∧ Out lo hi w wr ∧ Other 66 w wr) (fun _ i _ => n - (intOf i).toNat)
  case atStart => exact ⟨0, Nat.zero_le _, rfl, by simp, hst, Out.of_below lo hi (Below.refl _ _), fun _ _ _ _ h => h⟩
  case round =>
    clear hst
    obtain ⟨j, hj, rfl, rfl, hst, hout, hoth⟩ := hrel
    by_cases hlt : j < n
    · rcases hst with ⟨_, h0⟩ | ⟨g, cs, rfl, hg1, hg2, hblk, hcs⟩
      · omega
      have room : ∀ q, q < 3 → ∃ v, cs[j * 3 + q]? = some v := fun q hq => ⟨_, Array.getElem?_eq_getElem (by omega)⟩
      obtain ⟨z0, e0⟩ := room 0 (by omega)
      obtain ⟨z1, e1⟩ := room 1 (by omega)
      obtain ⟨z2, e2⟩ := room 2 (by omega)
      have hz := hout.size
      have hgw : g < wr.heap.size := hblk.lt
      have hb := hblk
      have hO := hout
      have hT := hoth
      have d0 := (hb.cell (j * 3 + 0)).trans e0
      have f0 := hb.frozen (j * 3 + 0)
      have d1 := (hb.cell (j * 3 + 1)).trans e1
      have f1 := hb.frozen (j * 3 + 1)
      have d2 := (hb.cell (j * 3 + 2)).trans e2
      have f2 := hb.frozen (j * 3 + 2)
      simp only [Nat.add_zero] at d0 f0
      clear e0 e1 e2 room hblk hout hoth
      go_wp2_with fail
      go_roundw
      case rel => exact ⟨j + 1, by omega, by go_num, by go_num, .inr ⟨g, _, rfl, hg1, hg2, (((hb.set_ _ _).set_ _ _).set_ _ _), by simp; omega⟩, (((hO.setCell hg1 hg2 _).setCell hg1 hg2 _).setCell hg1 hg2 _), (((hT.set_ hb _ _).set_ (hb.set_ _ _) _ _).set_ ((hb.set_ _ _).set_ _ _) _ _)⟩
      case measure => simp [intOf]; omega
    · have hk' : j = n := by omega
      subst hk'
      go_wp2_with fail
      go_ret
      exact ⟨rfl, hout, hoth⟩

set_option maxHeartbeats 4000000 in
theorem markTide_weak (m : Int) (A : Option Addr) (c lo hi n : Nat) (k : Int) (w : World) (hst : Room w lo hi A 91 3 n) (hlen : n ≤ 1048576) (hk0 : 0 ≤ k) (hk1 : k ≤ 8388608) :
    Calls Try.prog 68 #[.agg #[.int .i64 m, .slice A n c], .int .i64 k] w fun e w' => e = .returned (.int .i64 (k + 3 * (n : Int))) ∧ Out lo hi w w' ∧ ∀ g u cs, u ≠ 91 → Blk w g u cs → Blk w' g u cs := by
  have hB0 : Below w.heap.size w (w.alloc (.cells #[.int .i64 m, .slice A n c] 32)) := (Below.refl _ _).alloc (Nat.le_refl _) _
  have hr : Room (w.alloc (.cells #[.int .i64 m, .slice A n c] 32)) lo hi A 91 3 n := hst.imp id fun ⟨g, cs, e, h1, h2, hb, hs⟩ => ⟨g, cs, e, h1, h2, hb.alloc _, hs⟩
  go_enter Try.func68, Try.ntmps68
  go_wp2_with fail
  refine (markPartS_weak _ _ lo hi _ _ _ hr hlen hk0 hk1).mono ?_
  rintro e w1 ⟨rfl, hO1, hT1⟩
  go_wp2_with fail
  go_ret
  exact ⟨rfl, (Out.of_below lo hi hB0).trans hO1, fun g u cs hu hk => hT1 g u cs hu (hk.alloc _)⟩

set_option maxHeartbeats 4000000 in
theorem markForecast_weak (m : Int) (A A' : Option Addr) (c c' lo hi : Nat) (ps : List Part) (ss : List Surge) (w : World) (hs : Sl w lo hi A 91 Part.at_ 3 ps) (hs' : Sl w lo hi A' 66 Surge.at_ 3 ss) (hlen : ps.length ≤ 1048576) (hlen' : ss.length ≤ 1048576) :
    Calls Try.prog 29 #[.agg #[.int .i64 m, .slice A ps.length c, .slice A' ss.length c'], .int .i64 1] w fun e w' => ∃ r : Int, e = .returned (.int .i64 r) ∧ 0 ≤ r ∧ r ≤ 8388608 ∧ Out lo hi w w' := by
  have hk0 := Blk.new w 35 #[.int .i64 m, .slice A ps.length c, .slice A' ss.length c']
  have hB0 : Below w.heap.size w (w.alloc (.cells #[.int .i64 m, .slice A ps.length c, .slice A' ss.length c'] 35)) := (Below.refl _ _).alloc (Nat.le_refl _) _
  have hr := (hs.next hB0).room
  have hr' := (hs'.next hB0).room
  go_enter Try.func29, Try.ntmps29
  go_wp2_with fail
  refine (markTide_weak _ _ _ lo hi _ _ _ hr hlen (by omega) (by omega)).mono ?_
  rintro e w1 ⟨rfl, hO1, hT1⟩
  have hr1 : Room w1 lo hi A' 66 3 ss.length := hr'.imp id fun ⟨g, cs, e, h1, h2, hb, hs⟩ => ⟨g, cs, e, h1, h2, hT1 g _ cs (by decide) hb, hs⟩
  have hk1 := hT1 _ _ _ (by decide) hk0
  have c0 := hk1.cell 0
  have c1 := hk1.cell 1
  have c2 := hk1.cell 2
  go_wp2_with fail
  refine (markSurgeS_weak _ _ lo hi _ _ _ hr1 hlen' (by omega) (by omega)).mono ?_
  rintro e w2 ⟨rfl, hO2, _⟩
  go_wp2_with fail
  go_ret
  exact ⟨_, rfl, by omega, by omega, ((Out.of_below lo hi hB0).trans hO1).trans hO2⟩

end Go.Proofs.Ytmhiohijpnmcpaa
