/-
  The contract of MakeChart.
-/
import Derived.Test.YtjmfgncakegjaaaDrawC
namespace Go.Proofs.Ytjmfgncakegjaaa
open Go.RowKit

set_option maxHeartbeats 4000000 in
theorem MakeChart_any (A : Option Addr) (c n : Nat) (zs : List Int) (w : World) (hr : Rd w w.heap.size byteAt 1 A zs) (hlen : zs.length ≤ 1048576) (hb : ∀ z ∈ zs, 0 ≤ z ∧ z ≤ 255) (hn : n ≤ 1048576) :
    Calls Try.prog 42 #[.slice A zs.length c, .int .i64 n] w fun e w' => ∃ (A1 A2 : Option Addr) (c1 c2 : Nat) (ps : List Point) (ss : List Segment), e = .returned (.agg #[.slice A1 ps.length c1, .slice A2 ss.length c2]) ∧ ss.length ≤ c2 ∧ Drawn ps ss ∧ Sl w' w.heap.size w'.heap.size A1 59 Point.at_ 2 ps ∧ Sl w' w.heap.size w'.heap.size A2 69 Segment.at_ 5 ss ∧ Below w.heap.size w w' := by
  obtain ⟨wa, hwa⟩ : ∃ wa, wa = w.alloc (.cells #[.slice none 0 0, .slice none 0 0] 31) := ⟨_, rfl⟩
  have hBa : Below w.heap.size w wa := by rw [hwa]; exact (Below.refl _ _).alloc (Nat.le_refl _) _
  have hra : Blk wa w.heap.size 31 #[.slice none 0 0, .slice none 0 0] := by rw [hwa]; exact Blk.new _ _ _
  have hla := hra.lt
  have HWA := Lib.hid hwa
  have HRA := Lib.hid ((hr.below hBa).more hBa.size)
  clear hwa
  go_enter Try.func42, Try.ntmps42
  go_wp2_with fail
  rw [← HWA.out]
  refine (l28New_any _ _ _ _ _ HRA.out hlen hb hn).mono ?_
  rintro e w1 ⟨g, rfl, hg, hc1, hb1⟩
  have hB1 := hBa.trans (hb1.mono hBa.size)
  have hr1 := hra.next hb1
  have hz1 := hb1.size
  have hgl : g < w1.heap.size := by
    obtain ⟨i, x, _, hk⟩ := hc1
    exact hk.lt
  have HR1 := Lib.hid ((hr.below hB1).more (by omega : w.heap.size ≤ g))
  clear hr hra
  go_wp2_with fail
  refine (l05Draw_any g _ _ _ _ hc1 HR1.out hlen hb).mono ?_
  rintro e w2 ⟨A1, A2, c1, c2, ps, ss, rfl, hcp, hfo, hs1, hs2, hg2⟩
  have hb2 : Below w.heap.size w w2 := hB1.grown hg2 hB1.size (fun k e => by injection e with e; omega)
  have hr2 := hr1.grown hg2 (fun e => by injection e with e; omega)
  have hz2 := hg2.size
  have r0 := hr2.cell 0
  have r1 := hr2.cell 1
  have q0 := hr2.frozen 0
  have q1 := hr2.frozen 1
  have hrl := hr2.lt
  obtain ⟨wz, hwz⟩ : ∃ wz, wz = (w2.setCell ⟨w.heap.size, 0, none⟩ (.slice A1 ps.length c1)).setCell ⟨w.heap.size, 1, none⟩ (.slice A2 ss.length c2) := ⟨_, rfl⟩
  have HZ := Lib.hid hwz
  have HS1 : Hid (Sl wz w.heap.size wz.heap.size A1 59 Point.at_ 2 ps) := Lib.hid (by
    rw [hwz]
    exact ((hs1.setCell (p := ⟨w.heap.size, 0, none⟩) (.inl (by show w.heap.size < w1.heap.size; omega)) _).setCell (p := ⟨w.heap.size, 1, none⟩) (.inl (by show w.heap.size < w1.heap.size; omega)) _).mono (by omega) (by simp [World.setCell]))
  have HS2 : Hid (Sl wz w.heap.size wz.heap.size A2 69 Segment.at_ 5 ss) := Lib.hid (by
    rw [hwz]
    exact ((hs2.setCell (p := ⟨w.heap.size, 0, none⟩) (.inl (by show w.heap.size < w1.heap.size; omega)) _).setCell (p := ⟨w.heap.size, 1, none⟩) (.inl (by show w.heap.size < w1.heap.size; omega)) _).mono (by omega) (by simp [World.setCell]))
  have HBF : Hid (Below w.heap.size w wz) := Lib.hid (by
    rw [hwz]
    exact hb2.trans (((Below.refl w.heap.size w2).setCell (p := ⟨w.heap.size, 0, none⟩) (Nat.le_refl _) _).setCell (p := ⟨w.heap.size, 1, none⟩) (Nat.le_refl _) _))
  have HFO := Lib.hid hfo
  have HCP := Lib.hid hcp
  clear hwz hs1 hs2 hr1 hr2 hg2 hfo hc1 hcp
  go_wp2_with fail
  refine bodyPost_ret (v := .agg #[.slice A1 ps.length c1, .slice A2 ss.length c2]) ?_ rfl ?_
  · simp [results, Try.results42, go_sem, r0, r1]
  · rw [← HZ.out]
    exact ⟨A1, A2, c1, c2, ps, ss, rfl, HCP.out, HFO.out, HS1.out, HS2.out, HBF.out⟩

end Go.Proofs.Ytjmfgncakegjaaa
