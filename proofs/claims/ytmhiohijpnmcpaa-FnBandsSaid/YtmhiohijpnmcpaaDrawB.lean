/-
  The contracts of draws: a number below a bound; one of five numbers; a part of a tide; a tide.
-/
import Derived.Test.YtmhiohijpnmcpaaCur
import Derived.Test.YtmhiohijpnmcpaaGrow
import Derived.Test.YtmhiohijpnmcpaaModelB
import Derived.Deep.AppendLies
namespace Go.Proofs.Ytmhiohijpnmcpaa
open Go.RowKit

theorem grown_below {w a b : World} {g : Nat} (h : w.grownBy a (some g)) (k : Below w.heap.size a b) : w.grownBy b (some g) :=
  ⟨k.os.trans h.os, k.tape.trans h.tape, k.output.trans h.output, Nat.le_trans h.size k.size, fun i hi hn => (k.block i hi).trans (h.block i hi hn)⟩
theorem ownsRow_grown {w w' : World} {base g size n : Nat} {e : TypeId} {v : Value} {xs : List Value} (h : w.ownsRow base e size v n xs) (hb : w.grownBy w' (some g)) (hg : g < base) : w'.ownsRow base e size v n xs :=
  ⟨h.1, h.2.imp id fun ⟨q, cap, cur, hv, hq, hc, rest⟩ => ⟨q, cap, cur, hv, hq, (hb.block q (Array.getElem?_eq_some_iff.1 hc).1 (fun e => by injection e with e; omega)).trans hc, rest⟩⟩
theorem Cur.below {w w' : World} {B g n c : Nat} {A : Option Addr} (h : Cur w g A n c) (hb : Below B w w') (hg : g < B) : Cur w' g A n c := by
  obtain ⟨i, x, hi, hk⟩ := h
  exact ⟨i, x, hi, hk.below hb hg⟩
set_option maxHeartbeats 4000000 in
/-- n above 256. -/
theorem l01Big_any (g : Nat) (n : Int) (A : Option Addr) (c : Nat) (zs : List Int) (w : World) (hc : Cur w g A zs.length c) (hr : Rd w g byteAt 1 A zs) (hlen : zs.length ≤ 1048576) (hb : ∀ z ∈ zs, 0 ≤ z ∧ z ≤ 255) (hn : 257 ≤ n ∧ n ≤ 65536) :
    Calls Try.prog 98 #[.pointer (some ⟨g, 0, none⟩), .int .i64 n] w (NumPost (n - 1) g A zs.length c w) := by
  go_enter Try.func98, Try.ntmps98
  have hn1 := hn.1
  have hn2 := hn.2
  have RR : ∀ W, w.grownBy W (some g) → Rd W g byteAt 1 A zs := fun W h => hr.keep fun p hp => World.cell?_of_block (h.block p.block (by
    obtain ⟨i, x, _, hk⟩ := hc
    have := hk.lt
    omega) (fun e => by injection e with e; omega))
  have HRR := Lib.hid RR
  clear RR
  go_wp2_with fail
  refine (l01Byte_any _ _ _ _ _ hc hr hlen hb).mono ?_
  rintro e w1 ⟨x, rfl, hx1, hx2, hc1, hg1⟩
  go_wp2_with fail
  refine (l01Byte_any _ _ _ _ _ hc1 (HRR.out _ hg1) hlen hb).mono ?_
  rintro e w2 ⟨y, rfl, hy1, hy2, hc2, hg2'⟩
  have hg2 := hg1.trans hg2'
  go_wp2_with fail
  refine (l01Byte_any _ _ _ _ _ hc2 (HRR.out _ hg2) hlen hb).mono ?_
  rintro e w3 ⟨z, rfl, hz1, hz2, hc3, hg3'⟩
  have hg3 := hg2.trans hg3'
  go_wp2_with fail
  refine (l01Byte_any _ _ _ _ _ hc3 (HRR.out _ hg3) hlen hb).mono ?_
  rintro e w4 ⟨u, rfl, hu1, hu2, hc4, hg4'⟩
  have hg4 := hg3.trans hg4'
  obtain ⟨s, hs⟩ : ∃ s, s = x * 16777216 + y * 65536 + z * 256 + u := ⟨_, rfl⟩
  have hs0 : 0 ≤ s := by omega
  have e1 : IntKind.i64.wrap (x * 16777216) = x * 16777216 := IntWalk.i64_in _ (by omega)
  have e2 : IntKind.i64.wrap (y * 65536) = y * 65536 := IntWalk.i64_in _ (by omega)
  have e3 : IntKind.i64.wrap (z * 256) = z * 256 := IntWalk.i64_in _ (by omega)
  have e4 : IntKind.i64.wrap (x * 16777216 + y * 65536) = x * 16777216 + y * 65536 := IntWalk.i64_in _ (by omega)
  have e5 : IntKind.i64.wrap (x * 16777216 + y * 65536 + z * 256) = x * 16777216 + y * 65536 + z * 256 := IntWalk.i64_in _ (by omega)
  have e6 : IntKind.i64.wrap (x * 16777216 + y * 65536 + z * 256 + u) = x * 16777216 + y * 65536 + z * 256 + u := IntWalk.i64_in _ (by omega)
  have HS := Lib.hid hs
  have e7 : IntKind.i64.wrap ((x * 16777216 + y * 65536 + z * 256 + u).tmod n) = (x * 16777216 + y * 65536 + z * 256 + u).tmod n := IntWalk.i64_in _ (by rw [← HS.out, Int.tmod_eq_emod_of_nonneg hs0]; have := Int.emod_nonneg s (show n ≠ 0 by omega); have := Int.emod_lt_of_pos s (show 0 < n by omega); omega)
  clear hs
  go_wp2_with fail
  go_ret
  refine ⟨_, rfl, ?_, ?_, hc4, hg4⟩
  · rw [← HS.out]
    exact Int.emod_nonneg s (show n ≠ 0 by omega)
  · rw [← HS.out]
    have := Int.emod_lt_of_pos s (show 0 < n by omega)
    omega


theorem l01Num_any (g : Nat) (n : Int) (A : Option Addr) (c : Nat) (zs : List Int) (w : World) (hc : Cur w g A zs.length c) (hr : Rd w g byteAt 1 A zs) (hlen : zs.length ≤ 1048576) (hb : ∀ z ∈ zs, 0 ≤ z ∧ z ≤ 255) (hn : 1 ≤ n ∧ n ≤ 65536) :
    Calls Try.prog 98 #[.pointer (some ⟨g, 0, none⟩), .int .i64 n] w (NumPost (n - 1) g A zs.length c w) := by
  by_cases h : n ≤ 256
  · exact l01Below_any g n A c zs w hc hr hlen hb ⟨hn.1, h⟩
  · exact l01Big_any g n A c zs w hc hr hlen hb ⟨by omega, hn.2⟩

def fiveC : Array Value := #[.int .i64 744, .int .i64 720, .int .i64 1440, .int .i64 372, .int .i64 240]
set_option maxHeartbeats 2000000 in
theorem l01Pick_any (g b : Nat) (A : Option Addr) (c : Nat) (zs : List Int) (w : World) (hc : Cur w g A zs.length c) (hr : Rd w g byteAt 1 A zs) (hlen : zs.length ≤ 1048576) (hb : ∀ z ∈ zs, 0 ≤ z ∧ z ≤ 255) (hk : Blk w b 3 #[.int .i64 744, .int .i64 720, .int .i64 1440, .int .i64 372, .int .i64 240]) (hne : b ≠ g) :
    Calls Try.prog 104 #[.pointer (some ⟨g, 0, none⟩), .slice (some ⟨b, 0, none⟩) 5 5] w fun e w' => ∃ x : Int, e = .returned (.int .i64 x) ∧ (x = 744 ∨ x = 720 ∨ x = 1440 ∨ x = 372 ∨ x = 240) ∧ Cur w' g A zs.length c ∧ w.grownBy w' (some g) := by
  go_enter Try.func104, Try.ntmps104
  go_wp2_with fail
  refine (l01Below_any g 5 A c zs w hc hr hlen hb (by omega)).mono ?_
  rintro e w1 ⟨k, rfl, hk0, hk1, hc1, hg1⟩
  have hk2 := hk.grown hg1 (fun e => by injection e with e; omega)
  have c0 := hk2.cell 0
  have c1 := hk2.cell 1
  have c2 := hk2.cell 2
  have c3 := hk2.cell 3
  have c4 := hk2.cell 4
  have hkc : k = 0 ∨ k = 1 ∨ k = 2 ∨ k = 3 ∨ k = 4 := by omega
  clear hk hk2 hk0 hk1
  rcases hkc with rfl | rfl | rfl | rfl | rfl
  all_goals
    go_wp2_with fail
    go_ret
    exact ⟨_, rfl, by omega, hc1, hg1⟩

/-- A call that hands back a valid part and turns block g alone besides. -/
def PartPost (g : Nat) (A : Option Addr) (n c : Nat) (w : World) (e : Ending) (w' : World) : Prop :=
  ∃ p : Part, e = .returned (.agg #[.int .i64 p.amp, .int .i64 p.period, .int .i64 p.phase]) ∧ partOk p = true ∧ Cur w' g A n c ∧ w.grownBy w' (some g)

set_option maxHeartbeats 4000000 in
theorem l02Part_any (g : Nat) (A : Option Addr) (c : Nat) (zs : List Int) (w : World) (hc : Cur w g A zs.length c) (hr : Rd w g byteAt 1 A zs) (hlen : zs.length ≤ 1048576) (hb : ∀ z ∈ zs, 0 ≤ z ∧ z ≤ 255) :
    Calls Try.prog 103 #[.pointer (some ⟨g, 0, none⟩)] w (PartPost g A zs.length c w) := by
  have hgl : g < w.heap.size := by
    obtain ⟨i, x, _, hk⟩ := hc
    exact hk.lt
  have HRR : Hid (∀ W, w.grownBy W (some g) → Rd W g byteAt 1 A zs) := Lib.hid fun W h => hr.keep fun p hp => World.cell?_of_block (h.block p.block (by omega) (fun e => by injection e with e; omega))
  obtain ⟨wa, hwa⟩ : ∃ wa, wa = w.alloc (.cells #[.int .i64 0, .int .i64 0, .int .i64 0] 91) := ⟨_, rfl⟩
  have hBa : Below w.heap.size w wa := by rw [hwa]; exact (Below.refl _ _).alloc (Nat.le_refl _) _
  have hga : w.grownBy wa (some g) := grown_below (World.grownBy.refl w _) hBa
  have hca := hc.below hBa hgl
  have hra : Blk wa w.heap.size 91 #[.int .i64 0, .int .i64 0, .int .i64 0] := by rw [hwa]; exact Blk.new _ _ _
  have HWA := Lib.hid hwa
  have HRA := Lib.hid (HRR.out _ hga)
  have HGA := Lib.hid hga
  clear hr hwa hc hga
  go_enter Try.func103, Try.ntmps103
  go_wp2_with fail
  rw [← HWA.out]
  refine (l01Num_any g 300 A c zs wa hca HRA.out hlen hb (by omega)).mono ?_
  rintro e w1 ⟨x, rfl, hx0, hx1, hc1, hg1'⟩
  have hg1 := HGA.out.trans hg1'
  have hz1 := hg1.size
  have hr1 := hra.grown hg1' (fun e => by injection e with e; omega)
  have hl1 := hr1.lt
  obtain ⟨wb, hwb⟩ : ∃ wb, wb = w1.alloc (.cells #[.int .i64 744, .int .i64 720, .int .i64 1440, .int .i64 372, .int .i64 240] 3) := ⟨_, rfl⟩
  have hBb : Below w.heap.size w1 wb := by rw [hwb]; exact (Below.refl _ _).alloc (by omega) _
  have hgb := grown_below hg1 hBb
  have hcb := hc1.below hBb hgl
  have hkb : Blk wb w1.heap.size 3 #[.int .i64 744, .int .i64 720, .int .i64 1440, .int .i64 372, .int .i64 240] := by rw [hwb]; exact Blk.new _ _ _
  have hrb : Blk wb w.heap.size 91 #[.int .i64 0, .int .i64 0, .int .i64 0] := by rw [hwb]; exact hr1.alloc _
  have HWB := Lib.hid hwb
  have HRB := Lib.hid (HRR.out _ hgb)
  clear hwb hca hra hr1 hc1
  go_wp2_with fail
  rw [← HWB.out]
  refine (l01Pick_any g w1.heap.size A c zs wb hcb HRB.out hlen hb hkb (by omega)).mono ?_
  rintro e w2 ⟨y, rfl, hy, hc2, hg2'⟩
  have hg2 := hgb.trans hg2'
  have hz2 := hg2.size
  have hr2 := hrb.grown hg2' (fun e => by injection e with e; omega)
  have hy1 : 240 ≤ y ∧ y ≤ 1440 ∧ y % 4 = 0 := by omega
  have hl2 := hr2.lt
  have hperY := Lib.hid (isPer_mk (p := y) (by omega) (by omega) hy1.2.2)
  obtain ⟨hy2, hy3, _⟩ := hy1
  obtain ⟨wc, hwc⟩ : ∃ wc, wc = w2.alloc (.cells #[.int .i64 x, .int .i64 y, .int .i64 0] 91) := ⟨_, rfl⟩
  have hBc : Below w.heap.size w2 wc := by rw [hwc]; exact (Below.refl _ _).alloc (by omega) _
  have hgc := grown_below hg2 hBc
  have hcc := hc2.below hBc hgl
  have hkc : Blk wc w2.heap.size 91 #[.int .i64 x, .int .i64 y, .int .i64 0] := by rw [hwc]; exact Blk.new _ _ _
  have hrc : Blk wc w.heap.size 91 #[.int .i64 0, .int .i64 0, .int .i64 0] := by rw [hwc]; exact hr2.alloc _
  have HWC := Lib.hid hwc
  have HRC := Lib.hid (HRR.out _ hgc)
  clear hwc hcb hkb hrb hr2 hc2 hy
  go_wp2_with fail
  rw [← HWC.out]
  refine (l01Num_any g y A c zs wc hcc HRC.out hlen hb (by omega)).mono ?_
  rintro e w3 ⟨z, rfl, hz0, hz1', hc3, hg3'⟩
  have hg3 := hgc.trans hg3'
  have hk3 := hkc.grown hg3' (fun e => by injection e with e; omega)
  have hr3 := hrc.grown hg3' (fun e => by injection e with e; omega)
  have k0 := hk3.cell 0
  have k1 := hk3.cell 1
  have k2 := hk3.cell 2
  have f2 := hk3.frozen 2
  have r0 := hr3.cell 0
  have r1 := hr3.cell 1
  have r2 := hr3.cell 2
  have q0 := hr3.frozen 0
  have q1 := hr3.frozen 1
  have q2 := hr3.frozen 2
  have hl3 := hk3.lt
  have hl4 := hr3.lt
  have hne : ¬ w2.heap.size = w.heap.size := by omega
  have hne2 : ¬ w.heap.size = w2.heap.size := by omega
  have HPOK := Lib.hid (show partOk ⟨x, y, z⟩ = true by
    unfold partOk
    rw [inB_mk (by dsimp only; omega), hperY.out, inB_mk (by dsimp only; omega)]
    rfl)
  have hgend : ∀ W, Below w.heap.size w3 W → w.grownBy W (some g) ∧ Cur W g A zs.length c := fun W h => ⟨grown_below hg3 h, hc3.below h hgl⟩
  have HGE := Lib.hid hgend
  have hzz : w.heap.size ≤ w2.heap.size := by omega
  clear hcc hkc hrc hgend hk3 hr3
  go_wp2_with fail
  refine bodyPost_ret (v := .agg #[.int .i64 x, .int .i64 y, .int .i64 z]) ?_ rfl ?_
  · simp [results, Try.results103, go_sem, r0, r1, r2]
  · have hfin : Below w.heap.size w3 _ := (((Below.refl w.heap.size w3).setCell (p := ⟨w2.heap.size, 2, none⟩) hzz (.int .i64 z)).setCell (p := ⟨w.heap.size, 0, none⟩) (Nat.le_refl _) (.int .i64 x)).setCell (p := ⟨w.heap.size, 1, none⟩) (Nat.le_refl _) (.int .i64 y)
    have hfin2 := hfin.setCell (p := ⟨w.heap.size, 2, none⟩) (Nat.le_refl _) (.int .i64 z)
    exact ⟨⟨x, y, z⟩, rfl, HPOK.out, (HGE.out _ hfin2).2, (HGE.out _ hfin2).1⟩

end Go.Proofs.Ytmhiohijpnmcpaa
