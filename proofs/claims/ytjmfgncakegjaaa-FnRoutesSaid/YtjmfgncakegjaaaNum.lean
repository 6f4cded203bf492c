/-
  The contracts of draws: a number below a bound, of whatever size; once in n.
-/
import Derived.Test.YtjmfgncakegjaaaCur
import Derived.Test.YtjmfgncakegjaaaGrow
namespace Go.Proofs.Ytjmfgncakegjaaa
open Go.RowKit

theorem grown_below {w a b : World} {g : Nat} (h : w.grownBy a (some g)) (k : Below w.heap.size a b) : w.grownBy b (some g) :=
  ⟨k.os.trans h.os, k.tape.trans h.tape, k.output.trans h.output, Nat.le_trans h.size k.size, fun i hi hn => (k.block i hi).trans (h.block i hi hn)⟩
theorem ownsRow_grown {w w' : World} {base g size n : Nat} {e : TypeId} {v : Value} {xs : List Value} (h : w.ownsRow base e size v n xs) (hb : w.grownBy w' (some g)) (hg : g < base) : w'.ownsRow base e size v n xs :=
  ⟨h.1, h.2.imp id fun ⟨q, cap, cur, hv, hq, hc, rest⟩ => ⟨q, cap, cur, hv, hq, (hb.block q (Array.getElem?_eq_some_iff.1 hc).1 (fun e => by injection e with e; omega)).trans hc, rest⟩⟩
theorem Cur.below {w w' : World} {B g n c : Nat} {A : Option Addr} (h : Cur w g A n c) (hb : Below B w w') (hg : g < B) : Cur w' g A n c := by
  obtain ⟨i, x, hi, hk⟩ := h
  exact ⟨i, x, hi, hk.below hb hg⟩
set_option maxHeartbeats 4000000 in
/-- n above 256. -/
theorem l01Big_any (g : Nat) (n : Int) (A : Option Addr) (c : Nat) (zs : List Int) (w : World) (hc : Cur w g A zs.length c) (hr : Rd w g byteAt 1 A zs) (hlen : zs.length ≤ 1048576) (hb : ∀ z ∈ zs, 0 ≤ z ∧ z ≤ 255) (hn : 257 ≤ n ∧ n ≤ 65536) :
    Calls Try.prog 77 #[.pointer (some ⟨g, 0, none⟩), .int .i64 n] w (NumPost (n - 1) g A zs.length c w) := by
  go_enter Try.func77, Try.ntmps77
  have hn1 := hn.1
  have hn2 := hn.2
  have RR : ∀ W, w.grownBy W (some g) → Rd W g byteAt 1 A zs := fun W h => hr.keep fun p hp => World.cell?_of_block (h.block p.block (by
    obtain ⟨i, x, _, hk⟩ := hc
    have := hk.lt
    omega) (fun e => by injection e with e; omega))
  have HRR := Lib.hid RR
  clear RR
  go_wp2_with fail
  refine (l01Byte_any _ _ _ _ _ hc hr hlen hb).mono ?_
  rintro e w1 ⟨x, rfl, hx1, hx2, hc1, hg1⟩
  go_wp2_with fail
  refine (l01Byte_any _ _ _ _ _ hc1 (HRR.out _ hg1) hlen hb).mono ?_
  rintro e w2 ⟨y, rfl, hy1, hy2, hc2, hg2'⟩
  have hg2 := hg1.trans hg2'
  go_wp2_with fail
  refine (l01Byte_any _ _ _ _ _ hc2 (HRR.out _ hg2) hlen hb).mono ?_
  rintro e w3 ⟨z, rfl, hz1, hz2, hc3, hg3'⟩
  have hg3 := hg2.trans hg3'
  go_wp2_with fail
  refine (l01Byte_any _ _ _ _ _ hc3 (HRR.out _ hg3) hlen hb).mono ?_
  rintro e w4 ⟨u, rfl, hu1, hu2, hc4, hg4'⟩
  have hg4 := hg3.trans hg4'
  obtain ⟨s, hs⟩ : ∃ s, s = x * 16777216 + y * 65536 + z * 256 + u := ⟨_, rfl⟩
  have hs0 : 0 ≤ s := by omega
  have e1 : IntKind.i64.wrap (x * 16777216) = x * 16777216 := IntWalk.i64_in _ (by omega)
  have e2 : IntKind.i64.wrap (y * 65536) = y * 65536 := IntWalk.i64_in _ (by omega)
  have e3 : IntKind.i64.wrap (z * 256) = z * 256 := IntWalk.i64_in _ (by omega)
  have e4 : IntKind.i64.wrap (x * 16777216 + y * 65536) = x * 16777216 + y * 65536 := IntWalk.i64_in _ (by omega)
  have e5 : IntKind.i64.wrap (x * 16777216 + y * 65536 + z * 256) = x * 16777216 + y * 65536 + z * 256 := IntWalk.i64_in _ (by omega)
  have e6 : IntKind.i64.wrap (x * 16777216 + y * 65536 + z * 256 + u) = x * 16777216 + y * 65536 + z * 256 + u := IntWalk.i64_in _ (by omega)
  have HS := Lib.hid hs
  have e7 : IntKind.i64.wrap ((x * 16777216 + y * 65536 + z * 256 + u).tmod n) = (x * 16777216 + y * 65536 + z * 256 + u).tmod n := IntWalk.i64_in _ (by rw [← HS.out, Int.tmod_eq_emod_of_nonneg hs0]; have := Int.emod_nonneg s (show n ≠ 0 by omega); have := Int.emod_lt_of_pos s (show 0 < n by omega); omega)
  clear hs
  go_wp2_with fail
  go_ret
  refine ⟨_, rfl, ?_, ?_, hc4, hg4⟩
  · rw [← HS.out]
    exact Int.emod_nonneg s (show n ≠ 0 by omega)
  · rw [← HS.out]
    have := Int.emod_lt_of_pos s (show 0 < n by omega)
    omega


theorem l01Num_any (g : Nat) (n : Int) (A : Option Addr) (c : Nat) (zs : List Int) (w : World) (hc : Cur w g A zs.length c) (hr : Rd w g byteAt 1 A zs) (hlen : zs.length ≤ 1048576) (hb : ∀ z ∈ zs, 0 ≤ z ∧ z ≤ 255) (hn : 1 ≤ n ∧ n ≤ 65536) :
    Calls Try.prog 77 #[.pointer (some ⟨g, 0, none⟩), .int .i64 n] w (NumPost (n - 1) g A zs.length c w) := by
  by_cases h : n ≤ 256
  · exact l01Below_any g n A c zs w hc hr hlen hb ⟨hn.1, h⟩
  · exact l01Big_any g n A c zs w hc hr hlen hb ⟨by omega, hn.2⟩


set_option maxHeartbeats 2000000 in
theorem l01Once_any (g : Nat) (n : Int) (A : Option Addr) (c : Nat) (zs : List Int) (w : World) (hc : Cur w g A zs.length c) (hr : Rd w g byteAt 1 A zs) (hlen : zs.length ≤ 1048576) (hb : ∀ z ∈ zs, 0 ≤ z ∧ z ≤ 255) (hn : 1 ≤ n ∧ n ≤ 65536) :
    Calls Try.prog 76 #[.pointer (some ⟨g, 0, none⟩), .int .i64 n] w fun e w' => ∃ y : Bool, e = .returned (.bool y) ∧ Cur w' g A zs.length c ∧ w.grownBy w' (some g) := by
  go_enter Try.func76, Try.ntmps76
  go_wp2_with fail
  refine (l01Num_any _ _ _ _ _ _ hc hr hlen hb hn).mono ?_
  rintro e w1 ⟨x, rfl, hx1, hx2, hc1, hg1⟩
  go_wp2_with fail
  go_ret
  exact ⟨_, rfl, hc1, hg1⟩

end Go.Proofs.Ytjmfgncakegjaaa
