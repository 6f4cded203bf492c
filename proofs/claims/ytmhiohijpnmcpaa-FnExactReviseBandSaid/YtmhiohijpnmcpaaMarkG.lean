/-
  The contracts of the laws' markForecast and heldForecast: every number of both slices is marked; the marks are found again.
-/
import Derived.Test.YtmhiohijpnmcpaaMarkF
namespace Go.Proofs.Ytmhiohijpnmcpaa
open Go.RowKit

section
variable {α : Type} {w w' : World} {lo hi l r size : Nat} {A : Option Addr} {t u : TypeId} {enc : α → Nat → Value} {ps : List α}
theorem Sl.narrow (h : Sl w lo hi A t enc size ps) (hlh : lo ≤ hi) : ∃ l r, lo ≤ l ∧ r ≤ hi ∧ Sl w l r A t enc size ps ∧ ∀ g' t' cs', t' ≠ t → Blk w g' t' cs' → g' < l ∨ r ≤ g' := by
  rcases h with ⟨h, h0⟩ | ⟨g, e, h1, h2, cs, hb, hf⟩
  · exact ⟨lo, lo, Nat.le_refl _, hlh, .inl ⟨h, h0⟩, fun g' _ _ _ _ => Nat.lt_or_ge g' lo⟩
  · refine ⟨g, g + 1, h1, h2, .inr ⟨g, e, Nat.le_refl _, Nat.lt_succ_self _, cs, hb, hf⟩, fun g' t' cs' ht hk => ?_⟩
    have := hk.other hb ht
    omega
theorem Sl.outT (h : Sl w lo hi A t enc size ps) (ho : Out l r w w') (hd : ∀ g' t' cs', t' ≠ u → Blk w g' t' cs' → g' < l ∨ r ≤ g') (ht : t ≠ u) : Sl w' lo hi A t enc size ps :=
  h.imp id fun ⟨g, e, h1, h2, cs, hb, hf⟩ => ⟨g, e, h1, h2, cs, hb.out ho (hd g t cs ht hb), hf⟩
theorem Sl.ge_mono {lo' hi' : Nat} (h : Sl w l r A t enc size ps) (h1 : lo' ≤ l) (h2 : r ≤ hi') : Sl w lo' hi' A t enc size ps := h.mono h1 h2
end

set_option maxHeartbeats 4000000 in
theorem markTide_any (m : Int) (A : Option Addr) (c lo hi : Nat) (ps : List Part) (k : Int) (w : World) (hsl : Sl w lo hi A 91 Part.at_ 3 ps) (hlen : ps.length ≤ 1048576) (hk0 : 0 ≤ k) (hk1 : k ≤ 1048576) :
    Calls Try.prog 68 #[.agg #[.int .i64 m, .slice A ps.length c], .int .i64 k] w fun e w' => e = .returned (.int .i64 (k + 3 * (ps.length : Int))) ∧ Sl w' lo hi A 91 Part.at_ 3 (markPartL k ps.length) ∧ Out lo hi w w' := by
  have hB0 : Below w.heap.size w (w.alloc (.cells #[.int .i64 m, .slice A ps.length c] 32)) := (Below.refl _ _).alloc (Nat.le_refl _) _
  have hs0 := hsl.next hB0
  go_enter Try.func68, Try.ntmps68
  go_wp2_with fail
  refine (markPartS_any _ _ lo hi _ _ _ hs0 hlen hk0 hk1).mono ?_
  rintro e w1 ⟨rfl, hm1, hO1⟩
  go_wp2_with fail
  go_ret
  exact ⟨rfl, hm1, (Out.of_below lo hi hB0).trans hO1⟩

set_option maxHeartbeats 4000000 in
theorem markForecast_any (m : Int) (A A' : Option Addr) (c c' lo hi : Nat) (ps : List Part) (ss : List Surge) (w : World) (hlh : lo ≤ hi) (hs : Sl w lo hi A 91 Part.at_ 3 ps) (hs' : Sl w lo hi A' 66 Surge.at_ 3 ss) (hlen : ps.length ≤ 300000) (hlen' : ss.length ≤ 1048576) :
    Calls Try.prog 29 #[.agg #[.int .i64 m, .slice A ps.length c, .slice A' ss.length c'], .int .i64 1] w fun e w' => e = .returned (.int .i64 (1 + 3 * (ps.length : Int) + 3 * (ss.length : Int))) ∧
      Sl w' lo hi A 91 Part.at_ 3 (markPartL 1 ps.length) ∧ Sl w' lo hi A' 66 Surge.at_ 3 (markSurgeL (1 + 3 * (ps.length : Int)) ss.length) ∧ Out lo hi w w' := by
  have hk0 := Blk.new w 35 #[.int .i64 m, .slice A ps.length c, .slice A' ss.length c']
  have hB0 : Below w.heap.size w (w.alloc (.cells #[.int .i64 m, .slice A ps.length c, .slice A' ss.length c'] 35)) := (Below.refl _ _).alloc (Nat.le_refl _) _
  have hr' := hs'.next hB0
  obtain ⟨l, r, hl, hrr, hr, hd⟩ := (hs.next hB0).narrow hlh
  go_enter Try.func29, Try.ntmps29
  go_wp2_with fail
  refine (markTide_any _ _ _ l r _ _ _ hr (by omega) (by omega) (by omega)).mono ?_
  rintro e w1 ⟨rfl, hm1, hO1⟩
  have hs1' := hr'.outT hO1 hd (by decide)
  have hk1 := hk0.out hO1 (hd _ _ _ (by decide) hk0)
  obtain ⟨l2, r2, hl2, hr2, hs2', hd2⟩ := hs1'.narrow hlh
  have c0 := hk1.cell 0
  have c1 := hk1.cell 1
  have c2 := hk1.cell 2
  have hz1 := hO1.size
  go_wp2_with fail
  refine (markSurgeS_any _ _ l2 r2 _ _ _ hs2' hlen' (by omega) (by omega)).mono ?_
  rintro e w2 ⟨rfl, hm2, hO2⟩
  have hm1' := hm1.outT hO2 hd2 (by decide)
  go_wp2_with fail
  go_ret
  exact ⟨rfl, hm1'.mono hl hrr, hm2.mono hl2 hr2, ((Out.of_below lo hi hB0).trans (hO1.mono hl hrr)).trans (hO2.mono hl2 hr2)⟩

set_option maxHeartbeats 4000000 in
theorem heldTide_any (m : Int) (A : Option Addr) (c n : Nat) (k : Int) (w : World) (hr : Rd w w.heap.size Part.at_ 3 A (markPartL k n)) (hlen : n ≤ 300000) (hk0 : 0 ≤ k) (hk1 : k ≤ 1048576) :
    Calls Try.prog 70 #[.agg #[.int .i64 m, .slice A n c], .int .i64 k] w fun e w' => e = .returned (.int .i64 (k + 3 * (n : Int))) ∧ Below w.heap.size w w' := by
  have hB0 : Below w.heap.size w (w.alloc (.cells #[.int .i64 m, .slice A n c] 32)) := (Below.refl _ _).alloc (Nat.le_refl _) _
  go_enter Try.func70, Try.ntmps70
  go_wp2_with fail
  refine (heldPartS_any _ _ _ _ _ ((hr.below hB0).more hB0.size) (by omega) hk0 hk1).mono ?_
  rintro e w1 ⟨rfl, rfl⟩
  have hneg : ¬ k + 3 * (n : Int) < 0 := by omega
  go_wp2_with fail
  go_ret
  exact ⟨rfl, hB0⟩

set_option maxHeartbeats 4000000 in
theorem heldForecast_any (m : Int) (A A' : Option Addr) (c c' n n' : Nat) (w : World) (hr : Rd w w.heap.size Part.at_ 3 A (markPartL 1 n)) (hr' : Rd w w.heap.size Surge.at_ 3 A' (markSurgeL (1 + 3 * (n : Int)) n')) (hlen : n ≤ 300000) (hlen' : n' ≤ 1048576) :
    Calls Try.prog 30 #[.agg #[.int .i64 m, .slice A n c, .slice A' n' c'], .int .i64 1] w fun e w' => e = .returned (.int .i64 (1 + 3 * (n : Int) + 3 * (n' : Int))) ∧ Below w.heap.size w w' := by
  have hk0 := Blk.new w 35 #[.int .i64 m, .slice A n c, .slice A' n' c']
  have hB0 : Below w.heap.size w (w.alloc (.cells #[.int .i64 m, .slice A n c, .slice A' n' c'] 35)) := (Below.refl _ _).alloc (Nat.le_refl _) _
  have HR' := Lib.hid hr'
  go_enter Try.func30, Try.ntmps30
  go_wp2_with fail
  refine (heldTide_any _ _ _ _ _ _ ((hr.below hB0).more hB0.size) hlen (by omega) (by omega)).mono ?_
  rintro e w1 ⟨rfl, hb1⟩
  have hB1 := hB0.trans (hb1.mono hB0.size)
  have hk1 := hk0.next hb1
  have c0 := hk1.cell 0
  have c1 := hk1.cell 1
  have c2 := hk1.cell 2
  have hneg : ¬ 1 + 3 * (n : Int) < 0 := by omega
  go_wp2_with fail
  refine (heldSurgeS_any _ _ _ _ _ ((HR'.out.below hB1).more hB1.size) hlen' (by omega) (by omega)).mono ?_
  rintro e w2 ⟨rfl, rfl⟩
  have hneg : ¬ 1 + 3 * (n : Int) + 3 * (n' : Int) < 0 := by omega
  go_wp2_with fail
  go_ret
  exact ⟨rfl, hB1⟩

end Go.Proofs.Ytmhiohijpnmcpaa
