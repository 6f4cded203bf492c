/-
  The source of numbers of the laws: l01New, l01Byte, l28New, MakeNum. Of a number it is told that it lies in its range; which one it is does not matter.
-/
import Derived.Test.YtjmfgncakegjaaaSlc
import Derived.Test.YtjmfgncakegjaaaRows
import Derived.Laws.BitsAllLaws
import Derived.Laws.BitsLemmas
namespace Go.Proofs.Ytjmfgncakegjaaa
open Go.RowKit

/-- A byte's one cell. -/
def byteAt (x : Int) : Nat → Value := fun _ => .int .u8 x
/-- The source at block g over the bytes (A, n, c). -/
def Cur (w : World) (g : Nat) (A : Option Addr) (n c : Nat) : Prop := ∃ (i : Nat) (h : Int), i ≤ n ∧ Blk w g 100 #[.slice A n c, .int .i64 i, .int .i64 h]

theorem and255 (x : Int) : 0 ≤ bits .and .i64 x 255 ∧ bits .and .i64 x 255 ≤ 255 := by
  have h : (BitVec.ofInt 64 x &&& BitVec.ofInt 64 255).toNat ≤ 255 := by
    rw [BitVec.toNat_and]
    exact Nat.and_le_right
  have e : bits .and .i64 x 255 = IntKind.i64.wrap ((BitVec.ofInt 64 x &&& BitVec.ofInt 64 255).toNat : Int) := rfl
  rw [e, IntKind.wrap_i64]
  omega

/-- A call that hands back a number from 0 to m and turns block g alone, which stays a source. -/
def NumPost (m : Int) (g : Nat) (A : Option Addr) (n c : Nat) (w : World) (e : Ending) (w' : World) : Prop :=
  ∃ x : Int, e = .returned (.int .i64 x) ∧ 0 ≤ x ∧ x ≤ m ∧ Cur w' g A n c ∧ w.grownBy w' (some g)

theorem blk_cast {w : World} {g : Nat} {t : TypeId} {cs cs' : Array Value} (h : Blk w g t cs) (e : cs = cs') : Blk w g t cs' := e ▸ h
theorem grown_drewN {a w : World} {row : Option Nat} (h : a.grownBy w row) (n : Nat) : a.grownBy (w.drewN n) row := ⟨h.os, h.tape, h.output, h.size, h.block⟩

set_option maxHeartbeats 2000000 in
theorem l01Byte_any (g : Nat) (A : Option Addr) (c : Nat) (zs : List Int) (w : World) (hc : Cur w g A zs.length c) (hr : Rd w g byteAt 1 A zs) (hlen : zs.length ≤ 1048576) (hb : ∀ z ∈ zs, 0 ≤ z ∧ z ≤ 255) :
    Calls Try.prog 67 #[.pointer (some ⟨g, 0, none⟩)] w (NumPost 255 g A zs.length c w) := by
  obtain ⟨i, h, hi, hblk⟩ := hc
  have c0 := hblk.cell 0
  have c1 := hblk.cell 1
  have c2 := hblk.cell 2
  have f1 := hblk.frozen 1
  have f2 := hblk.frozen 2
  go_enter Try.func67, Try.ntmps67
  go_wp2_with fail
  generalize wrap64 (wrap64 (h * 6364136223846793005) + 1442695040888963407) = H
  go_quiet (fail)
  go_wp2_with fail
  have hx := and255 (bits BinOp.xor IntKind.i64 (H / 8589934592) (H / 35184372088832))
  generalize bits BinOp.and IntKind.i64 (bits BinOp.xor IntKind.i64 (H / 8589934592) (H / 35184372088832)) 255 = X at hx ⊢
  by_cases hin : i < zs.length
  · obtain ⟨gb, off, rfl, hgb, hcb⟩ := hr (by omega)
    obtain ⟨z, hz⟩ : ∃ z, zs[i]? = some z := ⟨_, List.getElem?_eq_getElem hin⟩
    have hzb := hb z (List.mem_of_getElem? hz)
    have e0 : ∀ u, (w.setCell ⟨g, 2, none⟩ u).cell? ⟨gb, off + i, none⟩ = some (.int .u8 z) := fun u =>
      (World.cell?_setCell_other w ⟨g, 2, none⟩ ⟨gb, off + i, none⟩ u (fun e => by injection e with e1; omega)).trans (by have := hcb i z hz 0 (by omega); simpa [byteAt] using this)
    have hi0 : (0 : Int) ≤ (i : Int) := Int.natCast_nonneg _
    have hi1 : (i : Int) < (zs.length : Int) := by omega
    have hzb1 := hzb.1
    have hzb2 := hzb.2
    have hx1 := hx.1
    have hx2 := hx.2
    have k1 : IntKind.i64.wrap z = z := IntWalk.i64_in _ (by omega)
    have k2 : IntKind.i64.wrap (X + z) = X + z := IntWalk.i64_in _ (by omega)
    have K1 := Lib.hid k1
    have K2 := Lib.hid k2
    have HR := Lib.hid hr
    have HC := Lib.hid hcb
    have HB := Lib.hid hb
    have HZ := Lib.hid hz
    clear k1 k2 hr hcb hb hz hzb hx
    go_quiet (fail)
    go_wp2_with fail
    have k1 := K1.out
    have k2 := K2.out
    go_quiet (fail)
    clear k1 k2
    go_wp2_with fail
    have hy := and255 (X + z)
    generalize bits BinOp.and IntKind.i64 (X + z) 255 = Y at hy ⊢
    go_ret
    refine ⟨Y, rfl, hy.1, hy.2, ⟨i + 1, H, by omega, ?_⟩, ?_⟩
    · have hq : ((#[Value.slice (some ⟨gb, off, none⟩) zs.length c, .int .i64 i, .int .i64 h].setIfInBounds 2 (.int .i64 H)).setIfInBounds 1 (.int .i64 ((i : Int) + 1))) = #[Value.slice (some ⟨gb, off, none⟩) zs.length c, .int .i64 ((i + 1 : Nat) : Int), .int .i64 H] := rfl
      refine blk_cast ?_ hq
      repeat (first | exact hblk | refine Blk.drewN ?_ _ | refine Blk.set_ ?_ _ _)
    · repeat (first | exact World.grownBy.refl w _ | refine grown_drewN ?_ _ | refine grown_set ?_ _ _)
  · have hi0 : i = zs.length := by omega
    go_quiet (fail)
    go_wp2_with fail
    go_ret
    refine ⟨X, rfl, hx.1, hx.2, ⟨i, H, hi, ?_⟩, ?_⟩
    · have hq : (#[Value.slice A zs.length c, .int .i64 i, .int .i64 h].setIfInBounds 2 (.int .i64 H)) = #[Value.slice A zs.length c, .int .i64 i, .int .i64 H] := rfl
      refine blk_cast ?_ hq
      repeat (first | exact hblk | refine Blk.drewN ?_ _ | refine Blk.set_ ?_ _ _)
    · repeat (first | exact World.grownBy.refl w _ | refine grown_drewN ?_ _ | refine grown_set ?_ _ _)

/-- A call that hands back a new source over the bytes. -/
def CurPost (A : Option Addr) (n c : Nat) (w : World) (e : Ending) (w' : World) : Prop :=
  ∃ g, e = .returned (.pointer (some ⟨g, 0, none⟩)) ∧ w.heap.size ≤ g ∧ Cur w' g A n c ∧ Below w.heap.size w w'

set_option maxRecDepth 20000 in
set_option maxHeartbeats 2000000 in
theorem l01New_any (A : Option Addr) (c : Nat) (zs : List Int) (w : World) (hr : Rd w w.heap.size byteAt 1 A zs) (hlen : zs.length ≤ 1048576) (hb : ∀ z ∈ zs, 0 ≤ z ∧ z ≤ 255) :
    Calls Try.prog 78 #[.slice A zs.length c] w (CurPost A zs.length c w) := by
  go_enter Try.func78, Try.ntmps78
  go_wp2_with fail
  go_loop [3, 4] (fun hh i => ∃ (k : Nat) (h : Int), k ≤ zs.length ∧ i = .int .i64 k ∧ hh = .int .i64 h) (fun _ i => zs.length - (intOf i).toNat)
  case atStart => exact ⟨0, _, Nat.zero_le _, rfl, rfl⟩
  case round =>
    obtain ⟨k, h, hk, rfl, rfl⟩ := hrel
    by_cases hlt : k < zs.length
    · by_cases h4 : k < 4000
      · obtain ⟨gb, off, rfl, hgb, hcb⟩ := hr (by omega)
        obtain ⟨z, hz⟩ : ∃ z, zs[k]? = some z := ⟨_, List.getElem?_eq_getElem hlt⟩
        have e0 : w.cell? ⟨gb, off + k, none⟩ = some (.int .u8 z) := by have := hcb k z hz 0 (by omega); simpa [byteAt] using this
        have hzb := hb z (List.mem_of_getElem? hz)
        have HR := Lib.hid hr
        have HC := Lib.hid hcb
        have HB := Lib.hid hb
        have HZ := Lib.hid hz
        clear hr hcb hb hz
        go_wp2_with fail
        go_round
        case rel => exact ⟨k + 1, _, by omega, by go_num, rfl⟩
        case measure => simp [intOf]; omega
      · have d4 : decide ((k : Int) < 4000) = false := by simp; omega
        go_wp2_with fail
        go_ret
        refine ⟨_, rfl, Nat.le_refl _, ⟨0, h, Nat.zero_le _, Blk.new _ _ _⟩, (Below.refl _ _).alloc (Nat.le_refl _) _⟩
    · have hk' : k = zs.length := by omega
      subst hk'
      go_wp2_with fail
      go_ret
      refine ⟨_, rfl, Nat.le_refl _, ⟨0, h, Nat.zero_le _, Blk.new _ _ _⟩, (Below.refl _ _).alloc (Nat.le_refl _) _⟩

set_option maxHeartbeats 2000000 in
/-- n from 1 to 256. -/
theorem l01Below_any (g : Nat) (n : Int) (A : Option Addr) (c : Nat) (zs : List Int) (w : World) (hc : Cur w g A zs.length c) (hr : Rd w g byteAt 1 A zs) (hlen : zs.length ≤ 1048576) (hb : ∀ z ∈ zs, 0 ≤ z ∧ z ≤ 255) (hn : 1 ≤ n ∧ n ≤ 256) :
    Calls Try.prog 77 #[.pointer (some ⟨g, 0, none⟩), .int .i64 n] w (NumPost (n - 1) g A zs.length c w) := by
  go_enter Try.func77, Try.ntmps77
  have hn1 := hn.1
  have hn2 := hn.2
  go_wp2_with fail
  refine (l01Byte_any _ _ _ _ _ hc hr hlen hb).mono ?_
  rintro e w1 ⟨x, rfl, hx1, hx2, hc1, hg1⟩
  have e1 : IntKind.i64.wrap (x.tmod n) = x.tmod n := IntWalk.i64_in _ (by rw [Int.tmod_eq_emod_of_nonneg hx1]; have := Int.emod_nonneg x (show n ≠ 0 by omega); have := Int.emod_lt_of_pos x (show 0 < n by omega); omega)
  go_wp2_with fail
  go_ret
  refine ⟨_, rfl, ?_, ?_, hc1, hg1⟩
  · exact Int.emod_nonneg x (show n ≠ 0 by omega)
  · have := Int.emod_lt_of_pos x (show 0 < n by omega); omega

set_option maxHeartbeats 2000000 in
theorem l28New_any (A : Option Addr) (c n : Nat) (zs : List Int) (w : World) (hr : Rd w w.heap.size byteAt 1 A zs) (hlen : zs.length ≤ 1048576) (hb : ∀ z ∈ zs, 0 ≤ z ∧ z ≤ 255) (hn : n ≤ 1048576) :
    Calls Try.prog 66 #[.slice A zs.length c, .int .i64 n] w (CurPost A zs.length c w) := by
  go_enter Try.func66, Try.ntmps66
  go_wp2_with fail
  refine (l01New_any _ _ _ _ hr hlen hb).mono ?_
  rintro e w1 ⟨g, rfl, hg, hc1, hb1⟩
  go_wp2_with fail
  go_loopw [6] (fun i wr => ∃ k : Nat, k ≤ n ∧ i = .int .i64 k ∧ Cur wr g A zs.length c ∧ Below w.heap.size w wr) (fun i _ => n - (intOf i).toNat)
  case atStart => exact ⟨0, Nat.zero_le _, rfl, hc1, hb1⟩
  case round =>
    obtain ⟨k, hk, rfl, hcr, hbel⟩ := hrel
    by_cases hlt : k < n
    · go_wp2_with fail
      refine (l01Byte_any _ _ _ _ _ hcr ((hr.below hbel).more hg) hlen hb).mono ?_
      rintro e w2 ⟨x, rfl, hx1, hx2, hc2, hg2⟩
      go_wp2_with fail
      go_roundw
      case rel => exact ⟨k + 1, by omega, by go_num, hc2, hbel.grown hg2 hbel.size (fun k e => by injection e with e; omega)⟩
      case measure => simp [intOf]; omega
    · have hk' : k = n := by omega
      subst hk'
      go_wp2_with fail
      go_ret
      exact ⟨g, rfl, hg, hcr, hbel⟩

set_option maxHeartbeats 2000000 in
theorem MakeNum_any (A : Option Addr) (c n : Nat) (zs : List Int) (w : World) (hr : Rd w w.heap.size byteAt 1 A zs) (hlen : zs.length ≤ 1048576) (hb : ∀ z ∈ zs, 0 ≤ z ∧ z ≤ 255) (hn : n ≤ 1048576) :
    Calls Try.prog 43 #[.slice A zs.length c, .int .i64 n] w fun e w' => ∃ x : Int, e = .returned (.int .i64 x) ∧ 0 ≤ x ∧ x ≤ 65535 ∧ Below w.heap.size w w' := by
  go_enter Try.func43, Try.ntmps43
  go_wp2_with fail
  refine (l28New_any _ _ _ _ _ hr hlen hb hn).mono ?_
  rintro e w1 ⟨g, rfl, hg, hc1, hb1⟩
  go_wp2_with fail
  refine (l01Byte_any _ _ _ _ _ hc1 ((hr.below hb1).more hg) hlen hb).mono ?_
  rintro e w2 ⟨x, rfl, hx1, hx2, hc2, hg2⟩
  have hb2 : Below w.heap.size w w2 := hb1.grown hg2 hb1.size (fun k e => by injection e with e; omega)
  go_wp2_with fail
  refine (l01Byte_any _ _ _ _ _ hc2 ((hr.below hb2).more hg) hlen hb).mono ?_
  rintro e w3 ⟨y, rfl, hy1, hy2, hc3, hg3⟩
  have hb3 : Below w.heap.size w w3 := hb2.grown hg3 hb2.size (fun k e => by injection e with e; omega)
  have e1 : IntKind.i64.wrap (x * 256) = x * 256 := IntWalk.i64_in _ (by omega)
  have e2 : IntKind.i64.wrap (x * 256 + y) = x * 256 + y := IntWalk.i64_in _ (by omega)
  go_wp2_with fail
  go_ret
  exact ⟨_, rfl, by omega, by omega, hb3⟩

end Go.Proofs.Ytjmfgncakegjaaa
