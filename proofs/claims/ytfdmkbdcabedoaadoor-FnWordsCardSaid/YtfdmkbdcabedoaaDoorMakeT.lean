/-
  The contract of MakeText: some text of at most 14 bytes.
-/
import Derived.Test.YtfdmkbdcabedoaaDoorCur
namespace Go.Proofs.YtfdmkbdcabedoaaDoor
open Go.RowKit

theorem Cur.alloc_ {w : World} {g n c : Nat} {A : Option Addr} (h : Cur w g A n c) (o : Obj) : Cur (w.alloc o) g A n c := by
  obtain ⟨i, x, hi, hk⟩ := h
  exact ⟨i, x, hi, hk.alloc o⟩
theorem Cur.lt_ {w : World} {g n c : Nat} {A : Option Addr} (h : Cur w g A n c) : g < w.heap.size := by
  obtain ⟨i, x, hi, hk⟩ := h
  exact hk.lt

set_option maxHeartbeats 2000000 in
theorem l01Str_any (g b : Nat) (A : Option Addr) (c : Nat) (zs : List Int) (w : World) (hc : Cur w g A zs.length c) (hr : Rd w g byteAt 1 A zs) (hlen : zs.length ≤ 1048576) (hb : ∀ z ∈ zs, 0 ≤ z ∧ z ≤ 255)
    (hk : Blk w b 9 #[.string ⟨#[97]⟩, .string ⟨#[98, 99]⟩, .string ⟨#[32]⟩, .string ⟨#[44]⟩, .string ⟨#[120, 49]⟩]) (hne : b ≠ g) :
    Calls Tryd.prog 23 #[.pointer (some ⟨g, 0, none⟩), .slice (some ⟨b, 0, none⟩) 5 5] w fun e w' => ∃ x : ByteArray, e = .returned (.string x) ∧ x.size ≤ 2 ∧ Cur w' g A zs.length c ∧ w.grownBy w' (some g) := by
  go_enter Tryd.func23, Tryd.ntmps23
  go_wp2_with fail
  refine (l01Below_any g 5 A c zs w hc hr hlen hb (by omega)).mono ?_
  rintro e w1 ⟨k, rfl, hk0, hk1, hc1, hg1⟩
  have hk2 := hk.grown hg1 (fun e => by injection e with e; omega)
  have c0 := hk2.cell 0
  have c1 := hk2.cell 1
  have c2 := hk2.cell 2
  have c3 := hk2.cell 3
  have c4 := hk2.cell 4
  have hkc : k = 0 ∨ k = 1 ∨ k = 2 ∨ k = 3 ∨ k = 4 := by omega
  clear hk hk2 hk0 hk1
  rcases hkc with rfl | rfl | rfl | rfl | rfl
  all_goals
    go_wp2_with fail
    go_ret
    exact ⟨_, rfl, by decide, hc1, hg1⟩

set_option maxHeartbeats 4000000 in
theorem MakeText_any (A : Option Addr) (c : Nat) (zs : List Int) (w : World) (hr : Rd w w.heap.size byteAt 1 A zs) (hlen : zs.length ≤ 1048576) (hb : ∀ z ∈ zs, 0 ≤ z ∧ z ≤ 255) :
    Calls Tryd.prog 11 #[.slice A zs.length c] w fun e w' => ∃ s : ByteArray, e = .returned (.string s) ∧ s.size ≤ 14 ∧ Below w.heap.size w w' := by
  go_enter Tryd.func11, Tryd.ntmps11
  go_wp2_with fail
  refine (l01New_any _ _ _ _ hr hlen hb).mono ?_
  rintro e w1 ⟨g, rfl, hg, hc1, hb1⟩
  have HR : Hid (∀ W, Below w.heap.size w W → Rd W g byteAt 1 A zs) := Lib.hid fun W h => (hr.below h).more hg
  clear hr
  go_wp2_with fail
  refine (l01Below_any g 8 A c zs w1 hc1 (HR.out _ hb1) hlen hb (by omega)).mono ?_
  rintro e w2 ⟨n, rfl, hn0, hn1, hc2, hg2⟩
  have hb2 : Below w.heap.size w w2 := hb1.grown hg2 hb1.size (fun k e => by injection e with e; omega)
  go_wp2_with fail
  go_loopw [4, 5] (fun q i wr => ∃ (k : Int) (s : ByteArray), (i = .int .i64 k ∧ q = .string s ∧ 0 ≤ k ∧ (s.size : Int) + 2 * k ≤ 14) ∧ Cur wr g A zs.length c ∧ Below w.heap.size w wr) (fun _ i _ => (intOf i).toNat)
  case atStart => exact ⟨n, ⟨#[]⟩, ⟨rfl, rfl, hn0, by show (0 : Int) + 2 * n ≤ 14; omega⟩, hc2, hb2⟩
  case round =>
    obtain ⟨k, s, ⟨rfl, rfl, hk0, hk1⟩, hcu, hbel⟩ := hrel
    by_cases hlt : 0 < k
    · have hs := hbel.size
      have hgl := hcu.lt_
      have hba : Below w.heap.size w (wr.alloc (.cells #[.string ⟨#[97]⟩, .string ⟨#[98, 99]⟩, .string ⟨#[32]⟩, .string ⟨#[44]⟩, .string ⟨#[120, 49]⟩] 9)) := hbel.alloc hs _
      have HC := Lib.hid (l01Str_any g wr.heap.size A c zs (wr.alloc (.cells #[.string ⟨#[97]⟩, .string ⟨#[98, 99]⟩, .string ⟨#[32]⟩, .string ⟨#[44]⟩, .string ⟨#[120, 49]⟩] 9)) (hcu.alloc_ _) (HR.out _ hba) hlen hb (Blk.new _ _ _) (by omega))
      have HBA := Lib.hid hba
      clear hba hcu
      go_wp2_with fail
      refine HC.out.mono ?_
      rintro e w3 ⟨x, rfl, hx, hc3, hg3⟩
      have HB3 := Lib.hid (HBA.out.grown hg3 HBA.out.size (fun q e => by injection e with e; omega))
      have hsz : ¬ 9223372036854775807 < s.size + x.size := by omega
      go_wp2_with fail
      go_roundw
      case rel => exact ⟨k - 1, s ++ x, ⟨by go_num, rfl, by omega, by rw [ByteArray.size_append]; omega⟩, hc3, HB3.out⟩
      case measure => simp [intOf]; omega
    · go_wp2_with fail
      go_ret
      exact ⟨s, rfl, by omega, hbel⟩

end Go.Proofs.YtfdmkbdcabedoaaDoor
