/-
  The contracts of HighestLevel and LowestLevel, of the program and of the reference.
-/
import Derived.Test.YtjbfpbcobpodaaaModelE
import Derived.Test.YtjbfpbcobpodaaaTideF
namespace Go.Proofs.Ytjbfpbcobpodaaa
open Go.RowKit

/-- Whether HighestLevel (s = 1) and LowestLevel (s = -1) answer, the minute and the level that they return. -/
def extC (m : Int) (ps : List Part) (f t : Int) : Bool := tideOk m ps && (inB f 0 2880 && inB t f 2880)
def extB (s m : Int) (ps : List Part) (f t : Int) : Int := if extC m ps f t = true then bestAt s (fun x => levelV x m ps) f (t - f).toNat else 0
def extA (s m : Int) (ps : List Part) (f t : Int) : Int := if extC m ps f t = true then levelV (bestAt s (fun x => levelV x m ps) f (t - f).toNat) m ps else 0
def extPost (s m : Int) (ps : List Part) (f t : Int) (w : World) (e : Ending) (w' : World) : Prop :=
  e = .returned (.tuple #[.int .i64 (extA s m ps f t), .int .i64 (extB s m ps f t), .bool (extC m ps f t)]) ∧ Below w.heap.size w w'
theorem ext_yes {s m : Int} {ps : List Part} {f t : Int} (hok : tideOk m ps = true) (hf : inB f 0 2880 = true) (ht : inB t f 2880 = true) :
    (#[.int .i64 (extA s m ps f t), .int .i64 (extB s m ps f t), .bool (extC m ps f t)] : Array Value) = #[.int .i64 (levelV (bestAt s (fun x => levelV x m ps) f (t - f).toNat) m ps), .int .i64 (bestAt s (fun x => levelV x m ps) f (t - f).toNat), .bool true] := by
  simp [extA, extB, extC, hok, hf, ht]

set_option maxHeartbeats 2000000 in
theorem highLit_any (a b : Int) (w : World) : Calls Try.prog 53 #[.int .i64 a, .int .i64 b] w fun e w' => e = .returned (.bool (decide (b < a))) ∧ w = w' := by
  go_enter Try.func53, Try.ntmps53
  go_wp2_with fail
  go_ret
  exact ⟨rfl, rfl⟩

set_option maxHeartbeats 2000000 in
theorem lowLit_any (a b : Int) (w : World) : Calls Try.prog 54 #[.int .i64 a, .int .i64 b] w fun e w' => e = .returned (.bool (decide (a < b))) ∧ w = w' := by
  go_enter Try.func54, Try.ntmps54
  go_wp2_with fail
  go_ret
  exact ⟨rfl, rfl⟩

set_option maxHeartbeats 4000000 in
theorem extremeHighestLevel_any (m : Int) (A : Option Addr) (c : Nat) (ps : List Part) (f t : Int) (w : World) (hr : Rd w w.heap.size Part.at_ 3 A ps) (hwf : ∀ p ∈ ps, p.wf) (hlen : ps.length ≤ 1048576) :
    Calls Try.prog 52 #[.agg #[.int .i64 m, .slice A ps.length c], .int .i64 f, .int .i64 t, .func (.func 53) #[] #[]] w (extPost 1 m ps f t w) := by
  have hr1 : ∀ o, Rd (w.alloc o) (w.alloc o).heap.size Part.at_ 3 A ps := fun o => (hr.alloc (Nat.le_refl _) o).more (by simp)
  have hk0 := Blk.new w 46 #[.int .i64 m, .slice A ps.length c]
  have hB0 : Below w.heap.size w (w.alloc (.cells #[.int .i64 m, .slice A ps.length c] 46)) := (Below.refl _ _).alloc (Nat.le_refl _) _
  go_enter Try.func52, Try.ntmps52
  go_wp2_with fail
  refine (implTideOk_any _ _ _ _ _ (hr1 _) hwf hlen).mono ?_
  rintro e w1 ⟨rfl, hb1⟩
  have hk1 := hk0.next hb1
  have hB1 := hB0.trans (hb1.mono hB0.size)
  have c0 := hk1.cell 0
  have c1 := hk1.cell 1
  have hs1 := hB1.size
  cases hok : tideOk m ps
  · go_wp2_with fail
    go_ret3
    exact ⟨by simp [extA, extB, extC, hok], hB1⟩
  cases hf : inB f 0 2880
  · go_wp2_with (go_at_call 42; refine (isMinute_any _ _).mono ?_; rintro e w' ⟨rfl, rfl⟩)
    go_ret3
    exact ⟨by simp [extA, extB, extC, hf], hB1⟩
  cases ht : inB t f 2880
  · go_wp2_with (first
      | (go_at_call 42; refine (isMinute_any _ _).mono ?_; rintro e w' ⟨rfl, rfl⟩)
      | (go_at_call 40; refine (within_any _ _ _ _).mono ?_; rintro e w' ⟨rfl, rfl⟩))
    go_ret3
    exact ⟨by simp [extA, extB, extC, ht], hB1⟩
  have hfb := inB_true hf
  have htb := inB_true ht
  have HR2 := Lib.hid ((hr.below hB1).more hs1)
  have HR := Lib.hid hr
  clear hr hr1
  go_wp2_with (first
    | (go_at_call 42; refine (isMinute_any _ _).mono ?_; rintro e w' ⟨rfl, rfl⟩)
    | (go_at_call 40; refine (within_any _ _ _ _).mono ?_; rintro e w' ⟨rfl, rfl⟩)
    | (go_at_call 50; refine (implLevel_any _ _ _ _ _ _ HR2.out hok hfb.1 hfb.2).mono ?_; rintro e w2 ⟨rfl, hb2⟩))
  have hB2 := hB1.trans (hb2.mono hB1.size)
  have hk2 := hk1.next hb2
  have h1 := hfb.1
  have h2 := hfb.2
  have h3 := htb.1
  have h4 := htb.2
  obtain ⟨lv, hlv⟩ : ∃ lv : Int → Int, lv = fun x => levelV x m ps := ⟨_, rfl⟩
  have hlv' : ∀ x, levelV x m ps = lv x := fun x => by rw [hlv]
  rw [hlv' f]
  have HL := Lib.hid hlv
  have HL' := Lib.hid hlv'
  clear hlv hlv' c0 c1
  go_loopw [11, 12, 13, 14] (fun b a i _ wr => ∃ j : Nat, f + j ≤ t + 1 ∧ i = .int .i64 (f + j) ∧ a = .int .i64 (bestAt 1 lv f (j - 1)) ∧ b = .int .i64 (lv (bestAt 1 lv f (j - 1))) ∧ Blk wr w.heap.size 46 #[.int .i64 m, .slice A ps.length c] ∧ Below w.heap.size w wr) (fun _ _ i _ _ => (t + 1 - intOf i).toNat)
  case atStart => exact ⟨0, by omega, by simp, rfl, rfl, hk2, hB2⟩
  case round =>
    obtain ⟨j, hj, rfl, rfl, rfl, hkr, hbel⟩ := hrel
    have c0 := hkr.cell 0
    have c1 := hkr.cell 1
    by_cases hlt : f + j ≤ t
    · obtain ⟨b, hb⟩ : ∃ b, b = bestAt 1 lv f (j - 1) := ⟨_, rfl⟩
      rw [← hb]
      by_cases hc : lv b < lv (f + j)
      · have HX := Lib.hid (bestAt_hit (s := 1) (lv := lv) (f := f) (j := j) rfl (by rw [← hb]; omega))
        have HB := Lib.hid hb
        clear hb
        go_wp2_with (first
          | (go_at_call 50; refine (implLevel_any _ _ _ _ _ _ ((HR.out.below hbel).more hbel.size) hok (by omega) (by omega)).mono ?_; rintro e w3 ⟨rfl, hb3⟩; rw [HL'.out])
          | (refine (highLit_any _ _ _).mono ?_; rintro e w' ⟨rfl, rfl⟩))
        go_roundw
        case rel => exact ⟨j + 1, by omega, by go_num, by rw [Nat.add_sub_cancel, HX.out], by rw [Nat.add_sub_cancel, HX.out], hkr.next hb3, hbel.trans (hb3.mono hbel.size)⟩
        case measure => simp [intOf]; omega
      · have HX := Lib.hid (bestAt_miss (s := 1) (lv := lv) (f := f) (j := j) rfl (by rw [← hb]; omega))
        have HB := Lib.hid hb
        clear hb
        go_wp2_with (first
          | (go_at_call 50; refine (implLevel_any _ _ _ _ _ _ ((HR.out.below hbel).more hbel.size) hok (by omega) (by omega)).mono ?_; rintro e w3 ⟨rfl, hb3⟩; rw [HL'.out])
          | (refine (highLit_any _ _ _).mono ?_; rintro e w' ⟨rfl, rfl⟩))
        go_roundw
        case rel => exact ⟨j + 1, by omega, by go_num, by rw [Nat.add_sub_cancel, HX.out, HB.out], by rw [Nat.add_sub_cancel, HX.out, HB.out], hkr.next hb3, hbel.trans (hb3.mono hbel.size)⟩
        case measure => simp [intOf]; omega
    · go_wp2_with fail
      go_ret3
      have hjj : j - 1 = (t - f).toNat := by omega
      refine ⟨?_, hbel⟩
      rw [ext_yes hok hf ht, ← HL.out, ← hjj, HL'.out]
      rfl

set_option maxHeartbeats 1000000 in
theorem implHighestLevel_any (m : Int) (A : Option Addr) (c : Nat) (ps : List Part) (f t : Int) (w : World) (hr : Rd w w.heap.size Part.at_ 3 A ps) (hwf : ∀ p ∈ ps, p.wf) (hlen : ps.length ≤ 1048576) :
    Calls Try.prog 35 #[.agg #[.int .i64 m, .slice A ps.length c], .int .i64 f, .int .i64 t] w (extPost 1 m ps f t w) := by
  have hr1 : ∀ o, Rd (w.alloc o) (w.alloc o).heap.size Part.at_ 3 A ps := fun o => (hr.alloc (Nat.le_refl _) o).more (by simp)
  have hB0 : Below w.heap.size w (w.alloc (.cells #[.int .i64 m, .slice A ps.length c] 46)) := (Below.refl _ _).alloc (Nat.le_refl _) _
  go_enter Try.func35, Try.ntmps35
  go_wp2_with fail
  refine (extremeHighestLevel_any _ _ _ _ _ _ _ (hr1 _) hwf hlen).mono ?_
  rintro e w1 ⟨rfl, hb1⟩
  go_wp2_with fail
  go_ret3
  exact ⟨rfl, hB0.trans (hb1.mono hB0.size)⟩
set_option maxHeartbeats 4000000 in
theorem extremeLowestLevel_any (m : Int) (A : Option Addr) (c : Nat) (ps : List Part) (f t : Int) (w : World) (hr : Rd w w.heap.size Part.at_ 3 A ps) (hwf : ∀ p ∈ ps, p.wf) (hlen : ps.length ≤ 1048576) :
    Calls Try.prog 52 #[.agg #[.int .i64 m, .slice A ps.length c], .int .i64 f, .int .i64 t, .func (.func 54) #[] #[]] w (extPost (-1) m ps f t w) := by
  have hr1 : ∀ o, Rd (w.alloc o) (w.alloc o).heap.size Part.at_ 3 A ps := fun o => (hr.alloc (Nat.le_refl _) o).more (by simp)
  have hk0 := Blk.new w 46 #[.int .i64 m, .slice A ps.length c]
  have hB0 : Below w.heap.size w (w.alloc (.cells #[.int .i64 m, .slice A ps.length c] 46)) := (Below.refl _ _).alloc (Nat.le_refl _) _
  go_enter Try.func52, Try.ntmps52
  go_wp2_with fail
  refine (implTideOk_any _ _ _ _ _ (hr1 _) hwf hlen).mono ?_
  rintro e w1 ⟨rfl, hb1⟩
  have hk1 := hk0.next hb1
  have hB1 := hB0.trans (hb1.mono hB0.size)
  have c0 := hk1.cell 0
  have c1 := hk1.cell 1
  have hs1 := hB1.size
  cases hok : tideOk m ps
  · go_wp2_with fail
    go_ret3
    exact ⟨by simp [extA, extB, extC, hok], hB1⟩
  cases hf : inB f 0 2880
  · go_wp2_with (go_at_call 42; refine (isMinute_any _ _).mono ?_; rintro e w' ⟨rfl, rfl⟩)
    go_ret3
    exact ⟨by simp [extA, extB, extC, hf], hB1⟩
  cases ht : inB t f 2880
  · go_wp2_with (first
      | (go_at_call 42; refine (isMinute_any _ _).mono ?_; rintro e w' ⟨rfl, rfl⟩)
      | (go_at_call 40; refine (within_any _ _ _ _).mono ?_; rintro e w' ⟨rfl, rfl⟩))
    go_ret3
    exact ⟨by simp [extA, extB, extC, ht], hB1⟩
  have hfb := inB_true hf
  have htb := inB_true ht
  have HR2 := Lib.hid ((hr.below hB1).more hs1)
  have HR := Lib.hid hr
  clear hr hr1
  go_wp2_with (first
    | (go_at_call 42; refine (isMinute_any _ _).mono ?_; rintro e w' ⟨rfl, rfl⟩)
    | (go_at_call 40; refine (within_any _ _ _ _).mono ?_; rintro e w' ⟨rfl, rfl⟩)
    | (go_at_call 50; refine (implLevel_any _ _ _ _ _ _ HR2.out hok hfb.1 hfb.2).mono ?_; rintro e w2 ⟨rfl, hb2⟩))
  have hB2 := hB1.trans (hb2.mono hB1.size)
  have hk2 := hk1.next hb2
  have h1 := hfb.1
  have h2 := hfb.2
  have h3 := htb.1
  have h4 := htb.2
  obtain ⟨lv, hlv⟩ : ∃ lv : Int → Int, lv = fun x => levelV x m ps := ⟨_, rfl⟩
  have hlv' : ∀ x, levelV x m ps = lv x := fun x => by rw [hlv]
  rw [hlv' f]
  have HL := Lib.hid hlv
  have HL' := Lib.hid hlv'
  clear hlv hlv' c0 c1
  go_loopw [11, 12, 13, 14] (fun b a i _ wr => ∃ j : Nat, f + j ≤ t + 1 ∧ i = .int .i64 (f + j) ∧ a = .int .i64 (bestAt (-1) lv f (j - 1)) ∧ b = .int .i64 (lv (bestAt (-1) lv f (j - 1))) ∧ Blk wr w.heap.size 46 #[.int .i64 m, .slice A ps.length c] ∧ Below w.heap.size w wr) (fun _ _ i _ _ => (t + 1 - intOf i).toNat)
  case atStart => exact ⟨0, by omega, by simp, rfl, rfl, hk2, hB2⟩
  case round =>
    obtain ⟨j, hj, rfl, rfl, rfl, hkr, hbel⟩ := hrel
    have c0 := hkr.cell 0
    have c1 := hkr.cell 1
    by_cases hlt : f + j ≤ t
    · obtain ⟨b, hb⟩ : ∃ b, b = bestAt (-1) lv f (j - 1) := ⟨_, rfl⟩
      rw [← hb]
      by_cases hc : lv (f + j) < lv b
      · have HX := Lib.hid (bestAt_hit (s := (-1)) (lv := lv) (f := f) (j := j) rfl (by rw [← hb]; omega))
        have HB := Lib.hid hb
        clear hb
        go_wp2_with (first
          | (go_at_call 50; refine (implLevel_any _ _ _ _ _ _ ((HR.out.below hbel).more hbel.size) hok (by omega) (by omega)).mono ?_; rintro e w3 ⟨rfl, hb3⟩; rw [HL'.out])
          | (refine (lowLit_any _ _ _).mono ?_; rintro e w' ⟨rfl, rfl⟩))
        go_roundw
        case rel => exact ⟨j + 1, by omega, by go_num, by rw [Nat.add_sub_cancel, HX.out], by rw [Nat.add_sub_cancel, HX.out], hkr.next hb3, hbel.trans (hb3.mono hbel.size)⟩
        case measure => simp [intOf]; omega
      · have HX := Lib.hid (bestAt_miss (s := (-1)) (lv := lv) (f := f) (j := j) rfl (by rw [← hb]; omega))
        have HB := Lib.hid hb
        clear hb
        go_wp2_with (first
          | (go_at_call 50; refine (implLevel_any _ _ _ _ _ _ ((HR.out.below hbel).more hbel.size) hok (by omega) (by omega)).mono ?_; rintro e w3 ⟨rfl, hb3⟩; rw [HL'.out])
          | (refine (lowLit_any _ _ _).mono ?_; rintro e w' ⟨rfl, rfl⟩))
        go_roundw
        case rel => exact ⟨j + 1, by omega, by go_num, by rw [Nat.add_sub_cancel, HX.out, HB.out], by rw [Nat.add_sub_cancel, HX.out, HB.out], hkr.next hb3, hbel.trans (hb3.mono hbel.size)⟩
        case measure => simp [intOf]; omega
    · go_wp2_with fail
      go_ret3
      have hjj : j - 1 = (t - f).toNat := by omega
      refine ⟨?_, hbel⟩
      rw [ext_yes hok hf ht, ← HL.out, ← hjj, HL'.out]
      rfl

set_option maxHeartbeats 1000000 in
theorem implLowestLevel_any (m : Int) (A : Option Addr) (c : Nat) (ps : List Part) (f t : Int) (w : World) (hr : Rd w w.heap.size Part.at_ 3 A ps) (hwf : ∀ p ∈ ps, p.wf) (hlen : ps.length ≤ 1048576) :
    Calls Try.prog 37 #[.agg #[.int .i64 m, .slice A ps.length c], .int .i64 f, .int .i64 t] w (extPost (-1) m ps f t w) := by
  have hr1 : ∀ o, Rd (w.alloc o) (w.alloc o).heap.size Part.at_ 3 A ps := fun o => (hr.alloc (Nat.le_refl _) o).more (by simp)
  have hB0 : Below w.heap.size w (w.alloc (.cells #[.int .i64 m, .slice A ps.length c] 46)) := (Below.refl _ _).alloc (Nat.le_refl _) _
  go_enter Try.func37, Try.ntmps37
  go_wp2_with fail
  refine (extremeLowestLevel_any _ _ _ _ _ _ _ (hr1 _) hwf hlen).mono ?_
  rintro e w1 ⟨rfl, hb1⟩
  go_wp2_with fail
  go_ret3
  exact ⟨rfl, hB0.trans (hb1.mono hB0.size)⟩
end Go.Proofs.Ytjbfpbcobpodaaa
