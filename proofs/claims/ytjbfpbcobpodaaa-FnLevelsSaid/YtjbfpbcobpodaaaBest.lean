/-
  The contracts of HighestLevel and LowestLevel of the reference.
-/
import Derived.Test.YtjbfpbcobpodaaaExtreme
namespace Go.Proofs.Ytjbfpbcobpodaaa
open Go.RowKit

set_option maxHeartbeats 2000000 in
theorem bestHighestLevel_any (m : Int) (A : Option Addr) (c : Nat) (ps : List Part) (f t : Int) (w : World) (hr : Rd w w.heap.size Part.at_ 3 A ps) (hwf : ∀ p ∈ ps, p.wf) (hlen : ps.length ≤ 1048576) :
    Calls Try.prog 51 #[.agg #[.int .i64 m, .slice A ps.length c], .int .i64 f, .int .i64 t, .int .i64 1] w (extPost 1 m ps f t w) := by
  have hr1 : ∀ o, Rd (w.alloc o) (w.alloc o).heap.size Part.at_ 3 A ps := fun o => (hr.alloc (Nat.le_refl _) o).more (by simp)
  have hk0 := Blk.new w 46 #[.int .i64 m, .slice A ps.length c]
  have hB0 : Below w.heap.size w (w.alloc (.cells #[.int .i64 m, .slice A ps.length c] 46)) := (Below.refl _ _).alloc (Nat.le_refl _) _
  go_enter Try.func51, Try.ntmps51
  go_wp2_with fail
  refine (specTideOk_any _ _ _ _ _ (hr1 _) hwf hlen).mono ?_
  rintro e w1 ⟨rfl, hb1⟩
  have hk1 := hk0.next hb1
  have hB1 := hB0.trans (hb1.mono hB0.size)
  have c0 := hk1.cell 0
  have c1 := hk1.cell 1
  have hs1 := hB1.size
  cases hok : tideOk m ps
  · go_wp2_with fail
    go_ret3
    exact ⟨by simp [extA, extB, extC, hok], hB1⟩
  cases hf : inB f 0 2880
  · go_wp2_with (go_at_call 39; refine (l01In_any _ _ _ _).mono ?_; rintro e w' ⟨rfl, rfl⟩)
    go_ret3
    exact ⟨by simp [extA, extB, extC, hf], hB1⟩
  cases ht : inB t f 2880
  · go_wp2_with (go_at_call 39; refine (l01In_any _ _ _ _).mono ?_; rintro e w' ⟨rfl, rfl⟩)
    go_ret3
    exact ⟨by simp [extA, extB, extC, ht], hB1⟩
  have hfb := inB_true hf
  have htb := inB_true ht
  have h1 := hfb.1
  have h2 := hfb.2
  have h3 := htb.1
  have h4 := htb.2
  have HR2 := Lib.hid ((hr.below hB1).more hs1)
  have HR := Lib.hid hr
  clear hr hr1
  go_wp2_with (go_at_call 39; refine (l01In_any _ _ _ _).mono ?_; rintro e w' ⟨rfl, rfl⟩)
  obtain ⟨lv, hlv⟩ : ∃ lv : Int → Int, lv = fun x => levelV x m ps := ⟨_, rfl⟩
  have hlv' : ∀ x, levelV x m ps = lv x := fun x => by rw [hlv]
  have hlb : ∀ x, -5000 ≤ lv x ∧ lv x ≤ 5000 := fun x => by
    have := levelV_bd hok x (Nat.le_refl _)
    rw [List.take_length, hlv'] at this
    exact this
  have HL := Lib.hid hlv
  have HL' := Lib.hid hlv'
  have HLB := Lib.hid hlb
  have hcall : ∀ (W : World) (x : Int), Rd W W.heap.size Part.at_ 3 A ps → 0 ≤ x → x ≤ 2880 → Calls Try.prog 49 #[.agg #[.int .i64 m, .slice A ps.length c], .int .i64 x] W fun e w' => e = .returned (.int .i64 (lv x)) ∧ Below W.heap.size W w' := fun W x h h0 h1 => by
    rw [← hlv']
    exact specLevel_any _ _ _ _ _ _ h hok h0 h1
  have HC := Lib.hid hcall
  clear hcall
  clear hlv hlv' c0 c1 hlb
  go_loopw [11, 12] (fun b i wr => ∃ j : Nat, f + 1 + j ≤ t + 1 ∧ i = .int .i64 (f + 1 + j) ∧ b = .int .i64 (bestAt 1 lv f j) ∧ Blk wr w.heap.size 46 #[.int .i64 m, .slice A ps.length c] ∧ Below w.heap.size w wr) (fun _ i _ => (t + 1 - intOf i).toNat)
  case atStart => exact ⟨0, by omega, by simp, rfl, hk1, hB1⟩
  case round =>
    obtain ⟨j, hj, rfl, rfl, hkr, hbel⟩ := hrel
    have c0 := hkr.cell 0
    have c1 := hkr.cell 1
    have hin := bestAt_in 1 lv f j
    obtain ⟨b, hb⟩ : ∃ b, b = bestAt 1 lv f j := ⟨_, rfl⟩
    rw [← hb] at hin ⊢
    by_cases hlt : f + 1 + j ≤ t
    · have b1 := HLB.out b
      have b2 := HLB.out (f + 1 + j)
      have hi1 := hin.1
      have hi2 := hin.2
      clear hin
      have hla : w.heap.size < wr.heap.size := hkr.lt
      have hrdw : Rd wr.drew wr.drew.heap.size Part.at_ 3 A ps := (HR.out.below hbel).more hbel.size
      have v1 : IntKind.i64.wrap (1 * lv b) = 1 * lv b := IntWalk.i64_in _ (by omega)
      have v2 : IntKind.i64.wrap (1 * lv (f + 1 + j)) = 1 * lv (f + 1 + j) := IntWalk.i64_in _ (by omega)
      have v3 : IntKind.i64.wrap (lv b) = lv b := IntWalk.i64_in _ (by omega)
      have v4 : IntKind.i64.wrap (lv (f + 1 + j)) = lv (f + 1 + j) := IntWalk.i64_in _ (by omega)
      by_cases hc : 1 * lv b < 1 * lv (f + 1 + j)
      · have HX := Lib.hid (bestAt_yes (s := 1) (lv := lv) (f := f) (k := j) (m := f + 1 + j) (by omega) (by rw [← hb]; exact hc))
        have HB := Lib.hid hb
        have hd : decide (1 * lv b < 1 * lv (f + 1 + j)) = true := by simpa using hc
        have hc2 : lv b < lv (f + 1 + j) := by omega
        clear hb hc
        go_wp2_with fail
        go_region_held3 (fun w' => w'.cell? ⟨w.heap.size, 0, none⟩ = some (.int .i64 m) ∧ w'.cell? ⟨w.heap.size, 1, none⟩ = some (.slice A ps.length c)) (go_keep)
          (first
            | (go_at_call 49; refine (HC.out _ b ((hrdw.below hb3).more hb3.size) (by omega) (by omega)).mono ?_; rintro e w4 ⟨rfl, hb4⟩; have hcc4 : ∀ b o, b < w3.heap.size → w4.cell? ⟨b, o, none⟩ = w3.cell? ⟨b, o, none⟩ := (bcell hb4).1)
            | (go_at_call 49; refine (HC.out _ (f + 1 + j) hrdw (by omega) (by omega)).mono ?_; rintro e w3 ⟨rfl, hb3⟩; have hcc3 : ∀ b o, b < wr.heap.size → w3.cell? ⟨b, o, none⟩ = wr.cell? ⟨b, o, none⟩ := (bcell hb3).1; have hlA3 : w.heap.size < w3.heap.size := Nat.lt_of_lt_of_le hla hb3.size))
        have hk3 := hkr.drew.next hb3
        have hB3 := hbel.drew.trans (hb3.mono hbel.drew.size)
        go_wp2_with fail
        go_roundw
        case rel => exact ⟨j + 1, by omega, by go_num, by rw [HX.out], hk3.next hb4, hB3.trans (hb4.mono hB3.size)⟩
        case measure => simp [intOf]; omega
      · have HX := Lib.hid (bestAt_no (s := 1) (lv := lv) (f := f) (k := j) (m := f + 1 + j) (by omega) (by rw [← hb]; exact hc))
        have HB := Lib.hid hb
        have hd : decide (1 * lv b < 1 * lv (f + 1 + j)) = false := by simpa using hc
        have hc2 : ¬ (lv b < lv (f + 1 + j)) := by omega
        clear hb hc
        go_wp2_with fail
        go_region_held3 (fun w' => w'.cell? ⟨w.heap.size, 0, none⟩ = some (.int .i64 m) ∧ w'.cell? ⟨w.heap.size, 1, none⟩ = some (.slice A ps.length c)) (go_keep)
          (first
            | (go_at_call 49; refine (HC.out _ b ((hrdw.below hb3).more hb3.size) (by omega) (by omega)).mono ?_; rintro e w4 ⟨rfl, hb4⟩; have hcc4 : ∀ b o, b < w3.heap.size → w4.cell? ⟨b, o, none⟩ = w3.cell? ⟨b, o, none⟩ := (bcell hb4).1)
            | (go_at_call 49; refine (HC.out _ (f + 1 + j) hrdw (by omega) (by omega)).mono ?_; rintro e w3 ⟨rfl, hb3⟩; have hcc3 : ∀ b o, b < wr.heap.size → w3.cell? ⟨b, o, none⟩ = wr.cell? ⟨b, o, none⟩ := (bcell hb3).1; have hlA3 : w.heap.size < w3.heap.size := Nat.lt_of_lt_of_le hla hb3.size))
        have hk3 := hkr.drew.next hb3
        have hB3 := hbel.drew.trans (hb3.mono hbel.drew.size)
        go_wp2_with fail
        go_roundw
        case rel => exact ⟨j + 1, by omega, by go_num, by rw [HX.out, HB.out], hk3.next hb4, hB3.trans (hb4.mono hB3.size)⟩
        case measure => simp [intOf]; omega
    · have hi1 := hin.1
      have hi2 := hin.2
      have HB := Lib.hid hb
      clear hb hin
      go_wp2_with fail
      refine (HC.out _ b ((HR.out.below hbel).more hbel.size) (by omega) (by omega)).mono ?_
      rintro e w3 ⟨rfl, hb3⟩
      go_wp2_with fail
      go_ret3
      have hjj : j = (t - f).toNat := by omega
      refine ⟨?_, hbel.trans (hb3.mono hbel.size)⟩
      rw [ext_yes hok hf ht, ← HL.out, ← hjj, HL'.out, HB.out]
      rfl

set_option maxHeartbeats 1000000 in
theorem specHighestLevel_any (m : Int) (A : Option Addr) (c : Nat) (ps : List Part) (f t : Int) (w : World) (hr : Rd w w.heap.size Part.at_ 3 A ps) (hwf : ∀ p ∈ ps, p.wf) (hlen : ps.length ≤ 1048576) :
    Calls Try.prog 34 #[.agg #[.int .i64 m, .slice A ps.length c], .int .i64 f, .int .i64 t] w (extPost 1 m ps f t w) := by
  have hr1 : ∀ o, Rd (w.alloc o) (w.alloc o).heap.size Part.at_ 3 A ps := fun o => (hr.alloc (Nat.le_refl _) o).more (by simp)
  have hB0 : Below w.heap.size w (w.alloc (.cells #[.int .i64 m, .slice A ps.length c] 46)) := (Below.refl _ _).alloc (Nat.le_refl _) _
  go_enter Try.func34, Try.ntmps34
  go_wp2_with fail
  refine (bestHighestLevel_any _ _ _ _ _ _ _ (hr1 _) hwf hlen).mono ?_
  rintro e w1 ⟨rfl, hb1⟩
  go_wp2_with fail
  go_ret3
  exact ⟨rfl, hB0.trans (hb1.mono hB0.size)⟩
set_option maxHeartbeats 2000000 in
theorem bestLowestLevel_any (m : Int) (A : Option Addr) (c : Nat) (ps : List Part) (f t : Int) (w : World) (hr : Rd w w.heap.size Part.at_ 3 A ps) (hwf : ∀ p ∈ ps, p.wf) (hlen : ps.length ≤ 1048576) :
    Calls Try.prog 51 #[.agg #[.int .i64 m, .slice A ps.length c], .int .i64 f, .int .i64 t, .int .i64 (-1)] w (extPost (-1) m ps f t w) := by
  have hr1 : ∀ o, Rd (w.alloc o) (w.alloc o).heap.size Part.at_ 3 A ps := fun o => (hr.alloc (Nat.le_refl _) o).more (by simp)
  have hk0 := Blk.new w 46 #[.int .i64 m, .slice A ps.length c]
  have hB0 : Below w.heap.size w (w.alloc (.cells #[.int .i64 m, .slice A ps.length c] 46)) := (Below.refl _ _).alloc (Nat.le_refl _) _
  go_enter Try.func51, Try.ntmps51
  go_wp2_with fail
  refine (specTideOk_any _ _ _ _ _ (hr1 _) hwf hlen).mono ?_
  rintro e w1 ⟨rfl, hb1⟩
  have hk1 := hk0.next hb1
  have hB1 := hB0.trans (hb1.mono hB0.size)
  have c0 := hk1.cell 0
  have c1 := hk1.cell 1
  have hs1 := hB1.size
  cases hok : tideOk m ps
  · go_wp2_with fail
    go_ret3
    exact ⟨by simp [extA, extB, extC, hok], hB1⟩
  cases hf : inB f 0 2880
  · go_wp2_with (go_at_call 39; refine (l01In_any _ _ _ _).mono ?_; rintro e w' ⟨rfl, rfl⟩)
    go_ret3
    exact ⟨by simp [extA, extB, extC, hf], hB1⟩
  cases ht : inB t f 2880
  · go_wp2_with (go_at_call 39; refine (l01In_any _ _ _ _).mono ?_; rintro e w' ⟨rfl, rfl⟩)
    go_ret3
    exact ⟨by simp [extA, extB, extC, ht], hB1⟩
  have hfb := inB_true hf
  have htb := inB_true ht
  have h1 := hfb.1
  have h2 := hfb.2
  have h3 := htb.1
  have h4 := htb.2
  have HR2 := Lib.hid ((hr.below hB1).more hs1)
  have HR := Lib.hid hr
  clear hr hr1
  go_wp2_with (go_at_call 39; refine (l01In_any _ _ _ _).mono ?_; rintro e w' ⟨rfl, rfl⟩)
  obtain ⟨lv, hlv⟩ : ∃ lv : Int → Int, lv = fun x => levelV x m ps := ⟨_, rfl⟩
  have hlv' : ∀ x, levelV x m ps = lv x := fun x => by rw [hlv]
  have hlb : ∀ x, -5000 ≤ lv x ∧ lv x ≤ 5000 := fun x => by
    have := levelV_bd hok x (Nat.le_refl _)
    rw [List.take_length, hlv'] at this
    exact this
  have HL := Lib.hid hlv
  have HL' := Lib.hid hlv'
  have HLB := Lib.hid hlb
  have hcall : ∀ (W : World) (x : Int), Rd W W.heap.size Part.at_ 3 A ps → 0 ≤ x → x ≤ 2880 → Calls Try.prog 49 #[.agg #[.int .i64 m, .slice A ps.length c], .int .i64 x] W fun e w' => e = .returned (.int .i64 (lv x)) ∧ Below W.heap.size W w' := fun W x h h0 h1 => by
    rw [← hlv']
    exact specLevel_any _ _ _ _ _ _ h hok h0 h1
  have HC := Lib.hid hcall
  clear hcall
  clear hlv hlv' c0 c1 hlb
  go_loopw [11, 12] (fun b i wr => ∃ j : Nat, f + 1 + j ≤ t + 1 ∧ i = .int .i64 (f + 1 + j) ∧ b = .int .i64 (bestAt (-1) lv f j) ∧ Blk wr w.heap.size 46 #[.int .i64 m, .slice A ps.length c] ∧ Below w.heap.size w wr) (fun _ i _ => (t + 1 - intOf i).toNat)
  case atStart => exact ⟨0, by omega, by simp, rfl, hk1, hB1⟩
  case round =>
    obtain ⟨j, hj, rfl, rfl, hkr, hbel⟩ := hrel
    have c0 := hkr.cell 0
    have c1 := hkr.cell 1
    have hin := bestAt_in (-1) lv f j
    obtain ⟨b, hb⟩ : ∃ b, b = bestAt (-1) lv f j := ⟨_, rfl⟩
    rw [← hb] at hin ⊢
    by_cases hlt : f + 1 + j ≤ t
    · have b1 := HLB.out b
      have b2 := HLB.out (f + 1 + j)
      have hi1 := hin.1
      have hi2 := hin.2
      clear hin
      have hla : w.heap.size < wr.heap.size := hkr.lt
      have hrdw : Rd wr.drew wr.drew.heap.size Part.at_ 3 A ps := (HR.out.below hbel).more hbel.size
      have v1 : IntKind.i64.wrap ((-1) * lv b) = (-1) * lv b := IntWalk.i64_in _ (by omega)
      have v2 : IntKind.i64.wrap ((-1) * lv (f + 1 + j)) = (-1) * lv (f + 1 + j) := IntWalk.i64_in _ (by omega)
      have v3 : IntKind.i64.wrap (-lv b) = -lv b := IntWalk.i64_in _ (by omega)
      have v4 : IntKind.i64.wrap (-lv (f + 1 + j)) = -lv (f + 1 + j) := IntWalk.i64_in _ (by omega)
      by_cases hc : (-1) * lv b < (-1) * lv (f + 1 + j)
      · have HX := Lib.hid (bestAt_yes (s := (-1)) (lv := lv) (f := f) (k := j) (m := f + 1 + j) (by omega) (by rw [← hb]; exact hc))
        have HB := Lib.hid hb
        have hd : decide ((-1) * lv b < (-1) * lv (f + 1 + j)) = true := by simpa using hc
        have hc2 : lv (f + 1 + j) < lv b := by omega
        clear hb hc
        go_wp2_with fail
        go_region_held3 (fun w' => w'.cell? ⟨w.heap.size, 0, none⟩ = some (.int .i64 m) ∧ w'.cell? ⟨w.heap.size, 1, none⟩ = some (.slice A ps.length c)) (go_keep)
          (first
            | (go_at_call 49; refine (HC.out _ b ((hrdw.below hb3).more hb3.size) (by omega) (by omega)).mono ?_; rintro e w4 ⟨rfl, hb4⟩; have hcc4 : ∀ b o, b < w3.heap.size → w4.cell? ⟨b, o, none⟩ = w3.cell? ⟨b, o, none⟩ := (bcell hb4).1)
            | (go_at_call 49; refine (HC.out _ (f + 1 + j) hrdw (by omega) (by omega)).mono ?_; rintro e w3 ⟨rfl, hb3⟩; have hcc3 : ∀ b o, b < wr.heap.size → w3.cell? ⟨b, o, none⟩ = wr.cell? ⟨b, o, none⟩ := (bcell hb3).1; have hlA3 : w.heap.size < w3.heap.size := Nat.lt_of_lt_of_le hla hb3.size))
        have hk3 := hkr.drew.next hb3
        have hB3 := hbel.drew.trans (hb3.mono hbel.drew.size)
        go_wp2_with fail
        go_roundw
        case rel => exact ⟨j + 1, by omega, by go_num, by rw [HX.out], hk3.next hb4, hB3.trans (hb4.mono hB3.size)⟩
        case measure => simp [intOf]; omega
      · have HX := Lib.hid (bestAt_no (s := (-1)) (lv := lv) (f := f) (k := j) (m := f + 1 + j) (by omega) (by rw [← hb]; exact hc))
        have HB := Lib.hid hb
        have hd : decide ((-1) * lv b < (-1) * lv (f + 1 + j)) = false := by simpa using hc
        have hc2 : ¬ (lv (f + 1 + j) < lv b) := by omega
        clear hb hc
        go_wp2_with fail
        go_region_held3 (fun w' => w'.cell? ⟨w.heap.size, 0, none⟩ = some (.int .i64 m) ∧ w'.cell? ⟨w.heap.size, 1, none⟩ = some (.slice A ps.length c)) (go_keep)
          (first
            | (go_at_call 49; refine (HC.out _ b ((hrdw.below hb3).more hb3.size) (by omega) (by omega)).mono ?_; rintro e w4 ⟨rfl, hb4⟩; have hcc4 : ∀ b o, b < w3.heap.size → w4.cell? ⟨b, o, none⟩ = w3.cell? ⟨b, o, none⟩ := (bcell hb4).1)
            | (go_at_call 49; refine (HC.out _ (f + 1 + j) hrdw (by omega) (by omega)).mono ?_; rintro e w3 ⟨rfl, hb3⟩; have hcc3 : ∀ b o, b < wr.heap.size → w3.cell? ⟨b, o, none⟩ = wr.cell? ⟨b, o, none⟩ := (bcell hb3).1; have hlA3 : w.heap.size < w3.heap.size := Nat.lt_of_lt_of_le hla hb3.size))
        have hk3 := hkr.drew.next hb3
        have hB3 := hbel.drew.trans (hb3.mono hbel.drew.size)
        go_wp2_with fail
        go_roundw
        case rel => exact ⟨j + 1, by omega, by go_num, by rw [HX.out, HB.out], hk3.next hb4, hB3.trans (hb4.mono hB3.size)⟩
        case measure => simp [intOf]; omega
    · have hi1 := hin.1
      have hi2 := hin.2
      have HB := Lib.hid hb
      clear hb hin
      go_wp2_with fail
      refine (HC.out _ b ((HR.out.below hbel).more hbel.size) (by omega) (by omega)).mono ?_
      rintro e w3 ⟨rfl, hb3⟩
      go_wp2_with fail
      go_ret3
      have hjj : j = (t - f).toNat := by omega
      refine ⟨?_, hbel.trans (hb3.mono hbel.size)⟩
      rw [ext_yes hok hf ht, ← HL.out, ← hjj, HL'.out, HB.out]
      rfl

set_option maxHeartbeats 1000000 in
theorem specLowestLevel_any (m : Int) (A : Option Addr) (c : Nat) (ps : List Part) (f t : Int) (w : World) (hr : Rd w w.heap.size Part.at_ 3 A ps) (hwf : ∀ p ∈ ps, p.wf) (hlen : ps.length ≤ 1048576) :
    Calls Try.prog 36 #[.agg #[.int .i64 m, .slice A ps.length c], .int .i64 f, .int .i64 t] w (extPost (-1) m ps f t w) := by
  have hr1 : ∀ o, Rd (w.alloc o) (w.alloc o).heap.size Part.at_ 3 A ps := fun o => (hr.alloc (Nat.le_refl _) o).more (by simp)
  have hB0 : Below w.heap.size w (w.alloc (.cells #[.int .i64 m, .slice A ps.length c] 46)) := (Below.refl _ _).alloc (Nat.le_refl _) _
  go_enter Try.func36, Try.ntmps36
  go_wp2_with fail
  refine (bestLowestLevel_any _ _ _ _ _ _ _ (hr1 _) hwf hlen).mono ?_
  rintro e w1 ⟨rfl, hb1⟩
  go_wp2_with fail
  go_ret3
  exact ⟨rfl, hB0.trans (hb1.mono hB0.size)⟩
end Go.Proofs.Ytjbfpbcobpodaaa
