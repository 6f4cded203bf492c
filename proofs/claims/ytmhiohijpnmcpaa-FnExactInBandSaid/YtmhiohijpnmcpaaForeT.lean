/-
  The contracts of SurgeAt, LowAt, HighAt, the reference's.
-/
import Derived.Test.YtmhiohijpnmcpaaForeG
import Derived.Test.YtmhiohijpnmcpaaForeS
namespace Go.Proofs.Ytmhiohijpnmcpaa
open Go.RowKit

set_option maxHeartbeats 4000000 in
theorem specSurgeAt_any (m : Int) (A A' : Option Addr) (c c' : Nat) (ps : List Part) (ss : List Surge) (t : Int) (w : World) (hr : Rd w w.heap.size Part.at_ 3 A ps) (hr' : Rd w w.heap.size Surge.at_ 3 A' ss) (hwf : ∀ p ∈ ps, p.wf) (hlen : ps.length ≤ 1048576) (hlen' : ss.length ≤ 1048576) :
    Calls Try.prog 19 #[.agg #[.int .i64 m, .slice A ps.length c, .slice A' ss.length c'], .int .i64 t] w fun e w' => e = .returned (.tuple #[.int .i64 (lowS m ps ss t), .int .i64 (highS m ps ss t), .bool (surgeC m ps ss t)]) ∧ Below w.heap.size w w' := by
  have hr1 : ∀ o, Rd (w.alloc o) (w.alloc o).heap.size Part.at_ 3 A ps := fun o => (hr.alloc (Nat.le_refl _) o).more (by simp)
  have hr2 : ∀ o, Rd (w.alloc o) (w.alloc o).heap.size Surge.at_ 3 A' ss := fun o => (hr'.alloc (Nat.le_refl _) o).more (by simp)
  have hk0 := Blk.new w 35 #[.int .i64 m, .slice A ps.length c, .slice A' ss.length c']
  have hB0 : Below w.heap.size w (w.alloc (.cells #[.int .i64 m, .slice A ps.length c, .slice A' ss.length c'] 35)) := (Below.refl _ _).alloc (Nat.le_refl _) _
  go_enter Try.func19, Try.ntmps19
  go_wp2_with fail
  refine (specForecastOk_any _ _ _ _ _ _ _ _ (hr1 _) (hr2 _) hwf hlen hlen').mono ?_
  rintro e w1 ⟨rfl, hb1⟩
  have hk1 := hk0.next hb1
  have hB1 := hB0.trans (hb1.mono hB0.size)
  have c0 := hk1.cell 0
  have c1 := hk1.cell 1
  have c2 := hk1.cell 2
  cases hok : foreOk m ps ss
  · go_wp2_with fail
    go_ret3
    exact ⟨by simp [lowS, highS, surgeC, hok], hB1⟩
  cases ht : inB t 0 2880
  · go_wp2_with (go_at_call 49; refine (l01In_any _ _ _ _).mono ?_; rintro e w' ⟨rfl, rfl⟩)
    go_ret3
    exact ⟨by simp [lowS, highS, surgeC, ht], hB1⟩
  have hC : surgeC m ps ss t = true := by simp [surgeC, hok, ht]
  have hl := foreOk_len hok
  have HR2 := Lib.hid ((hr'.below hB1).more hB1.size)
  have HC := Lib.hid hC
  clear hr hr' hr1 hr2 hk0 hB0 hb1 hC hwf
  go_wp2_with (first
    | (go_at_call 49; refine (l01In_any _ _ _ _).mono ?_; rintro e w' ⟨rfl, rfl⟩)
    | (go_at_call 58; refine (specSurge_any _ _ _ _ _ _ _ _ _ HR2.out hlen' hl.1).mono ?_; rintro e w2 ⟨rfl, hb2⟩))
  have hB2 := hB1.trans (hb2.mono hB1.size)
  go_quiet (fail)
  go_wp2
  go_ret3
  exact ⟨by simp [lowS, highS, HC.out], (hB2.alloc hB2.size _).drewN _⟩

set_option maxHeartbeats 4000000 in
theorem specLowAt_any (m : Int) (A A' : Option Addr) (c c' : Nat) (ps : List Part) (ss : List Surge) (t : Int) (w : World) (hr : Rd w w.heap.size Part.at_ 3 A ps) (hr' : Rd w w.heap.size Surge.at_ 3 A' ss) (hwf : ∀ p ∈ ps, p.wf) (hlen : ps.length ≤ 1048576) (hlen' : ss.length ≤ 1048576) :
    Calls Try.prog 21 #[.agg #[.int .i64 m, .slice A ps.length c, .slice A' ss.length c'], .int .i64 t] w fun e w' => e = .returned (.int .i64 (lowF m ps ss t)) ∧ Below w.heap.size w w' := by
  have hr1 : ∀ o, Rd (w.alloc o) (w.alloc o).heap.size Part.at_ 3 A ps := fun o => (hr.alloc (Nat.le_refl _) o).more (by simp)
  have hr2 : ∀ o, Rd (w.alloc o) (w.alloc o).heap.size Surge.at_ 3 A' ss := fun o => (hr'.alloc (Nat.le_refl _) o).more (by simp)
  have hk0 := Blk.new w 35 #[.int .i64 m, .slice A ps.length c, .slice A' ss.length c']
  have hB0 : Below w.heap.size w (w.alloc (.cells #[.int .i64 m, .slice A ps.length c, .slice A' ss.length c'] 35)) := (Below.refl _ _).alloc (Nat.le_refl _) _
  have hcs := fun W h h' => specSurgeAt_any m A A' c c' ps ss t W h h' hwf hlen hlen'
  cases hC : surgeC m ps ss t
  · have HRES : Hid (lowF m ps ss t = 0) := Lib.hid (by simp [lowF, hC])
    rw [hC] at hcs
    go_enter Try.func21, Try.ntmps21
    go_wp2_with fail
    refine (hcs _ (hr1 _) (hr2 _)).mono ?_
    rintro e w1 ⟨rfl, hb1⟩
    have hB1 := hB0.trans (hb1.mono hB0.size)
    go_wp2_with fail
    go_ret
    exact ⟨ret_int HRES.out.symm, hB1⟩
  have hok : foreOk m ps ss = true := by unfold surgeC at hC; rw [Bool.and_eq_true] at hC; exact hC.1
  have hb : 0 ≤ t ∧ t ≤ 2880 := by unfold surgeC at hC; rw [Bool.and_eq_true] at hC; exact inB_true hC.2
  have hbd := surgeV_bd t hok
  have hlb := levelV_bd (foreOk_tide hok) t (Nat.le_refl ps.length)
  rw [List.take_length] at hlb
  obtain ⟨lv, hlv⟩ : ∃ lv, lv = levelV t m ps := ⟨_, rfl⟩
  obtain ⟨x, hx⟩ : ∃ x, x = (surgeV ss t).low := ⟨_, rfl⟩
  obtain ⟨y, hy⟩ : ∃ y, y = (surgeV ss t).high := ⟨_, rfl⟩
  rw [← hlv] at hlb
  rw [← hx, ← hy] at hbd
  have HRES : Hid (lowF m ps ss t = lv + x) := Lib.hid (by simp [lowF, hC, lowV, hlv, hx])
  have hl1 : lowS m ps ss t = (surgeV ss t).low := by simp [lowS, hC]
  have hl2 : highS m ps ss t = (surgeV ss t).high := by simp [highS, hC]
  rw [hC, hl1, hl2] at hcs
  rw [← hx, ← hy] at hcs
  have hcl : ∀ W : World, Rd W W.heap.size Part.at_ 3 A ps → Calls Try.prog 61 #[.agg #[.int .i64 m, .slice A ps.length c], .int .i64 t] W fun e w' => e = .returned (.int .i64 lv) ∧ Below W.heap.size W w' := fun W h => by
    rw [hlv]
    exact specLevel_any _ _ _ _ _ _ h (foreOk_tide hok) hb.1 hb.2
  clear hx hy hlv hl1 hl2 hok hwf
  go_enter Try.func21, Try.ntmps21
  go_wp2_with fail
  refine (hcs _ (hr1 _) (hr2 _)).mono ?_
  rintro e w1 ⟨rfl, hb1⟩
  have hk1 := hk0.next hb1
  have hB1 := hB0.trans (hb1.mono hB0.size)
  have c0 := hk1.cell 0
  have c1 := hk1.cell 1
  have c2 := hk1.cell 2
  have HR1 := Lib.hid ((hr.below hB1).more hB1.size)
  clear hr hr' hr1 hr2 hk0 hB0 hb1 hcs
  go_wp2_with (go_at_call 61; refine (hcl _ HR1.out).mono ?_; rintro e w2 ⟨rfl, hb2⟩)
  go_ret
  exact ⟨ret_int HRES.out.symm, hB1.trans (hb2.mono hB1.size)⟩
set_option maxHeartbeats 4000000 in
theorem specHighAt_any (m : Int) (A A' : Option Addr) (c c' : Nat) (ps : List Part) (ss : List Surge) (t : Int) (w : World) (hr : Rd w w.heap.size Part.at_ 3 A ps) (hr' : Rd w w.heap.size Surge.at_ 3 A' ss) (hwf : ∀ p ∈ ps, p.wf) (hlen : ps.length ≤ 1048576) (hlen' : ss.length ≤ 1048576) :
    Calls Try.prog 23 #[.agg #[.int .i64 m, .slice A ps.length c, .slice A' ss.length c'], .int .i64 t] w fun e w' => e = .returned (.int .i64 (highF m ps ss t)) ∧ Below w.heap.size w w' := by
  have hr1 : ∀ o, Rd (w.alloc o) (w.alloc o).heap.size Part.at_ 3 A ps := fun o => (hr.alloc (Nat.le_refl _) o).more (by simp)
  have hr2 : ∀ o, Rd (w.alloc o) (w.alloc o).heap.size Surge.at_ 3 A' ss := fun o => (hr'.alloc (Nat.le_refl _) o).more (by simp)
  have hk0 := Blk.new w 35 #[.int .i64 m, .slice A ps.length c, .slice A' ss.length c']
  have hB0 : Below w.heap.size w (w.alloc (.cells #[.int .i64 m, .slice A ps.length c, .slice A' ss.length c'] 35)) := (Below.refl _ _).alloc (Nat.le_refl _) _
  have hcs := fun W h h' => specSurgeAt_any m A A' c c' ps ss t W h h' hwf hlen hlen'
  cases hC : surgeC m ps ss t
  · have HRES : Hid (highF m ps ss t = 0) := Lib.hid (by simp [highF, hC])
    rw [hC] at hcs
    go_enter Try.func23, Try.ntmps23
    go_wp2_with fail
    refine (hcs _ (hr1 _) (hr2 _)).mono ?_
    rintro e w1 ⟨rfl, hb1⟩
    have hB1 := hB0.trans (hb1.mono hB0.size)
    go_wp2_with fail
    go_ret
    exact ⟨ret_int HRES.out.symm, hB1⟩
  have hok : foreOk m ps ss = true := by unfold surgeC at hC; rw [Bool.and_eq_true] at hC; exact hC.1
  have hb : 0 ≤ t ∧ t ≤ 2880 := by unfold surgeC at hC; rw [Bool.and_eq_true] at hC; exact inB_true hC.2
  have hbd := surgeV_bd t hok
  have hlb := levelV_bd (foreOk_tide hok) t (Nat.le_refl ps.length)
  rw [List.take_length] at hlb
  obtain ⟨lv, hlv⟩ : ∃ lv, lv = levelV t m ps := ⟨_, rfl⟩
  obtain ⟨x, hx⟩ : ∃ x, x = (surgeV ss t).high := ⟨_, rfl⟩
  obtain ⟨y, hy⟩ : ∃ y, y = (surgeV ss t).low := ⟨_, rfl⟩
  rw [← hlv] at hlb
  rw [← hx, ← hy] at hbd
  have HRES : Hid (highF m ps ss t = lv + x) := Lib.hid (by simp [highF, hC, highV, hlv, hx])
  have hl1 : lowS m ps ss t = (surgeV ss t).low := by simp [lowS, hC]
  have hl2 : highS m ps ss t = (surgeV ss t).high := by simp [highS, hC]
  rw [hC, hl1, hl2] at hcs
  rw [← hx, ← hy] at hcs
  have hcl : ∀ W : World, Rd W W.heap.size Part.at_ 3 A ps → Calls Try.prog 61 #[.agg #[.int .i64 m, .slice A ps.length c], .int .i64 t] W fun e w' => e = .returned (.int .i64 lv) ∧ Below W.heap.size W w' := fun W h => by
    rw [hlv]
    exact specLevel_any _ _ _ _ _ _ h (foreOk_tide hok) hb.1 hb.2
  clear hx hy hlv hl1 hl2 hok hwf
  go_enter Try.func23, Try.ntmps23
  go_wp2_with fail
  refine (hcs _ (hr1 _) (hr2 _)).mono ?_
  rintro e w1 ⟨rfl, hb1⟩
  have hk1 := hk0.next hb1
  have hB1 := hB0.trans (hb1.mono hB0.size)
  have c0 := hk1.cell 0
  have c1 := hk1.cell 1
  have c2 := hk1.cell 2
  have HR1 := Lib.hid ((hr.below hB1).more hB1.size)
  clear hr hr' hr1 hr2 hk0 hB0 hb1 hcs
  go_wp2_with (go_at_call 61; refine (hcl _ HR1.out).mono ?_; rintro e w2 ⟨rfl, hb2⟩)
  go_ret
  exact ⟨ret_int HRES.out.symm, hB1.trans (hb2.mono hB1.size)⟩
end Go.Proofs.Ytmhiohijpnmcpaa
