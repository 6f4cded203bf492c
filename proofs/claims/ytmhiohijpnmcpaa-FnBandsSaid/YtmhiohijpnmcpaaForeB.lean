/-
  The contracts of low and high, LowAt, HighAt and InBand, the program's.
-/
import Derived.Test.YtmhiohijpnmcpaaForeF
import Derived.Test.YtmhiohijpnmcpaaForeS
namespace Go.Proofs.Ytmhiohijpnmcpaa
open Go.RowKit

set_option maxHeartbeats 4000000 in
theorem implLow_any (m : Int) (A A' : Option Addr) (c c' : Nat) (ps : List Part) (ss : List Surge) (t : Int) (w : World) (hr : Rd w w.heap.size Part.at_ 3 A ps) (hr' : Rd w w.heap.size Surge.at_ 3 A' ss) (hok : foreOk m ps ss = true) (ht0 : 0 ≤ t) (ht1 : t ≤ 2880) :
    Calls Try.prog 62 #[.agg #[.int .i64 m, .slice A ps.length c, .slice A' ss.length c'], .int .i64 t] w fun e w' => e = .returned (.int .i64 (lowV m ps ss t)) ∧ Below w.heap.size w w' := by
  obtain ⟨wa, hwa⟩ : ∃ wa, wa = w.alloc (.cells #[.int .i64 m, .slice A ps.length c, .slice A' ss.length c'] 35) := ⟨_, rfl⟩
  have hB0 : Below w.heap.size w wa := by rw [hwa]; exact (Below.refl _ _).alloc (Nat.le_refl _) _
  have hk0 : Blk wa w.heap.size 35 #[.int .i64 m, .slice A ps.length c, .slice A' ss.length c'] := by rw [hwa]; exact Blk.new _ _ _
  have hl := foreOk_len hok
  have hix := surgeIx_lt t hl.1 (Nat.le_refl _)
  obtain ⟨k, hk⟩ : ∃ k, k = surgeIx ss t ss.length := ⟨_, rfl⟩
  rw [← hk] at hix
  obtain ⟨g, off, rfl, hg, hc⟩ := hr' (by omega)
  obtain ⟨p, hp⟩ : ∃ p, ss[k]? = some p := ⟨_, List.getElem?_eq_getElem hix⟩
  have s0 := (hB0.cell (p := ⟨g, off + k * 3 + 1, none⟩) hg).trans (hc k p hp 1 (by omega))
  simp only [Surge.at_] at s0
  have hV : surgeV ss t = p := surgeV_at hk.symm hp
  have hbd := surgeV_bd t hok
  rw [hV] at hbd
  obtain ⟨lv, hlv⟩ : ∃ lv, lv = levelV t m ps := ⟨_, rfl⟩
  have hlb := levelV_bd (foreOk_tide hok) t (Nat.le_refl ps.length)
  rw [List.take_length, ← hlv] at hlb
  have hcl : ∀ W : World, Rd W W.heap.size Part.at_ 3 A ps → Calls Try.prog 83 #[.agg #[.int .i64 m, .slice A ps.length c], .int .i64 t] W fun e w' => e = .returned (.int .i64 lv) ∧ Below W.heap.size W w' := fun W h => by
    rw [hlv]
    exact implLevel_any _ _ _ _ _ _ h (foreOk_tide hok) ht0 ht1
  have hcs : ∀ W : World, Rd W W.heap.size Surge.at_ 3 (some ⟨g, off, none⟩) ss → Calls Try.prog 60 #[.agg #[.int .i64 m, .slice A ps.length c, .slice (some ⟨g, off, none⟩) ss.length c'], .int .i64 t] W fun e w' => e = .returned (.int .i64 (k : Int)) ∧ Below W.heap.size W w' := fun W h => by
    rw [hk]
    exact implSurge_any _ _ _ _ _ _ _ _ _ h (by omega)
  have HRES : Hid (lowV m ps ss t = lv + p.low) := Lib.hid (by rw [lowV, hV, hlv])
  have c0 := hk0.cell 0
  have c1 := hk0.cell 1
  have c2 := hk0.cell 2
  have hla : w.heap.size < wa.heap.size := hk0.lt
  have hlg : g < wa.heap.size := by omega
  have rdp : Rd wa.drew wa.drew.heap.size Part.at_ 3 A ps := (hr.below hB0).more hB0.size
  have rds : Rd wa.drew wa.drew.heap.size Surge.at_ 3 (some ⟨g, off, none⟩) ss := (hr'.below hB0).more hB0.size
  have hkz : (0 : Int) ≤ (k : Int) := Int.natCast_nonneg _
  have hk2 : (k : Int) < (ss.length : Int) := by omega
  have hB0d := hB0.drew
  have v1 : IntKind.i64.wrap (lv + p.low) = lv + p.low := IntWalk.i64_in _ (by omega)
  have HWA := Lib.hid hwa
  clear hk hlv hp hc hr hr' hV hbd hlb hB0 hk0 hwa hl hok
  go_enter Try.func62, Try.ntmps62
  go_wp2_with fail
  rw [← HWA.out]
  go_region_held3 (fun w' => w'.cell? ⟨w.heap.size, 0, none⟩ = some (.int .i64 m) ∧ w'.cell? ⟨w.heap.size, 1, none⟩ = some (.slice A ps.length c) ∧ w'.cell? ⟨w.heap.size, 2, none⟩ = some (.slice (some ⟨g, off, none⟩) ss.length c') ∧ w'.cell? ⟨g, off + k * 3 + 1, none⟩ = some (.int .i64 p.low)) (go_keep)
    (first
      | (go_at_call 60; refine (hcs _ ?_).mono ?_; exact (rds.below hb3).more hb3.size; rintro e w4 ⟨rfl, hb4⟩; have hcc4 : ∀ b o, b < w3.heap.size → w4.cell? ⟨b, o, none⟩ = w3.cell? ⟨b, o, none⟩ := (bcell hb4).1)
      | (go_at_call 83; refine (hcl _ rdp).mono ?_; rintro e w3 ⟨rfl, hb3⟩; have hcc3 : ∀ b o, b < wa.heap.size → w3.cell? ⟨b, o, none⟩ = wa.cell? ⟨b, o, none⟩ := (bcell hb3).1; have hlA3 : w.heap.size < w3.heap.size := Nat.lt_of_lt_of_le hla hb3.size; have hlB3 : g < w3.heap.size := Nat.lt_of_lt_of_le hlg hb3.size))
  clear v1
  go_wp2_with fail
  go_ret
  have hB3 := hB0d.trans (hb3.mono hB0d.size)
  exact ⟨ret_int HRES.out.symm, hB3.trans (hb4.mono hB3.size)⟩
set_option maxHeartbeats 4000000 in
theorem implHigh_any (m : Int) (A A' : Option Addr) (c c' : Nat) (ps : List Part) (ss : List Surge) (t : Int) (w : World) (hr : Rd w w.heap.size Part.at_ 3 A ps) (hr' : Rd w w.heap.size Surge.at_ 3 A' ss) (hok : foreOk m ps ss = true) (ht0 : 0 ≤ t) (ht1 : t ≤ 2880) :
    Calls Try.prog 63 #[.agg #[.int .i64 m, .slice A ps.length c, .slice A' ss.length c'], .int .i64 t] w fun e w' => e = .returned (.int .i64 (highV m ps ss t)) ∧ Below w.heap.size w w' := by
  obtain ⟨wa, hwa⟩ : ∃ wa, wa = w.alloc (.cells #[.int .i64 m, .slice A ps.length c, .slice A' ss.length c'] 35) := ⟨_, rfl⟩
  have hB0 : Below w.heap.size w wa := by rw [hwa]; exact (Below.refl _ _).alloc (Nat.le_refl _) _
  have hk0 : Blk wa w.heap.size 35 #[.int .i64 m, .slice A ps.length c, .slice A' ss.length c'] := by rw [hwa]; exact Blk.new _ _ _
  have hl := foreOk_len hok
  have hix := surgeIx_lt t hl.1 (Nat.le_refl _)
  obtain ⟨k, hk⟩ : ∃ k, k = surgeIx ss t ss.length := ⟨_, rfl⟩
  rw [← hk] at hix
  obtain ⟨g, off, rfl, hg, hc⟩ := hr' (by omega)
  obtain ⟨p, hp⟩ : ∃ p, ss[k]? = some p := ⟨_, List.getElem?_eq_getElem hix⟩
  have s0 := (hB0.cell (p := ⟨g, off + k * 3 + 2, none⟩) hg).trans (hc k p hp 2 (by omega))
  simp only [Surge.at_] at s0
  have hV : surgeV ss t = p := surgeV_at hk.symm hp
  have hbd := surgeV_bd t hok
  rw [hV] at hbd
  obtain ⟨lv, hlv⟩ : ∃ lv, lv = levelV t m ps := ⟨_, rfl⟩
  have hlb := levelV_bd (foreOk_tide hok) t (Nat.le_refl ps.length)
  rw [List.take_length, ← hlv] at hlb
  have hcl : ∀ W : World, Rd W W.heap.size Part.at_ 3 A ps → Calls Try.prog 83 #[.agg #[.int .i64 m, .slice A ps.length c], .int .i64 t] W fun e w' => e = .returned (.int .i64 lv) ∧ Below W.heap.size W w' := fun W h => by
    rw [hlv]
    exact implLevel_any _ _ _ _ _ _ h (foreOk_tide hok) ht0 ht1
  have hcs : ∀ W : World, Rd W W.heap.size Surge.at_ 3 (some ⟨g, off, none⟩) ss → Calls Try.prog 60 #[.agg #[.int .i64 m, .slice A ps.length c, .slice (some ⟨g, off, none⟩) ss.length c'], .int .i64 t] W fun e w' => e = .returned (.int .i64 (k : Int)) ∧ Below W.heap.size W w' := fun W h => by
    rw [hk]
    exact implSurge_any _ _ _ _ _ _ _ _ _ h (by omega)
  have HRES : Hid (highV m ps ss t = lv + p.high) := Lib.hid (by rw [highV, hV, hlv])
  have c0 := hk0.cell 0
  have c1 := hk0.cell 1
  have c2 := hk0.cell 2
  have hla : w.heap.size < wa.heap.size := hk0.lt
  have hlg : g < wa.heap.size := by omega
  have rdp : Rd wa.drew wa.drew.heap.size Part.at_ 3 A ps := (hr.below hB0).more hB0.size
  have rds : Rd wa.drew wa.drew.heap.size Surge.at_ 3 (some ⟨g, off, none⟩) ss := (hr'.below hB0).more hB0.size
  have hkz : (0 : Int) ≤ (k : Int) := Int.natCast_nonneg _
  have hk2 : (k : Int) < (ss.length : Int) := by omega
  have hB0d := hB0.drew
  have v1 : IntKind.i64.wrap (lv + p.high) = lv + p.high := IntWalk.i64_in _ (by omega)
  have HWA := Lib.hid hwa
  clear hk hlv hp hc hr hr' hV hbd hlb hB0 hk0 hwa hl hok
  go_enter Try.func63, Try.ntmps63
  go_wp2_with fail
  rw [← HWA.out]
  go_region_held3 (fun w' => w'.cell? ⟨w.heap.size, 0, none⟩ = some (.int .i64 m) ∧ w'.cell? ⟨w.heap.size, 1, none⟩ = some (.slice A ps.length c) ∧ w'.cell? ⟨w.heap.size, 2, none⟩ = some (.slice (some ⟨g, off, none⟩) ss.length c') ∧ w'.cell? ⟨g, off + k * 3 + 2, none⟩ = some (.int .i64 p.high)) (go_keep)
    (first
      | (go_at_call 60; refine (hcs _ ?_).mono ?_; exact (rds.below hb3).more hb3.size; rintro e w4 ⟨rfl, hb4⟩; have hcc4 : ∀ b o, b < w3.heap.size → w4.cell? ⟨b, o, none⟩ = w3.cell? ⟨b, o, none⟩ := (bcell hb4).1)
      | (go_at_call 83; refine (hcl _ rdp).mono ?_; rintro e w3 ⟨rfl, hb3⟩; have hcc3 : ∀ b o, b < wa.heap.size → w3.cell? ⟨b, o, none⟩ = wa.cell? ⟨b, o, none⟩ := (bcell hb3).1; have hlA3 : w.heap.size < w3.heap.size := Nat.lt_of_lt_of_le hla hb3.size; have hlB3 : g < w3.heap.size := Nat.lt_of_lt_of_le hlg hb3.size))
  clear v1
  go_wp2_with fail
  go_ret
  have hB3 := hB0d.trans (hb3.mono hB0d.size)
  exact ⟨ret_int HRES.out.symm, hB3.trans (hb4.mono hB3.size)⟩
set_option maxHeartbeats 4000000 in
theorem implLowAt_any (m : Int) (A A' : Option Addr) (c c' : Nat) (ps : List Part) (ss : List Surge) (t : Int) (w : World) (hr : Rd w w.heap.size Part.at_ 3 A ps) (hr' : Rd w w.heap.size Surge.at_ 3 A' ss) (hwf : ∀ p ∈ ps, p.wf) (hlen : ps.length ≤ 1048576) (hlen' : ss.length ≤ 1048576) :
    Calls Try.prog 22 #[.agg #[.int .i64 m, .slice A ps.length c, .slice A' ss.length c'], .int .i64 t] w fun e w' => e = .returned (.int .i64 (lowF m ps ss t)) ∧ Below w.heap.size w w' := by
  have hr1 : ∀ o, Rd (w.alloc o) (w.alloc o).heap.size Part.at_ 3 A ps := fun o => (hr.alloc (Nat.le_refl _) o).more (by simp)
  have hr2 : ∀ o, Rd (w.alloc o) (w.alloc o).heap.size Surge.at_ 3 A' ss := fun o => (hr'.alloc (Nat.le_refl _) o).more (by simp)
  have hk0 := Blk.new w 35 #[.int .i64 m, .slice A ps.length c, .slice A' ss.length c']
  have hB0 : Below w.heap.size w (w.alloc (.cells #[.int .i64 m, .slice A ps.length c, .slice A' ss.length c'] 35)) := (Below.refl _ _).alloc (Nat.le_refl _) _
  go_enter Try.func22, Try.ntmps22
  go_wp2_with fail
  refine (implForecastOk_any _ _ _ _ _ _ _ _ (hr1 _) (hr2 _) hwf hlen hlen').mono ?_
  rintro e w1 ⟨rfl, hb1⟩
  have hk1 := hk0.next hb1
  have hB1 := hB0.trans (hb1.mono hB0.size)
  have c0 := hk1.cell 0
  have c1 := hk1.cell 1
  have c2 := hk1.cell 2
  cases hok : foreOk m ps ss
  · go_wp2_with fail
    go_ret
    exact ⟨ret_int (by simp [lowF, surgeC, hok]), hB1⟩
  cases ht : inB t 0 2880
  · go_wp2_with (go_at_call 59; refine (isMinute_any _ _).mono ?_; rintro e w' ⟨rfl, rfl⟩)
    go_ret
    exact ⟨ret_int (by simp [lowF, surgeC, ht]), hB1⟩
  have hb := inB_true ht
  have HRES : Hid (lowF m ps ss t = lowV m ps ss t) := Lib.hid (by simp [lowF, surgeC, hok, ht])
  have HR1 := Lib.hid ((hr.below hB1).more hB1.size)
  have HR2 := Lib.hid ((hr'.below hB1).more hB1.size)
  clear hr hr' hr1 hr2 hk0 hB0 hb1
  go_wp2_with (first
    | (go_at_call 59; refine (isMinute_any _ _).mono ?_; rintro e w' ⟨rfl, rfl⟩)
    | (go_at_call 62; refine (implLow_any _ _ _ _ _ _ _ _ _ HR1.out HR2.out hok hb.1 hb.2).mono ?_; rintro e w2 ⟨rfl, hb2⟩))
  go_ret
  exact ⟨ret_int HRES.out.symm, hB1.trans (hb2.mono hB1.size)⟩
set_option maxHeartbeats 4000000 in
theorem implHighAt_any (m : Int) (A A' : Option Addr) (c c' : Nat) (ps : List Part) (ss : List Surge) (t : Int) (w : World) (hr : Rd w w.heap.size Part.at_ 3 A ps) (hr' : Rd w w.heap.size Surge.at_ 3 A' ss) (hwf : ∀ p ∈ ps, p.wf) (hlen : ps.length ≤ 1048576) (hlen' : ss.length ≤ 1048576) :
    Calls Try.prog 24 #[.agg #[.int .i64 m, .slice A ps.length c, .slice A' ss.length c'], .int .i64 t] w fun e w' => e = .returned (.int .i64 (highF m ps ss t)) ∧ Below w.heap.size w w' := by
  have hr1 : ∀ o, Rd (w.alloc o) (w.alloc o).heap.size Part.at_ 3 A ps := fun o => (hr.alloc (Nat.le_refl _) o).more (by simp)
  have hr2 : ∀ o, Rd (w.alloc o) (w.alloc o).heap.size Surge.at_ 3 A' ss := fun o => (hr'.alloc (Nat.le_refl _) o).more (by simp)
  have hk0 := Blk.new w 35 #[.int .i64 m, .slice A ps.length c, .slice A' ss.length c']
  have hB0 : Below w.heap.size w (w.alloc (.cells #[.int .i64 m, .slice A ps.length c, .slice A' ss.length c'] 35)) := (Below.refl _ _).alloc (Nat.le_refl _) _
  go_enter Try.func24, Try.ntmps24
  go_wp2_with fail
  refine (implForecastOk_any _ _ _ _ _ _ _ _ (hr1 _) (hr2 _) hwf hlen hlen').mono ?_
  rintro e w1 ⟨rfl, hb1⟩
  have hk1 := hk0.next hb1
  have hB1 := hB0.trans (hb1.mono hB0.size)
  have c0 := hk1.cell 0
  have c1 := hk1.cell 1
  have c2 := hk1.cell 2
  cases hok : foreOk m ps ss
  · go_wp2_with fail
    go_ret
    exact ⟨ret_int (by simp [highF, surgeC, hok]), hB1⟩
  cases ht : inB t 0 2880
  · go_wp2_with (go_at_call 59; refine (isMinute_any _ _).mono ?_; rintro e w' ⟨rfl, rfl⟩)
    go_ret
    exact ⟨ret_int (by simp [highF, surgeC, ht]), hB1⟩
  have hb := inB_true ht
  have HRES : Hid (highF m ps ss t = highV m ps ss t) := Lib.hid (by simp [highF, surgeC, hok, ht])
  have HR1 := Lib.hid ((hr.below hB1).more hB1.size)
  have HR2 := Lib.hid ((hr'.below hB1).more hB1.size)
  clear hr hr' hr1 hr2 hk0 hB0 hb1
  go_wp2_with (first
    | (go_at_call 59; refine (isMinute_any _ _).mono ?_; rintro e w' ⟨rfl, rfl⟩)
    | (go_at_call 63; refine (implHigh_any _ _ _ _ _ _ _ _ _ HR1.out HR2.out hok hb.1 hb.2).mono ?_; rintro e w2 ⟨rfl, hb2⟩))
  go_ret
  exact ⟨ret_int HRES.out.symm, hB1.trans (hb2.mono hB1.size)⟩
end Go.Proofs.Ytmhiohijpnmcpaa
