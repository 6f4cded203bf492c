/-
  The contracts of RouteMinutes, the program's and the reference's. Printed by a program of the claim's author.
-/
import Derived.Test.YtjmfgncakegjaaaChartG
import Derived.Test.YtjmfgncakegjaaaTInt
import Derived.Test.YtjmfgncakegjaaaModelR
namespace Go.Proofs.Ytjmfgncakegjaaa
open Go.RowKit

set_option maxHeartbeats 2000000 in
theorem implRouteMinutes_any (A A' R : Option Addr) (c c' d : Nat) (ps : List Point) (ss : List Segment) (rs : List Int) (w : World) (hr : Rd w w.heap.size Point.at_ 2 A ps) (hr' : Rd w w.heap.size Segment.at_ 5 A' ss) (hq : Rd w w.heap.size intAt 1 R rs) (hwf : ∀ p ∈ ps, p.wf) (hwf' : ∀ p ∈ ss, p.wf) (hlen : ps.length ≤ 1048576) (hlen' : ss.length ≤ 1048576) (hlq : rs.length ≤ 1048576) (hcap : ss.length ≤ c') :
    Calls Try.prog 26 #[.agg #[.slice A ps.length c, .slice A' ss.length c'], .slice R rs.length d] w fun e w' => e = .returned (.int .i64 (minsF ps ss rs)) ∧ Below w.heap.size w w' := by
  have hr1 : ∀ o, Rd (w.alloc o) (w.alloc o).heap.size Point.at_ 2 A ps := fun o => (hr.alloc (Nat.le_refl _) o).more (by simp)
  have hr2 : ∀ o, Rd (w.alloc o) (w.alloc o).heap.size Segment.at_ 5 A' ss := fun o => (hr'.alloc (Nat.le_refl _) o).more (by simp)
  have hk0 := Blk.new w 31 #[.slice A ps.length c, .slice A' ss.length c']
  have hB0 : Below w.heap.size w (w.alloc (.cells #[.slice A ps.length c, .slice A' ss.length c'] 31)) := (Below.refl _ _).alloc (Nat.le_refl _) _
  go_enter Try.func26, Try.ntmps26
  go_wp2_with fail
  refine (implChartOk_any _ _ _ _ _ _ _ (hr1 _) (hr2 _) hwf hwf' hlen hlen' hcap).mono ?_
  rintro e w1 ⟨rfl, hb1⟩
  have hk1 := hk0.next hb1
  have hB1 := hB0.trans (hb1.mono hB0.size)
  cases hok : chartOk ps ss
  · go_wp2_with fail
    go_ret
    exact ⟨ret_int (by simp [minsF, hok]), hB1⟩
  have HRES : Hid (minsF ps ss rs = minsV ss 0 rs) := Lib.hid (by simp [minsF, hok])
  have HR' := Lib.hid hr'
  have hsl := chartOk_len hok
  clear hr1 hr2 hr hr' hwf hwf' hk0 hB0 hb1 hcap
  go_wp2_with fail
  go_loopw [5, 13] (fun s i wr => ∃ k : Nat, k ≤ rs.length ∧ i = .int .i64 k ∧ (∃ a : Int, s = .int .i64 a ∧ 0 ≤ a ∧ a ≤ 240 * (k : Int) ∧ minsV ss 0 rs = minsV ss a (rs.drop k)) ∧ Blk wr w.heap.size 31 #[.slice A ps.length c, .slice A' ss.length c'] ∧ Below w.heap.size w wr) (fun _ i _ => rs.length - (intOf i).toNat)
  case atStart => exact ⟨0, Nat.zero_le _, rfl, ⟨0, rfl, by omega, by omega, rfl⟩, hk1, hB1⟩
  case round =>
    clear hB1 hk1
    obtain ⟨k, hk, rfl, ⟨a, rfl, ha0, ha1, hno⟩, hkr, hbel⟩ := hrel
    have hs := hbel.size
    have HN := Lib.hid hno
    have c0 := hkr.cell 0
    have c1 := hkr.cell 1
    clear hno
    by_cases hlt : k < rs.length
    · obtain ⟨g, off, rfl, hg, hc⟩ := hq (by omega)
      obtain ⟨r, hrk⟩ : ∃ r, rs[k]? = some r := ⟨_, List.getElem?_eq_getElem hlt⟩
      have d0 := (hbel.cell (p := ⟨g, off + k * 1 + 0, none⟩) hg).trans (hc k r hrk 0 (by omega))
      simp only [intAt, Nat.add_zero, Nat.mul_one] at d0
      have HQ := Lib.hid hq
      have HC := Lib.hid hc
      have HK := Lib.hid hrk
      clear hq hc hrk
      cases t : idxB r ss.length
      · have HX := Lib.hid (minsV_bad HN.out HK.out (by simp [t]))
        go_wp2_with (go_at_call 54; refine (isIndex_any _ _ _).mono ?_; rintro e w' ⟨rfl, rfl⟩)
        go_ret
        exact ⟨ret_int (by rw [HRES.out, HX.out]), hbel⟩
      have hgg : 0 ≤ r ∧ r < ss.length := by
        simpa [idxB] using t
      obtain ⟨j, rfl⟩ : ∃ j : Nat, r = j := ⟨r.toNat, by omega⟩
      obtain ⟨s, hsj⟩ : ∃ s, ss[j]? = some s := ⟨_, List.getElem?_eq_getElem (by omega)⟩
      obtain ⟨gs, os, rfl, hgs, hcs⟩ := HR'.out (by omega)
      have e0 := (hbel.cell (p := ⟨gs, os + j * 5 + 3, none⟩) hgs).trans (hcs j s hsj 3 (by omega))
      simp only [Segment.at_] at e0
      have hm := (segOk_true (chartOk_seg hok hsj)).2.2.2.2
      have HX := Lib.hid (minsV_next HN.out HK.out (by simp [t]) hsj)
      have hj0 : (0 : Int) ≤ (j : Int) := Int.natCast_nonneg _
      have hj1 : (j : Int) < (ss.length : Int) := hgg.2
      have v1 : IntKind.i64.wrap (a + s.mins) = a + s.mins := IntWalk.i64_in _ (by omega)
      clear hgg hcs hsj
      go_wp2_with (go_at_call 54; refine (isIndex_any _ _ _).mono ?_; rintro e w' ⟨rfl, rfl⟩)
      go_roundw
      case rel => exact ⟨k + 1, by omega, by go_num, ⟨a + s.mins, by go_num, by omega, by omega, HX.out⟩, hkr, hbel⟩
      case measure => simp [intOf]; omega
    · have hk' : k = rs.length := by omega
      subst hk'
      have HX := Lib.hid (minsV_done HN.out)
      go_wp2_with fail
      go_ret
      exact ⟨ret_int (by rw [HRES.out, HX.out]), hbel⟩

set_option maxHeartbeats 2000000 in
theorem specRouteMinutes_any (A A' R : Option Addr) (c c' d : Nat) (ps : List Point) (ss : List Segment) (rs : List Int) (w : World) (hr : Rd w w.heap.size Point.at_ 2 A ps) (hr' : Rd w w.heap.size Segment.at_ 5 A' ss) (hq : Rd w w.heap.size intAt 1 R rs) (hwf : ∀ p ∈ ps, p.wf) (hwf' : ∀ p ∈ ss, p.wf) (hlen : ps.length ≤ 1048576) (hlen' : ss.length ≤ 1048576) (hlq : rs.length ≤ 1048576) (hcap : ss.length ≤ c') :
    Calls Try.prog 24 #[.agg #[.slice A ps.length c, .slice A' ss.length c'], .slice R rs.length d] w fun e w' => e = .returned (.int .i64 (minsF ps ss rs)) ∧ Below w.heap.size w w' := by
  have hr1 : ∀ o, Rd (w.alloc o) (w.alloc o).heap.size Point.at_ 2 A ps := fun o => (hr.alloc (Nat.le_refl _) o).more (by simp)
  have hr2 : ∀ o, Rd (w.alloc o) (w.alloc o).heap.size Segment.at_ 5 A' ss := fun o => (hr'.alloc (Nat.le_refl _) o).more (by simp)
  have hk0 := Blk.new w 31 #[.slice A ps.length c, .slice A' ss.length c']
  have hB0 : Below w.heap.size w (w.alloc (.cells #[.slice A ps.length c, .slice A' ss.length c'] 31)) := (Below.refl _ _).alloc (Nat.le_refl _) _
  go_enter Try.func24, Try.ntmps24
  go_wp2_with fail
  refine (specChartOk_any _ _ _ _ _ _ _ (hr1 _) (hr2 _) hwf hwf' hlen hlen' hcap).mono ?_
  rintro e w1 ⟨rfl, hb1⟩
  have hk1 := hk0.next hb1
  have hB1 := hB0.trans (hb1.mono hB0.size)
  cases hok : chartOk ps ss
  · go_wp2_with fail
    go_ret
    exact ⟨ret_int (by simp [minsF, hok]), hB1⟩
  have HRES : Hid (minsF ps ss rs = minsV ss 0 rs) := Lib.hid (by simp [minsF, hok])
  have HR' := Lib.hid hr'
  have hsl := chartOk_len hok
  clear hr1 hr2 hr hr' hwf hwf' hk0 hB0 hb1 hcap
  go_wp2_with fail
  go_loopw [5, 13] (fun s i wr => ∃ k : Nat, k ≤ rs.length ∧ i = .int .i64 k ∧ (∃ a : Int, s = .int .i64 a ∧ 0 ≤ a ∧ a ≤ 240 * (k : Int) ∧ minsV ss 0 rs = minsV ss a (rs.drop k)) ∧ Blk wr w.heap.size 31 #[.slice A ps.length c, .slice A' ss.length c'] ∧ Below w.heap.size w wr) (fun _ i _ => rs.length - (intOf i).toNat)
  case atStart => exact ⟨0, Nat.zero_le _, rfl, ⟨0, rfl, by omega, by omega, rfl⟩, hk1, hB1⟩
  case round =>
    clear hB1 hk1
    obtain ⟨k, hk, rfl, ⟨a, rfl, ha0, ha1, hno⟩, hkr, hbel⟩ := hrel
    have hs := hbel.size
    have HN := Lib.hid hno
    have c0 := hkr.cell 0
    have c1 := hkr.cell 1
    clear hno
    by_cases hlt : k < rs.length
    · obtain ⟨g, off, rfl, hg, hc⟩ := hq (by omega)
      obtain ⟨r, hrk⟩ : ∃ r, rs[k]? = some r := ⟨_, List.getElem?_eq_getElem hlt⟩
      have d0 := (hbel.cell (p := ⟨g, off + k * 1 + 0, none⟩) hg).trans (hc k r hrk 0 (by omega))
      simp only [intAt, Nat.add_zero, Nat.mul_one] at d0
      have HQ := Lib.hid hq
      have HC := Lib.hid hc
      have HK := Lib.hid hrk
      clear hq hc hrk
      cases t : inB r 0 ((ss.length : Int) - 1)
      · have HX := Lib.hid (minsV_bad HN.out HK.out (by simp [idxB_inB, t]))
        go_wp2_with (go_at_call 51; refine (l01In_any _ _ _ _).mono ?_; rintro e w' ⟨rfl, rfl⟩)
        go_ret
        exact ⟨ret_int (by rw [HRES.out, HX.out]), hbel⟩
      have hgg : 0 ≤ r ∧ r < ss.length := by
        have := inB_true t; omega
      obtain ⟨j, rfl⟩ : ∃ j : Nat, r = j := ⟨r.toNat, by omega⟩
      obtain ⟨s, hsj⟩ : ∃ s, ss[j]? = some s := ⟨_, List.getElem?_eq_getElem (by omega)⟩
      obtain ⟨gs, os, rfl, hgs, hcs⟩ := HR'.out (by omega)
      have e0 := (hbel.cell (p := ⟨gs, os + j * 5 + 3, none⟩) hgs).trans (hcs j s hsj 3 (by omega))
      simp only [Segment.at_] at e0
      have hm := (segOk_true (chartOk_seg hok hsj)).2.2.2.2
      have HX := Lib.hid (minsV_next HN.out HK.out (by simp [idxB_inB, t]) hsj)
      have hj0 : (0 : Int) ≤ (j : Int) := Int.natCast_nonneg _
      have hj1 : (j : Int) < (ss.length : Int) := hgg.2
      have v1 : IntKind.i64.wrap (a + s.mins) = a + s.mins := IntWalk.i64_in _ (by omega)
      clear hgg hcs hsj
      go_wp2_with (go_at_call 51; refine (l01In_any _ _ _ _).mono ?_; rintro e w' ⟨rfl, rfl⟩)
      go_roundw
      case rel => exact ⟨k + 1, by omega, by go_num, ⟨a + s.mins, by go_num, by omega, by omega, HX.out⟩, hkr, hbel⟩
      case measure => simp [intOf]; omega
    · have hk' : k = rs.length := by omega
      subst hk'
      have HX := Lib.hid (minsV_done HN.out)
      go_wp2_with fail
      go_ret
      exact ⟨ret_int (by rw [HRES.out, HX.out]), hbel⟩

end Go.Proofs.Ytjmfgncakegjaaa
