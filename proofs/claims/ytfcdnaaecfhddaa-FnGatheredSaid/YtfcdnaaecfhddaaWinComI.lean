/-
  The contract of CommonWindows, the program's.
-/
import Derived.Test.YtfcdnaaecfhddaaWinNum
import Derived.Test.YtfcdnaaecfhddaaWinApp
import Derived.Test.YtfcdnaaecfhddaaModelG
namespace Go.Proofs.Ytfcdnaaecfhddaa
open Go.RowKit

set_option maxHeartbeats 4000000 in
theorem implCommonWindows_any (A A' : Option Addr) (c c' : Nat) (ps qs : List Window) (w : World) (hr : Rd w w.heap.size Window.at_ 2 A ps) (hr' : Rd w w.heap.size Window.at_ 2 A' qs) (hlen : ps.length ≤ 1048576) (hlen' : qs.length ≤ 1048576) :
    Calls Try.prog 31 #[.slice A ps.length c, .slice A' qs.length c'] w (ResSl 41 Window.at_ 2 (commonF ps qs) w) := by
  cases hok : windowsOk ps
  · go_enter Try.func31, Try.ntmps31
    go_wp2_with (go_at_call 16; refine (implWindowsOk_any _ _ _ _ hr hlen).mono ?_; rintro e w' ⟨rfl, hb⟩)
    go_ret
    exact ResSl.nil_ (by simp [commonF, hok]) hb
  cases hok' : windowsOk qs
  · go_enter Try.func31, Try.ntmps31
    go_wp2_with fail
    refine (implWindowsOk_any _ _ _ _ hr hlen).mono ?_
    rintro e w0 ⟨rfl, hb0⟩
    have HR := Lib.hid ((hr'.below hb0).more hb0.size)
    go_wp2_with fail
    refine (implWindowsOk_any _ _ _ _ HR.out hlen').mono ?_
    rintro e w1 ⟨rfl, hb1⟩
    go_wp2_with fail
    go_ret
    exact ResSl.nil_ (by simp [commonF, hok']) (hb0.trans (hb1.mono hb0.size))
  have HF := Lib.hid (show commonF ps qs = commonL ps qs by rw [commonF, if_pos ⟨hok, hok'⟩])
  have hl := windowsOk_len hok
  have hl' := windowsOk_len hok'
  obtain ⟨i0, hi, hz0, hz1, hz2⟩ := info_parts infoWindow
  go_enter Try.func31, Try.ntmps31
  go_wp2_with fail
  refine (implWindowsOk_any _ _ _ _ hr hlen).mono ?_
  rintro e w0 ⟨rfl, hb0⟩
  have hz0' := hb0.size
  have HR := Lib.hid ((hr'.below hb0).more hb0.size)
  go_wp2_with fail
  refine (implWindowsOk_any _ _ _ _ HR.out hlen').mono ?_
  rintro e w1 ⟨rfl, hb1⟩
  have hB1 := hb0.trans (hb1.mono hb0.size)
  have hz1' := hB1.size
  clear hb0 hb1 hz0' HR
  go_wp2_with fail
  go_loopw [5, 6, 7] (fun v f g wr => ∃ i k : Nat, i ≤ ps.length ∧ k ≤ qs.length ∧ f = .int .i64 i ∧ g = .int .i64 k ∧ (∃ acc : List Window, wr.ownsRow w.heap.size 41 2 v acc.length (flat Window.at_ 2 acc) ∧ acc.length ≤ i + k ∧ commonL ps qs = acc ++ commonL (ps.drop i) (qs.drop k)) ∧ Below w.heap.size w wr) (fun _ f g _ => ps.length + qs.length - ((intOf f).toNat + (intOf g).toNat))
  case atStart => exact ⟨0, 0, Nat.zero_le _, Nat.zero_le _, rfl, rfl, ⟨[], World.ownsRow_lit w1 #[] 0 (by omega) (by simp [maxLen]) rfl, Nat.le_refl _, rfl⟩, hB1.alloc hz1' _⟩
  case round =>
    obtain ⟨i, k, hi', hk', rfl, rfl, ⟨acc, hown, hal, hacc⟩, hbel⟩ := hrel
    have hs := hbel.size
    have HA := Lib.hid hacc
    clear hacc
    by_cases hlt : i < ps.length
    · by_cases hlt' : k < qs.length
      · obtain ⟨g, off, rfl, hg, hc⟩ := hr (by omega)
        obtain ⟨g', off', rfl, hg', hc'⟩ := hr' (by omega)
        obtain ⟨p, hp⟩ : ∃ p, ps[i]? = some p := ⟨_, List.getElem?_eq_getElem hlt⟩
        obtain ⟨q, hq⟩ : ∃ q, qs[k]? = some q := ⟨_, List.getElem?_eq_getElem hlt'⟩
        have c0 := (hbel.cell (p := ⟨g, off + i * 2 + 0, none⟩) hg).trans (hc i p hp 0 (by omega))
        have c1 := (hbel.cell (p := ⟨g, off + i * 2 + 1, none⟩) hg).trans (hc i p hp 1 (by omega))
        have d0 := (hbel.cell (p := ⟨g', off' + k * 2 + 0, none⟩) hg').trans (hc' k q hq 0 (by omega))
        have d1 := (hbel.cell (p := ⟨g', off' + k * 2 + 1, none⟩) hg').trans (hc' k q hq 1 (by omega))
        simp only [Window.at_, Nat.add_zero] at c0 c1 d0 d1
        have hpm := windowsOk_mem hok (List.mem_of_getElem? hp)
        have hqm := windowsOk_mem hok' (List.mem_of_getElem? hq)
        have HC := Lib.hid hc
        have HC' := Lib.hid hc'
        have HR := Lib.hid hr
        have HR' := Lib.hid hr'
        have HP := Lib.hid hp
        have HQ := Lib.hid hq
        obtain ⟨x0, x1⟩ := p
        obtain ⟨y0, y1⟩ := q
        dsimp only at c0 c1 d0 d1 hpm hqm
        clear hc hc' hr hr' hp hq
        obtain ⟨hp1, hp2, hp3⟩ := hpm
        obtain ⟨hq1, hq2, hq3⟩ := hqm
        have hk0 : (0 : Int) ≤ (k : Int) := Int.natCast_nonneg _
        have hk1 : (k : Int) < (qs.length : Int) := by omega
        have hi0 : (0 : Int) ≤ (i : Int) := Int.natCast_nonneg _
        have hi1 : (i : Int) < (ps.length : Int) := by omega
        obtain ⟨m0, hm0⟩ : ∃ m0, m0 = if x0 < y0 then y0 else x0 := ⟨_, rfl⟩
        obtain ⟨m1, hm1⟩ : ∃ m1, m1 = if y1 < x1 then y1 else x1 := ⟨_, rfl⟩
        have hx0 : m0 = max x0 y0 := by rw [hm0]; split <;> omega
        have hx1 : m1 = min x1 y1 := by rw [hm1]; split <;> omega
        have hcy : m0 ≤ m1 → Hid (cutL ⟨x0, x1⟩ ⟨y0, y1⟩ = [⟨m0, m1⟩]) := fun h => Lib.hid (by rw [hx0, hx1]; exact cutL_yes (by rw [← hx0, ← hx1]; exact h))
        have hcn : ¬ m0 ≤ m1 → Hid (cutL ⟨x0, x1⟩ ⟨y0, y1⟩ = []) := fun h => Lib.hid (cutL_no (by rw [← hx0, ← hx1]; exact h))
        have HM0 := Lib.hid hm0
        have HM1 := Lib.hid hm1
        clear hx0 hx1 hm0 hm1
        go_wp2_with fail
        go_region_held3 (fun w' => w'.cell? ⟨g, off + i * 2, none⟩ = some (.int .i64 x0) ∧ w'.cell? ⟨g, off + i * 2 + 1, none⟩ = some (.int .i64 x1) ∧ w'.cell? ⟨g', off' + k * 2, none⟩ = some (.int .i64 y0) ∧ w'.cell? ⟨g', off' + k * 2 + 1, none⟩ = some (.int .i64 y1)) (go_keep) (fail)
        all_goals
          rw [← HM0.out, ← HM1.out]
          by_cases u : m0 ≤ m1
          · have HCU := hcy u
            go_wp2_with (at_builtin; refine wpAppendWindow rfl _ _ rfl w.heap.size _ acc rfl ((hown.alloc _).alloc _) (wr.heap.size + 1) rfl m0 m1 (Blk.new' _ _ (by simp)) (by omega) (by simp; omega) ?_)
            intro v' w2 hown' hbn0 hgrow _
            have hbn : Below w.heap.size w w2 := ((hbel.alloc hs _).drew.alloc (by simp; omega) _).trans hbn0
            have c1' := (hbn.cell (p := ⟨g, off + i * 2 + 1, none⟩) hg).trans (HC.out i _ HP.out 1 (by omega))
            have d1' := (hbn.cell (p := ⟨g', off' + k * 2 + 1, none⟩) hg').trans (HC'.out k _ HQ.out 1 (by omega))
            simp only [Window.at_] at c1' d1'
            have HO := Lib.hid hown'
            clear hown' hgrow hown hbn0 c0 c1 d0 d1
            by_cases tt : x1 < y1
            · have HX := Lib.hid (com_a HA.out hok' HP.out HQ.out tt)
              go_wp2_with fail
              go_quiet (fail)
              go_wp2_with fail
              go_roundw
              case rel => exact ⟨i + 1, k, by omega, by omega, by go_num, rfl, ⟨acc ++ [⟨m0, m1⟩], (by rw [List.length_append]; exact HO.out), by simp; omega, by rw [HX.out, HCU.out]⟩, hbn.drewN _⟩
              case measure => simp [intOf]; omega
            · have HX := Lib.hid (com_b HA.out hok HP.out HQ.out tt)
              go_wp2_with fail
              go_quiet (fail)
              go_wp2_with fail
              go_roundw
              case rel => exact ⟨i, k + 1, by omega, by omega, rfl, by go_num, ⟨acc ++ [⟨m0, m1⟩], (by rw [List.length_append]; exact HO.out), by simp; omega, by rw [HX.out, HCU.out]⟩, hbn.drewN _⟩
              case measure => simp [intOf]; omega
          · have HCU := hcn (by omega)
            obtain ⟨w2, hw2⟩ : ∃ w2, w2 = (wr.alloc (.cells #[.int .i64 m0, .int .i64 m1] 41)).drew := ⟨_, rfl⟩
            have HO : Hid (w2.ownsRow w.heap.size 41 2 _ _ _) := Lib.hid (by rw [hw2]; exact hown.alloc (.cells #[.int .i64 m0, .int .i64 m1] 41))
            have hbn : Below w.heap.size w w2 := by rw [hw2]; exact (hbel.alloc hs (.cells #[.int .i64 m0, .int .i64 m1] 41)).drew
            have hbk : Blk w2 wr.heap.size 41 #[.int .i64 m0, .int .i64 m1] := by rw [hw2]; exact Blk.drew (Blk.new _ _ _)
            have c1' := (hbn.cell (p := ⟨g, off + i * 2 + 1, none⟩) hg).trans (HC.out i _ HP.out 1 (by omega))
            have d1' := (hbn.cell (p := ⟨g', off' + k * 2 + 1, none⟩) hg').trans (HC'.out k _ HQ.out 1 (by omega))
            have e0 := hbk.cell 0
            have e1 := hbk.cell 1
            simp only [Window.at_] at c1' d1'
            rw [← hw2]
            clear hown hw2 c0 c1 d0 d1
            by_cases tt : x1 < y1
            · have HX := Lib.hid (com_a HA.out hok' HP.out HQ.out tt)
              go_wp2_with fail
              go_quiet (fail)
              go_wp2_with fail
              go_roundw
              case rel => exact ⟨i + 1, k, by omega, by omega, by go_num, rfl, ⟨acc, HO.out, by omega, by rw [HX.out, HCU.out, List.append_nil]⟩, hbn.drewN _⟩
              case measure => simp [intOf]; omega
            · have HX := Lib.hid (com_b HA.out hok HP.out HQ.out tt)
              go_wp2_with fail
              go_quiet (fail)
              go_wp2_with fail
              go_roundw
              case rel => exact ⟨i, k + 1, by omega, by omega, rfl, by go_num, ⟨acc, HO.out, by omega, by rw [HX.out, HCU.out, List.append_nil]⟩, hbn.drewN _⟩
              case measure => simp [intOf]; omega
      · have hlt2 : k = qs.length := by omega
        subst hlt2
        have HX := Lib.hid (com_done HA.out (.inr (Nat.le_refl _)))
        obtain ⟨A2, c2, rfl, hsl⟩ := Sl.of_own hown
        clear hown
        go_wp2_with fail
        go_ret
        exact ResSl.mk_ (by rw [HF.out, HX.out]) rfl hsl hbel
    · have hlt2 : i = ps.length := by omega
      subst hlt2
      have HX := Lib.hid (com_done HA.out (.inl (Nat.le_refl _)))
      obtain ⟨A2, c2, rfl, hsl⟩ := Sl.of_own hown
      clear hown
      go_wp2_with fail
      go_ret
      exact ResSl.mk_ (by rw [HF.out, HX.out]) rfl hsl hbel

end Go.Proofs.Ytfcdnaaecfhddaa
