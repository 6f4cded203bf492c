/-
  The contract of CommonWindows, the reference's.
-/
import Derived.Test.YtfcdnaaecfhddaaWinNum
import Derived.Test.YtfcdnaaecfhddaaWinApp
import Derived.Test.YtfcdnaaecfhddaaModelG
namespace Go.Proofs.Ytfcdnaaecfhddaa
open Go.RowKit

set_option maxHeartbeats 4000000 in
theorem specCommonWindows_any (A A' : Option Addr) (c c' : Nat) (ps qs : List Window) (w : World) (hr : Rd w w.heap.size Window.at_ 2 A ps) (hr' : Rd w w.heap.size Window.at_ 2 A' qs) (hlen : ps.length ≤ 1048576) (hlen' : qs.length ≤ 1048576) :
    Calls Try.prog 30 #[.slice A ps.length c, .slice A' qs.length c'] w (ResSl 41 Window.at_ 2 (commonF ps qs) w) := by
  cases hok : windowsOk ps
  · go_enter Try.func30, Try.ntmps30
    go_wp2_with (go_at_call 14; refine (specWindowsOk_any _ _ _ _ hr hlen).mono ?_; rintro e w' ⟨rfl, hb⟩)
    go_ret
    exact ResSl.nil_ (by simp [commonF, hok]) hb
  cases hok' : windowsOk qs
  · go_enter Try.func30, Try.ntmps30
    go_wp2_with fail
    refine (specWindowsOk_any _ _ _ _ hr hlen).mono ?_
    rintro e w0 ⟨rfl, hb0⟩
    have HR := Lib.hid ((hr'.below hb0).more hb0.size)
    go_wp2_with fail
    refine (specWindowsOk_any _ _ _ _ HR.out hlen').mono ?_
    rintro e w1 ⟨rfl, hb1⟩
    go_wp2_with fail
    go_ret
    exact ResSl.nil_ (by simp [commonF, hok']) (hb0.trans (hb1.mono hb0.size))
  have HF := Lib.hid (show commonF ps qs = commonL ps qs by rw [commonF, if_pos ⟨hok, hok'⟩])
  have hl := windowsOk_len hok
  have hl' := windowsOk_len hok'
  obtain ⟨i0, hi, hz0, hz1, hz2⟩ := info_parts infoWindow
  go_enter Try.func30, Try.ntmps30
  go_wp2_with fail
  refine (specWindowsOk_any _ _ _ _ hr hlen).mono ?_
  rintro e w0 ⟨rfl, hb0⟩
  have hz0' := hb0.size
  have HR := Lib.hid ((hr'.below hb0).more hb0.size)
  go_wp2_with fail
  refine (specWindowsOk_any _ _ _ _ HR.out hlen').mono ?_
  rintro e w1 ⟨rfl, hb1⟩
  have hB1 := hb0.trans (hb1.mono hb0.size)
  have hz1' := hB1.size
  clear hb0 hb1 hz0' HR
  go_wp2_with fail
  go_loopw [5, 23] (fun v f wr => ∃ i : Nat, i ≤ ps.length ∧ f = .int .i64 i ∧ (∃ acc : List Window, wr.ownsRow w.heap.size 41 2 v acc.length (flat Window.at_ 2 acc) ∧ acc.length ≤ i * 1441 ∧ commonL ps qs = acc ++ commonL (ps.drop i) qs) ∧ Below w.heap.size w wr) (fun _ f _ => ps.length - (intOf f).toNat)
  case atStart => exact ⟨0, Nat.zero_le _, rfl, ⟨[], World.ownsRow_lit w1 #[] 0 (by omega) (by simp [maxLen]) rfl, Nat.zero_le _, rfl⟩, hB1.alloc hz1' _⟩
  case round =>
    obtain ⟨i, hi', rfl, ⟨acc, hown, hal, hacc⟩, hbel⟩ := hrel
    obtain ⟨wo, hwo⟩ : ∃ wo, wo = wr := ⟨_, rfl⟩
    subst hwo
    have hs := hbel.size
    have HA := Lib.hid hacc
    clear hacc
    by_cases hlt : i < ps.length
    · obtain ⟨g, off, rfl, hg, hc⟩ := hr (by omega)
      obtain ⟨p, hp⟩ : ∃ p, ps[i]? = some p := ⟨_, List.getElem?_eq_getElem hlt⟩
      have c0 := (hbel.cell (p := ⟨g, off + i * 2 + 0, none⟩) hg).trans (hc i p hp 0 (by omega))
      have c1 := (hbel.cell (p := ⟨g, off + i * 2 + 1, none⟩) hg).trans (hc i p hp 1 (by omega))
      simp only [Window.at_, Nat.add_zero] at c0 c1
      have hpm := windowsOk_mem hok (List.mem_of_getElem? hp)
      have HC := Lib.hid hc
      have HR := Lib.hid hr
      have HP := Lib.hid hp
      obtain ⟨x0, x1⟩ := p
      dsimp only at c0 c1 hpm
      clear hc hr hp
      obtain ⟨hp1, hp2, hp3⟩ := hpm
      have HI := Lib.hid (row_open HA.out HP.out)
      obtain ⟨bx, hbx⟩ : ∃ bx, bx = wo.heap.size := ⟨_, rfl⟩
      have HBX := Lib.hid hbx
      have HNE0 := Lib.hid (show u5.ownBlock ≠ some bx from fun e => absurd (hown.lt _ e).2 (by omega))
      have HB0 : Hid (Blk (wo.alloc (.cells #[.int .i64 x0, .int .i64 x1] 41)) bx 41 #[.int .i64 x0, .int .i64 x1]) := Lib.hid (Blk.new' _ _ hbx.symm)
      have HW0 := Lib.hid (hown.alloc (.cells #[.int .i64 x0, .int .i64 x1] 41))
      have HE0 := Lib.hid (hbel.alloc hs (.cells #[.int .i64 x0, .int .i64 x1] 41))
      clear HA hbx
      go_wp2_with fail
      rw [← HBX.out]
      go_loopw [5, 29] (fun v f wr' => ∃ k : Nat, k ≤ qs.length ∧ f = .int .i64 k ∧ (∃ acc : List Window, (wr'.ownsRow w.heap.size 41 2 v acc.length (flat Window.at_ 2 acc) ∧ v.ownBlock ≠ some bx) ∧ acc.length ≤ i * 1441 + k ∧ commonL ps qs = acc ++ (rowL ⟨x0, x1⟩ (qs.drop k) ++ commonL (ps.drop (i + 1)) qs)) ∧ Blk wr' bx 41 #[.int .i64 x0, .int .i64 x1] ∧ Below w.heap.size w wr') (fun _ f _ => qs.length - (intOf f).toNat)
      case atStart => exact ⟨0, Nat.zero_le _, rfl, ⟨acc, ⟨HW0.out, HNE0.out⟩, (by rw [Nat.add_zero]; exact hal), HI.out⟩, HB0.out, HE0.out⟩
      case round =>
        obtain ⟨k, hk', rfl, ⟨acc', ⟨hown', hne⟩, hal', hacc'⟩, hblk, hbel'⟩ := hrel
        have hs' := hbel'.size
        have hbl := hblk.lt
        have HA := Lib.hid hacc'
        have HNE := Lib.hid hne
        clear hacc' hown HI hne HB0 HW0 HE0 HNE0
        by_cases hlt' : k < qs.length
        · obtain ⟨g', off', rfl, hg', hc'⟩ := hr' (by omega)
          obtain ⟨q, hq⟩ : ∃ q, qs[k]? = some q := ⟨_, List.getElem?_eq_getElem hlt'⟩
          have d0 := (hbel'.cell (p := ⟨g', off' + k * 2 + 0, none⟩) hg').trans (hc' k q hq 0 (by omega))
          have d1 := (hbel'.cell (p := ⟨g', off' + k * 2 + 1, none⟩) hg').trans (hc' k q hq 1 (by omega))
          simp only [Window.at_, Nat.add_zero] at d0 d1
          have hqm := windowsOk_mem hok' (List.mem_of_getElem? hq)
          have HC' := Lib.hid hc'
          have HR' := Lib.hid hr'
          have HQ := Lib.hid hq
          obtain ⟨y0, y1⟩ := q
          dsimp only at d0 d1 hqm
          clear hc' hr' hq c0 c1
          obtain ⟨hq1, hq2, hq3⟩ := hqm
          have e0 := hblk.cell 0
          have e1 := hblk.cell 1
          obtain ⟨m0, hm0⟩ : ∃ m0, m0 = max x0 y0 := ⟨_, rfl⟩
          obtain ⟨m1, hm1⟩ : ∃ m1, m1 = min x1 y1 := ⟨_, rfl⟩
          have hcy : m0 ≤ m1 → Hid (cutL ⟨x0, x1⟩ ⟨y0, y1⟩ = [⟨m0, m1⟩]) := fun h => Lib.hid (by rw [hm0, hm1]; exact cutL_yes (by rw [← hm0, ← hm1]; exact h))
          have hcn : ¬ m0 ≤ m1 → Hid (cutL ⟨x0, x1⟩ ⟨y0, y1⟩ = []) := fun h => Lib.hid (cutL_no (by rw [← hm0, ← hm1]; exact h))
          have ho0 : (m0 = y0 ∧ x0 < y0) ∨ (m0 = x0 ∧ ¬ x0 < y0) := by omega
          have ho1 : (m1 = y1 ∧ y1 < x1) ∨ (m1 = x1 ∧ ¬ y1 < x1) := by omega
          have HX := Lib.hid (row_step HA.out HQ.out)
          clear hm0 hm1 HA
          by_cases u : m0 ≤ m1
          · have HCU := hcy u
            clear hcy hcn
            rcases ho0 with ⟨rfl, ta⟩ | ⟨rfl, ta⟩ <;> rcases ho1 with ⟨rfl, tb⟩ | ⟨rfl, tb⟩
            all_goals
              go_wp2_with (at_builtin; refine wpAppendWindow rfl _ _ rfl w.heap.size _ acc' rfl ((hown'.alloc _).alloc _) (wr.heap.size + 1) rfl _ _ (Blk.new' _ _ (by simp)) (by omega) (by simp; omega) ?_)
              intro v' w2 hv' hb2 hgr hat
              have hbn : Below w.heap.size w w2 := ((hbel'.alloc hs' _).alloc (by simp; omega) _).trans hb2
              have HBK := Lib.hid (((hblk.alloc _).alloc _).grown hgr (fun e => HNE.out e.symm))
              have HNE2 : Hid (v'.ownBlock ≠ some bx) := Lib.hid (by
                rcases hat with h | h
                · rw [h]
                  exact HNE.out
                · rw [h]
                  simp
                  omega)
              have HO := Lib.hid hv'
              clear hv' hgr hat hb2 hown'
              go_wp2_with fail
              go_roundw
              case rel => exact ⟨k + 1, by omega, by go_num, ⟨acc' ++ [_], ⟨(by rw [List.length_append]; exact HO.out), HNE2.out⟩, by simp; omega, by rw [HX.out, HCU.out]⟩, HBK.out, hbn⟩
              case measure => simp [intOf]; omega
          · have HCU := hcn (by omega)
            clear hcy hcn
            have HO := Lib.hid (hown'.alloc (.cells #[.int .i64 y0, .int .i64 y1] 41))
            have HBK := Lib.hid (hblk.alloc (.cells #[.int .i64 y0, .int .i64 y1] 41))
            have HE := Lib.hid (hbel'.alloc hs' (.cells #[.int .i64 y0, .int .i64 y1] 41))
            clear hown'
            rcases ho0 with ⟨rfl, ta⟩ | ⟨rfl, ta⟩ <;> rcases ho1 with ⟨rfl, tb⟩ | ⟨rfl, tb⟩
            all_goals first
            | (exfalso; omega)
            | skip
            all_goals
              go_wp2_with fail
              go_roundw
              case rel => exact ⟨k + 1, by omega, by go_num, ⟨acc', ⟨HO.out, HNE.out⟩, by omega, by rw [HX.out, HCU.out, List.append_nil]⟩, HBK.out, HE.out⟩
              case measure => simp [intOf]; omega
        · have HX := Lib.hid (row_done HA.out (by omega))
          have HO := Lib.hid hown'
          clear hown'
          go_wp2_with fail
          go_roundw
          case rel => exact ⟨i + 1, by omega, by go_num, ⟨acc', HO.out, by omega, HX.out⟩, hbel'⟩
          case measure => simp [intOf]; omega
    · have hlt2 : i = ps.length := by omega
      subst hlt2
      have HX := Lib.hid (show commonL ps qs = acc by rw [HA.out, List.drop_length, commonL_nil, List.append_nil])
      obtain ⟨A2, c2, rfl, hsl⟩ := Sl.of_own hown
      clear hown
      go_wp2_with fail
      go_ret
      exact ResSl.mk_ (by rw [HF.out, HX.out]) rfl hsl hbel

end Go.Proofs.Ytfcdnaaecfhddaa
