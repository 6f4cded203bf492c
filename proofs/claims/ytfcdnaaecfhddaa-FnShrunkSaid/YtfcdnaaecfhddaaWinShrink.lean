/-
  The contracts of ShrinkWindows, the program's and the reference's.
-/
import Derived.Test.YtfcdnaaecfhddaaWinNum
import Derived.Test.YtfcdnaaecfhddaaTWindow
namespace Go.Proofs.Ytfcdnaaecfhddaa
open Go.RowKit

set_option maxHeartbeats 2000000 in
theorem implShrinkWindows_any (A : Option Addr) (c : Nat) (ps : List Window) (n : Int) (w : World) (hr : Rd w w.heap.size Window.at_ 2 A ps) (hlen : ps.length ≤ 1048576) :
    Calls Try.prog 25 #[.slice A ps.length c, .int .i64 n] w (ResSl 41 Window.at_ 2 (shrinkF ps n) w) := by
  cases hok : windowsOk ps
  · go_enter Try.func25, Try.ntmps25
    go_wp2_with (go_at_call 16; refine (implWindowsOk_any _ _ _ _ hr hlen).mono ?_; rintro e w' ⟨rfl, hb⟩)
    go_ret
    exact ResSl.nil_ (by simp [shrinkF, hok]) hb
  cases hn : inB n 0 2880
  · go_enter Try.func25, Try.ntmps25
    go_wp2_with (first
      | (go_at_call 16; refine (implWindowsOk_any _ _ _ _ hr hlen).mono ?_; rintro e w' ⟨rfl, hb⟩)
      | (go_at_call 41; refine (isMinute_any _ _).mono ?_; rintro e w' ⟨rfl, rfl⟩))
    go_ret
    exact ResSl.nil_ (by simp [shrinkF, hn]) hb
  have hF : shrinkF ps n = shrinkL n ps := by rw [shrinkF, if_pos ⟨hok, hn⟩]
  have HF := Lib.hid hF
  have hb1 := inB_true hn
  have hb2 := hb1.1
  have hb3 := hb1.2
  clear hF hb1
  obtain ⟨i0, hi, hz0, hz1, hz2⟩ := info_parts infoWindow
  go_enter Try.func25, Try.ntmps25
  go_wp2_with fail
  refine (implWindowsOk_any _ _ _ _ hr hlen).mono ?_
  rintro e w0 ⟨rfl, hb0⟩
  have hz0' := hb0.size
  go_wp2_with (go_at_call 41; refine (isMinute_any _ _).mono ?_; rintro e w' ⟨rfl, rfl⟩)
  go_loopw [5, 19] (fun v i wr => ∃ k : Nat, k ≤ ps.length ∧ i = .int .i64 k ∧ (∃ acc : List Window, wr.ownsRow w.heap.size 41 2 v acc.length (flat Window.at_ 2 acc) ∧ acc.length ≤ k ∧ shrinkL n ps = acc ++ shrinkL n (ps.drop k)) ∧ Below w.heap.size w wr) (fun _ i _ => ps.length - (intOf i).toNat)
  case atStart => exact ⟨0, Nat.zero_le _, rfl, ⟨[], World.ownsRow_lit w0 #[] 0 (by omega) (by simp [maxLen]) rfl, Nat.le_refl _, rfl⟩, hb0.alloc hz0' _⟩
  case round =>
    obtain ⟨k, hk, rfl, ⟨acc, hown, hal, hacc⟩, hbel⟩ := hrel
    have hs := hbel.size
    have HA := Lib.hid hacc
    clear hacc
    by_cases hlt : k < ps.length
    · obtain ⟨g, off, rfl, hg, hc⟩ := hr (by omega)
      obtain ⟨p, hp⟩ : ∃ p, ps[k]? = some p := ⟨_, List.getElem?_eq_getElem hlt⟩
      have c0 := (hbel.cell (p := ⟨g, off + k * 2 + 0, none⟩) hg).trans (hc k p hp 0 (by omega))
      have c1 := (hbel.cell (p := ⟨g, off + k * 2 + 1, none⟩) hg).trans (hc k p hp 1 (by omega))
      simp only [Window.at_, Nat.add_zero] at c0 c1
      have HC := Lib.hid hc
      have HR := Lib.hid hr
      have HP := Lib.hid hp
      obtain ⟨a, b⟩ := p
      dsimp only at c0 c1
      clear hc hr hp
      have hm := windowsOk_mem hok (List.mem_of_getElem? HP.out)
      dsimp only at hm
      have hm1 := hm.1
      have hm2 := hm.2.1
      have hm3 := hm.2.2
      clear hm
      by_cases t : n ≤ b - a
      · have HX := Lib.hid (shrinkL_hit HA.out HP.out t)
        dsimp only at HX
        go_wp2_with (at_builtin; refine wpList_append_own _ rfl (.tmp 30) (.tmp 38) 25 rfl w.heap.size 41 i0 (.agg #[.int .i64 0, .int .i64 0]) 2 16 Try.underlying25 hi hz0 hz1 hz2 rfl (by decide) _ _ _ rfl ((hown.alloc _).alloc _) ⟨wr.heap.size + 1, 0, none⟩ 1 1 [.int .i64 a, .int .i64 (b - n)] rfl rfl ?c1 ?c2 ?c3 ?c4 ?c5 ?_)
        case c1 =>
          intro j u hj
          match j, hj with
          | 0, hj => simp at hj; subst hj; simp [Addr.add]
          | 1, hj => simp at hj; subst hj; simp [Addr.add]
        case c2 => intro u hu; simp at hu; rcases hu with rfl | rfl <;> rfl
        case c3 => unfold maxLen; omega
        case c4 => omega
        case c5 => simp; omega
        intro v' w1 hown' hgrow _
        have R := own_snoc (x := (⟨a, b - n⟩ : Window)) hown' rfl rfl
        have hbn : Below w.heap.size w w1 := ((hbel.alloc hs _).alloc (by simp; omega) _).grown hgrow (by simp; omega) (fun q hq => (hown.lt q hq).1)
        have HR2 := Lib.hid R
        clear R hown' hgrow hown
        go_wp2_with fail
        go_roundw
        case rel => exact ⟨k + 1, by omega, by go_num, ⟨_, HR2.out, by simp; omega, HX.out⟩, hbn⟩
        case measure => simp [intOf]; omega
      · have HX := Lib.hid (shrinkL_miss HA.out HP.out t)
        have hon2 := hown.alloc (.cells #[.int .i64 a, .int .i64 b] 41)
        have HR2 := Lib.hid hon2
        clear hon2 hown
        go_wp2_with fail
        go_roundw
        case rel => exact ⟨k + 1, by omega, by go_num, ⟨acc, HR2.out, by omega, HX.out⟩, hbel.alloc hs _⟩
        case measure => simp [intOf]; omega
    · have hk' : k = ps.length := by omega
      subst hk'
      have HX := Lib.hid (shrinkL_done HA.out)
      obtain ⟨A', c', rfl, hsl⟩ := Sl.of_own hown
      go_wp2_with fail
      go_ret
      exact ResSl.mk_ (by rw [HF.out, HX.out]) rfl hsl hbel

set_option maxHeartbeats 2000000 in
theorem specShrinkWindows_any (A : Option Addr) (c : Nat) (ps : List Window) (n : Int) (w : World) (hr : Rd w w.heap.size Window.at_ 2 A ps) (hlen : ps.length ≤ 1048576) :
    Calls Try.prog 24 #[.slice A ps.length c, .int .i64 n] w (ResSl 41 Window.at_ 2 (shrinkF ps n) w) := by
  cases hok : windowsOk ps
  · go_enter Try.func24, Try.ntmps24
    go_wp2_with (go_at_call 14; refine (specWindowsOk_any _ _ _ _ hr hlen).mono ?_; rintro e w' ⟨rfl, hb⟩)
    go_ret
    exact ResSl.nil_ (by simp [shrinkF, hok]) hb
  cases hn : inB n 0 2880
  · go_enter Try.func24, Try.ntmps24
    go_wp2_with (first
      | (go_at_call 14; refine (specWindowsOk_any _ _ _ _ hr hlen).mono ?_; rintro e w' ⟨rfl, hb⟩)
      | (go_at_call 37; refine (l01In_any _ _ _ _).mono ?_; rintro e w' ⟨rfl, rfl⟩))
    go_ret
    exact ResSl.nil_ (by simp [shrinkF, hn]) hb
  have hF : shrinkF ps n = shrinkL n ps := by rw [shrinkF, if_pos ⟨hok, hn⟩]
  have HF := Lib.hid hF
  have hb1 := inB_true hn
  have hb2 := hb1.1
  have hb3 := hb1.2
  clear hF hb1
  obtain ⟨i0, hi, hz0, hz1, hz2⟩ := info_parts infoWindow
  go_enter Try.func24, Try.ntmps24
  go_wp2_with fail
  refine (specWindowsOk_any _ _ _ _ hr hlen).mono ?_
  rintro e w0 ⟨rfl, hb0⟩
  have hz0' := hb0.size
  go_wp2_with (go_at_call 37; refine (l01In_any _ _ _ _).mono ?_; rintro e w' ⟨rfl, rfl⟩)
  go_loopw [5, 19] (fun v i wr => ∃ k : Nat, k ≤ ps.length ∧ i = .int .i64 k ∧ (∃ acc : List Window, wr.ownsRow w.heap.size 41 2 v acc.length (flat Window.at_ 2 acc) ∧ acc.length ≤ k ∧ shrinkL n ps = acc ++ shrinkL n (ps.drop k)) ∧ Below w.heap.size w wr) (fun _ i _ => ps.length - (intOf i).toNat)
  case atStart => exact ⟨0, Nat.zero_le _, rfl, ⟨[], World.ownsRow_lit w0 #[] 0 (by omega) (by simp [maxLen]) rfl, Nat.le_refl _, rfl⟩, hb0.alloc hz0' _⟩
  case round =>
    obtain ⟨k, hk, rfl, ⟨acc, hown, hal, hacc⟩, hbel⟩ := hrel
    have hs := hbel.size
    have HA := Lib.hid hacc
    clear hacc
    by_cases hlt : k < ps.length
    · obtain ⟨g, off, rfl, hg, hc⟩ := hr (by omega)
      obtain ⟨p, hp⟩ : ∃ p, ps[k]? = some p := ⟨_, List.getElem?_eq_getElem hlt⟩
      have c0 := (hbel.cell (p := ⟨g, off + k * 2 + 0, none⟩) hg).trans (hc k p hp 0 (by omega))
      have c1 := (hbel.cell (p := ⟨g, off + k * 2 + 1, none⟩) hg).trans (hc k p hp 1 (by omega))
      simp only [Window.at_, Nat.add_zero] at c0 c1
      have HC := Lib.hid hc
      have HR := Lib.hid hr
      have HP := Lib.hid hp
      obtain ⟨a, b⟩ := p
      dsimp only at c0 c1
      clear hc hr hp
      have hm := windowsOk_mem hok (List.mem_of_getElem? HP.out)
      dsimp only at hm
      have hm1 := hm.1
      have hm2 := hm.2.1
      have hm3 := hm.2.2
      clear hm
      by_cases t : n ≤ b - a
      · have HX := Lib.hid (shrinkL_hit HA.out HP.out t)
        dsimp only at HX
        go_wp2_with (at_builtin; refine wpList_append_own _ rfl (.tmp 30) (.tmp 38) 25 rfl w.heap.size 41 i0 (.agg #[.int .i64 0, .int .i64 0]) 2 16 Try.underlying25 hi hz0 hz1 hz2 rfl (by decide) _ _ _ rfl ((hown.alloc _).alloc _) ⟨wr.heap.size + 1, 0, none⟩ 1 1 [.int .i64 a, .int .i64 (b - n)] rfl rfl ?c1 ?c2 ?c3 ?c4 ?c5 ?_)
        case c1 =>
          intro j u hj
          match j, hj with
          | 0, hj => simp at hj; subst hj; simp [Addr.add]
          | 1, hj => simp at hj; subst hj; simp [Addr.add]
        case c2 => intro u hu; simp at hu; rcases hu with rfl | rfl <;> rfl
        case c3 => unfold maxLen; omega
        case c4 => omega
        case c5 => simp; omega
        intro v' w1 hown' hgrow _
        have R := own_snoc (x := (⟨a, b - n⟩ : Window)) hown' rfl rfl
        have hbn : Below w.heap.size w w1 := ((hbel.alloc hs _).alloc (by simp; omega) _).grown hgrow (by simp; omega) (fun q hq => (hown.lt q hq).1)
        have HR2 := Lib.hid R
        clear R hown' hgrow hown
        go_wp2_with fail
        go_roundw
        case rel => exact ⟨k + 1, by omega, by go_num, ⟨_, HR2.out, by simp; omega, HX.out⟩, hbn⟩
        case measure => simp [intOf]; omega
      · have HX := Lib.hid (shrinkL_miss HA.out HP.out t)
        have hon2 := hown.alloc (.cells #[.int .i64 a, .int .i64 b] 41)
        have HR2 := Lib.hid hon2
        clear hon2 hown
        go_wp2_with fail
        go_roundw
        case rel => exact ⟨k + 1, by omega, by go_num, ⟨acc, HR2.out, by omega, HX.out⟩, hbel.alloc hs _⟩
        case measure => simp [intOf]; omega
    · have hk' : k = ps.length := by omega
      subst hk'
      have HX := Lib.hid (shrinkL_done HA.out)
      obtain ⟨A', c', rfl, hsl⟩ := Sl.of_own hown
      go_wp2_with fail
      go_ret
      exact ResSl.mk_ (by rw [HF.out, HX.out]) rfl hsl hbel

end Go.Proofs.Ytfcdnaaecfhddaa
