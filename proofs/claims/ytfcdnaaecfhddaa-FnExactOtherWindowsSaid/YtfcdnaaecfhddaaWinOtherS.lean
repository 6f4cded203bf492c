/-
  The contracts of OtherWindows, the program's and the reference's.
-/
import Derived.Test.YtfcdnaaecfhddaaWinNum
import Derived.Test.YtfcdnaaecfhddaaTWindow
import Derived.Test.YtfcdnaaecfhddaaGrow
import Derived.Test.YtfcdnaaecfhddaaModelO
namespace Go.Proofs.Ytfcdnaaecfhddaa
open Go.RowKit

set_option maxHeartbeats 4000000 in
theorem specOtherWindows_any (A : Option Addr) (c : Nat) (ps : List Window) (w : World) (hr : Rd w w.heap.size Window.at_ 2 A ps) (hlen : ps.length ≤ 1048576) :
    Calls Try.prog 28 #[.slice A ps.length c] w (ResSl 41 Window.at_ 2 (gapsF ps) w) := by
  cases hok : windowsOk ps
  · go_enter Try.func28, Try.ntmps28
    go_wp2_with (go_at_call 14; refine (specWindowsOk_any _ _ _ _ hr hlen).mono ?_; rintro e w' ⟨rfl, hb⟩)
    go_ret
    exact ResSl.nil_ (by simp [gapsF, hok]) hb
  have HF := Lib.hid (show gapsF ps = gapsL 0 (ps ++ [lastW]) by rw [gapsF, if_pos hok])
  have hl := windowsOk_len hok
  obtain ⟨i0, hi, hz0, hz1, hz2⟩ := info_parts infoWindow
  go_enter Try.func28, Try.ntmps28
  go_wp2_with fail
  refine (specWindowsOk_any _ _ _ _ hr hlen).mono ?_
  rintro e w0 ⟨rfl, hb0⟩
  have hz0' := hb0.size
  go_wp2_with fail
  go_loopw [3, 4, 13] (fun v f i wr => ∃ k : Nat, k ≤ ps.length ∧ i = .int .i64 k ∧ (∃ (acc : List Window) (at_ : Int), f = .int .i64 at_ ∧ (0 ≤ at_ ∧ at_ ≤ 2881) ∧ wr.ownsRow w.heap.size 41 2 v acc.length (flat Window.at_ 2 acc) ∧ acc.length ≤ k ∧ gapsL 0 (ps ++ [lastW]) = acc ++ gapsL at_ ((ps ++ [lastW]).drop k)) ∧ Below w.heap.size w wr) (fun _ _ i _ => ps.length - (intOf i).toNat)
  case atStart => exact ⟨0, Nat.zero_le _, rfl, ⟨[], 0, rfl, by omega, World.ownsRow_lit w0 #[] 0 (by omega) (by simp [maxLen]) rfl, Nat.le_refl _, rfl⟩, hb0.alloc hz0' _⟩
  case round =>
    obtain ⟨k, hk, rfl, ⟨acc, at_, rfl, hat, hown, hal, hacc⟩, hbel⟩ := hrel
    have hs := hbel.size
    have HA := Lib.hid hacc
    clear hacc
    by_cases hlt : k < ps.length
    · obtain ⟨g, off, rfl, hg, hc⟩ := hr (by omega)
      obtain ⟨p, hp⟩ : ∃ p, ps[k]? = some p := ⟨_, List.getElem?_eq_getElem hlt⟩
      have c0 := (hbel.cell (p := ⟨g, off + k * 2 + 0, none⟩) hg).trans (hc k p hp 0 (by omega))
      have c1 := (hbel.cell (p := ⟨g, off + k * 2 + 1, none⟩) hg).trans (hc k p hp 1 (by omega))
      simp only [Window.at_, Nat.add_zero] at c0 c1
      have HC := Lib.hid hc
      have HR := Lib.hid hr
      have HP := Lib.hid hp
      obtain ⟨a, b⟩ := p
      dsimp only at c0 c1
      clear hc hr hp
      have hm := windowsOk_mem hok (List.mem_of_getElem? HP.out)
      dsimp only at hm
      have hm1 := hm.1
      have hm2 := hm.2.1
      have hm3 := hm.2.2
      clear hm
      have HP' : Hid ((ps ++ [lastW])[k]? = some ⟨a, b⟩) := Lib.hid (by rw [List.getElem?_append_left hlt]; exact HP.out)
      by_cases t : at_ < a
      · have HX := Lib.hid (gapsL_hit HA.out HP'.out t)
        dsimp only at HX
        go_wp2_with (at_builtin; refine wpList_append_own _ rfl _ _ 25 rfl w.heap.size 41 i0 (.agg #[.int .i64 0, .int .i64 0]) 2 16 Try.underlying25 hi hz0 hz1 hz2 rfl (by decide) _ _ _ rfl ((hown.alloc _).alloc _) ⟨wr.heap.size + 1, 0, none⟩ 1 1 [.int .i64 at_, .int .i64 (a - 1)] rfl rfl ?c1 ?c2 ?c3 ?c4 ?c5 ?_)
        case c1 =>
          intro j u hj
          match j, hj with
          | 0, hj => simp at hj; subst hj; simp [Addr.add]
          | 1, hj => simp at hj; subst hj; simp [Addr.add]
        case c2 => intro u hu; simp at hu; rcases hu with rfl | rfl <;> rfl
        case c3 => unfold maxLen; omega
        case c4 => omega
        case c5 => simp; omega
        intro v' w1 hown' hgrow _
        have R := own_snoc (x := (⟨at_, a - 1⟩ : Window)) hown' rfl rfl
        have hbn : Below w.heap.size w w1 := ((hbel.alloc hs _).alloc (by simp; omega) _).grown hgrow (by simp; omega) (fun q hq => (hown.lt q hq).1)
        have hbx : Blk w1 wr.heap.size 41 #[.int .i64 a, .int .i64 b] := ((Blk.new wr _ _).alloc _).grown hgrow (fun e => absurd (hown.lt _ e.symm).2 (Nat.lt_irrefl _))
        have e1 := hbx.cell 1
        have HR2 := Lib.hid R
        clear R hown' hgrow hown
        go_wp2_with fail
        go_roundw
        case rel => exact ⟨k + 1, by omega, by go_num, ⟨_, b + 1, by go_num, by omega, HR2.out, by simp; omega, HX.out⟩, hbn⟩
        case measure => simp [intOf]; omega
      · have HX := Lib.hid (gapsL_miss HA.out HP'.out t)
        dsimp only at HX
        have HR2 := Lib.hid (hown.alloc (.cells #[.int .i64 a, .int .i64 b] 41))
        clear hown
        go_wp2_with fail
        go_roundw
        case rel => exact ⟨k + 1, by omega, by go_num, ⟨acc, b + 1, by go_num, by omega, HR2.out, by omega, HX.out⟩, hbel.alloc hs _⟩
        case measure => simp [intOf]; omega
    · have hk' : k = ps.length := by omega
      subst hk'
      have HX := Lib.hid (gapsL_last HA.out)
      by_cases t : at_ ≤ 2880
      · go_wp2_with (at_builtin; refine wpList_append_own _ rfl _ _ 25 rfl w.heap.size 41 i0 (.agg #[.int .i64 0, .int .i64 0]) 2 16 Try.underlying25 hi hz0 hz1 hz2 rfl (by decide) _ _ _ rfl (hown.alloc _) ⟨wr.heap.size, 0, none⟩ 1 1 [.int .i64 at_, .int .i64 2880] rfl rfl ?d1 ?d2 ?d3 ?d4 ?d5 ?_)
        case d2 => exact ⟨rfl, rfl⟩
        case d3 => unfold maxLen; omega
        case d4 => omega
        case d5 => first | omega | (simp; omega)
        intro v' w1 hown' hgrow _
        have R := own_snoc (x := (⟨at_, 2880⟩ : Window)) hown' rfl rfl
        have hbn : Below w.heap.size w w1 := (hbel.alloc hs _).grown hgrow (by simp; omega) (fun q hq => (hown.lt q hq).1)
        obtain ⟨A', c', rfl, hsl⟩ := Sl.of_own R
        clear R hown' hgrow hown
        go_wp2_with fail
        go_ret
        exact ResSl.mk_ (by rw [HF.out, HX.out.1 t]) rfl hsl hbn
      · obtain ⟨A', c', rfl, hsl⟩ := Sl.of_own hown
        go_wp2_with fail
        go_ret
        exact ResSl.mk_ (by rw [HF.out, HX.out.2 t]) rfl hsl hbel

end Go.Proofs.Ytfcdnaaecfhddaa
