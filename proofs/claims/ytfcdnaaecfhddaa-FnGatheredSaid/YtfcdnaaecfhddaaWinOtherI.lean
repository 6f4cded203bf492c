/-
  The contracts of OtherWindows, the program's and the reference's.
-/
import Derived.Test.YtfcdnaaecfhddaaWinNum
import Derived.Test.YtfcdnaaecfhddaaTWindow
import Derived.Test.YtfcdnaaecfhddaaGrow
import Derived.Test.YtfcdnaaecfhddaaModelO
import Derived.Test.YtfcdnaaecfhddaaWinOther
namespace Go.Proofs.Ytfcdnaaecfhddaa
open Go.RowKit

set_option maxHeartbeats 4000000 in
theorem implOtherWindows_any (ad : Addr) (c : Nat) (ps : List Window) (w : World) (hr : Rd w w.heap.size Window.at_ 2 (some ad) ps) (hlen : ps.length ≤ 1048576) :
    Calls Try.prog 29 #[.slice (some ad) ps.length c] w (ResSl 41 Window.at_ 2 (gapsF ps) w) := by
  cases hok : windowsOk ps
  · go_enter Try.func29, Try.ntmps29
    go_wp2_with (go_at_call 16; refine (implWindowsOk_any _ _ _ _ hr hlen).mono ?_; rintro e w' ⟨rfl, hb⟩)
    go_ret
    exact ResSl.nil_ (by simp [gapsF, hok]) hb
  have HF := Lib.hid (show gapsF ps = gapsL 0 (ps ++ [lastW]) by rw [gapsF, if_pos hok])
  have hl := windowsOk_len hok
  have hm : ∀ q ∈ ps ++ [lastW], (0 ≤ q.frm ∧ q.frm ≤ 2881) ∧ (0 ≤ q.to_ ∧ q.to_ ≤ 2881) := fun q hq => by
    rcases List.mem_append.1 hq with h | h
    · have := windowsOk_mem hok h
      omega
    · simp at h
      subst h
      simp [lastW]
  obtain ⟨i0, hi, hz0, hz1, hz2⟩ := info_parts infoWindow
  go_enter Try.func29, Try.ntmps29
  go_wp2_with fail
  refine (implWindowsOk_any _ _ _ _ hr hlen).mono ?_
  rintro e w0 ⟨rfl, hb0⟩
  have hz0' := hb0.size
  obtain ⟨wa, hwa⟩ : ∃ wa, wa = w0.alloc (.cells #[] 41) := ⟨_, rfl⟩
  have hBa : Below w.heap.size w wa := by rw [hwa]; exact hb0.alloc hz0' _
  have hka : Blk wa w0.heap.size 41 #[] := by rw [hwa]; exact Blk.new _ _ _
  have HWA := Lib.hid hwa
  have HR := Lib.hid ((hr.below hBa).more hBa.size)
  clear hwa hr
  go_wp2_with fail
  rw [← HWA.out]
  refine (cloneWindow_any _ _ _ _ HR.out hlen).mono ?_
  rintro e w1 ⟨v1, rfl, hown1, hb1⟩
  have hB1 := hBa.trans (hb1.mono hBa.size)
  have hk1 := hka.next hb1
  have hz1' := hb1.size
  go_wp2_with (at_builtin; refine wpList_append_own _ rfl _ _ 25 rfl wa.heap.size 41 i0 (.agg #[.int .i64 0, .int .i64 0]) 2 16 Try.underlying25 hi hz0 hz1 hz2 rfl (by decide) _ _ _ rfl (hown1.alloc _) ⟨w1.heap.size, 0, none⟩ 1 1 [.int .i64 2881, .int .i64 2881] rfl rfl ?c1 ?c2 ?c3 ?c4 ?c5 ?_)
  case c1 =>
    intro j u hj
    match j, hj with
    | 0, hj => simp at hj; subst hj; simp [Addr.add]
    | 1, hj => simp at hj; subst hj; simp [Addr.add]
  case c2 => intro u hu; simp at hu; rcases hu with rfl | rfl <;> rfl
  case c3 => unfold maxLen; omega
  case c4 => omega
  case c5 => simp; omega
  intro v2 w2 hown2 hgrow2 _
  have hb2 : Below wa.heap.size wa w2 := (hb1.alloc hz1' _).grown hgrow2 (by simp; omega) (fun q hq => (hown1.lt q hq).1)
  have hB2 := hBa.trans (hb2.mono hBa.size)
  have hk2 := hka.next hb2
  obtain ⟨A2, c2, rfl, hsl2⟩ := Sl.of_own (own_snoc (x := lastW) hown2 rfl rfl)
  obtain ⟨qs, hqs⟩ : ∃ qs, qs = ps ++ [lastW] := ⟨_, rfl⟩
  have hql : qs.length = ps.length + 1 := by rw [hqs]; simp
  rw [← hqs] at hsl2 hm HF ⊢
  have HRD := Lib.hid hsl2.rd
  have hlz : w0.heap.size < w2.heap.size := hk2.lt
  have hlw : w.heap.size ≤ w2.heap.size := hB2.size
  have HK := Lib.hid hk2
  have HQ := Lib.hid hqs
  have hqb : qs.length ≤ 1442 := by omega
  clear hql hqs hsl2 hown2 hgrow2 hb2 hown1 hb1 hB1 hk1 hka hk2 HR hBa
  go_wp2_with fail
  go_loopw [3, 4, 17] (fun v f i wr => ∃ k : Nat, k ≤ qs.length ∧ i = .int .i64 k ∧ (∃ (acc : List Window) (at_ : Int), f = .int .i64 at_ ∧ Out0 wr w0.heap.size w2.heap.size 41 2 v acc.length (flat Window.at_ 2 acc) ∧ acc.length ≤ k ∧ gapsL 0 qs = acc ++ gapsL at_ (qs.drop k)) ∧ Below w2.heap.size w2 wr) (fun _ _ i _ => qs.length - (intOf i).toNat)
  case atStart => exact ⟨0, Nat.zero_le _, rfl, ⟨[], 0, rfl, .inl ⟨rfl, rfl, rfl⟩, Nat.le_refl _, rfl⟩, Below.refl _ _⟩
  case round =>
    obtain ⟨k, hk, rfl, ⟨acc, at_, rfl, hown, hal, hacc⟩, hbel⟩ := hrel
    have hs := hbel.size
    have HA := Lib.hid hacc
    clear hacc
    by_cases hlt : k < qs.length
    · obtain ⟨g, off, rfl, hg, hc⟩ := HRD.out (by omega)
      obtain ⟨p, hp⟩ : ∃ p, qs[k]? = some p := ⟨_, List.getElem?_eq_getElem hlt⟩
      have c0 := (hbel.cell (p := ⟨g, off + k * 2 + 0, none⟩) hg).trans (hc k p hp 0 (by omega))
      have c1 := (hbel.cell (p := ⟨g, off + k * 2 + 1, none⟩) hg).trans (hc k p hp 1 (by omega))
      simp only [Window.at_, Nat.add_zero] at c0 c1
      have hpm := hm p (List.mem_of_getElem? hp)
      have HP := Lib.hid hp
      clear hc hp
      obtain ⟨x, y⟩ := p
      dsimp only at c0 c1 hpm
      have hp1 := hpm.1.1
      have hp2 := hpm.1.2
      have hp3 := hpm.2.1
      have hp4 := hpm.2.2
      clear hpm
      by_cases t : at_ < x
      · have HX := Lib.hid (gapsL_hit HA.out HP.out t)
        dsimp only at HX
        go_wp2_with (at_builtin; refine wpList_append_new rfl _ _ 25 rfl w2.heap.size 41 i0 (.agg #[.int .i64 0, .int .i64 0]) 2 16 Try.underlying25 hi hz0 hz1 hz2 rfl (by decide) w0.heap.size _ _ _ rfl ((hown.alloc _).alloc _) ⟨wr.heap.size + 1, 0, none⟩ 1 1 [.int .i64 at_, .int .i64 (x - 1)] rfl rfl ?d1 ?d2 (by omega) ?d3 ?d4 ?d5 ?_)
        case d1 =>
          intro j u hj
          match j, hj with
          | 0, hj => simp at hj; subst hj; simp [Addr.add]
          | 1, hj => simp at hj; subst hj; simp [Addr.add]
        case d2 => intro u hu; simp at hu; rcases hu with rfl | rfl <;> rfl
        case d3 => unfold maxLen; omega
        case d4 => omega
        case d5 => simp; omega
        intro v' w3 hown' hbl3 hgrow
        have R := own_snoc (x := (⟨at_, x - 1⟩ : Window)) hown' rfl rfl
        have hbn : Below w2.heap.size w2 w3 := ((hbel.alloc hs _).alloc (by simp; omega) _).trans hbl3
        have hbx : Blk w3 wr.heap.size 41 #[.int .i64 x, .int .i64 y] := ((Blk.new wr _ _).alloc _).grown hgrow (fun e => by
          rcases hown with ⟨rfl, _, _⟩ | hown
          · simp [Value.ownBlock] at e
            omega
          · exact absurd (hown.lt _ e.symm).2 (Nat.lt_irrefl _))
        have e1 := hbx.cell 1
        have HR2 := Lib.hid R
        clear R hown' hbl3 hgrow hown
        go_wp2_with fail
        go_roundw
        case rel =>
          exact ⟨k + 1, by omega, by go_num, ⟨_, y + 1, by go_num, .inr HR2.out, by simp; omega, HX.out⟩, hbn⟩
        case measure => simp [intOf]; omega
      · have HX := Lib.hid (gapsL_miss HA.out HP.out t)
        dsimp only at HX
        have HR2 := Lib.hid (hown.alloc (.cells #[.int .i64 x, .int .i64 y] 41))
        clear hown
        go_wp2_with fail
        go_roundw
        case rel => exact ⟨k + 1, by omega, by go_num, ⟨acc, y + 1, by go_num, HR2.out, by omega, HX.out⟩, hbel.alloc hs _⟩
        case measure => simp [intOf]; omega
    · have HX := Lib.hid (gapsL_done HA.out (by omega))
      rcases hown with ⟨rfl, h0, _⟩ | hown
      · have hae : acc = [] := List.eq_nil_of_length_eq_zero h0
        subst hae
        go_wp2_with fail
        go_ret
        refine ResSl.mk_ (ps := []) (by rw [HF.out, HX.out]) rfl (.inr ⟨w0.heap.size, rfl, hz0', by omega, #[], (hbel.block _ hlz).trans HK.out, Fill.zero (by simp)⟩) (hB2.trans (hbel.mono hlw))
      · obtain ⟨A', c', rfl, hsl⟩ := Sl.of_own hown
        go_wp2_with fail
        go_ret
        exact ResSl.mk_ (by rw [HF.out, HX.out]) rfl (hsl.mono hlw (Nat.le_refl _)) (hB2.trans (hbel.mono hlw))

end Go.Proofs.Ytfcdnaaecfhddaa
