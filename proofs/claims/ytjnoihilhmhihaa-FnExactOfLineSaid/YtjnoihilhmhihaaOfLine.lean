/-
  The contracts of OfLine, the program's and the reference's.
-/
import Derived.Test.YtjnoihilhmhihaaFleetNum
import Derived.Test.YtjnoihilhmhihaaTInt
import Derived.Laws.AppendOwn
namespace Go.Proofs.Ytjnoihilhmhihaa
open Go.RowKit

theorem ofLineF_le (ps : List Ship) (n : Int) : (ofLineF ps n).length ≤ ps.length := by
  unfold ofLineF
  split
  · exact ofLineL_le n ps 0
  · simp

set_option maxHeartbeats 2000000 in
theorem implOfLine_any (A : Option Addr) (c : Nat) (ps : List Ship) (n : Int) (w : World) (hr : Rd w w.heap.size Ship.at_ 6 A ps) (hlen : ps.length ≤ 1048576) (hwf : ∀ p ∈ ps, p.wf) :
    Calls Try.prog 25 #[.slice A ps.length c, .int .i64 n] w (ResSl 3 intAt 1 (ofLineF ps n) w) := by
  cases hok : fleetOk ps
  · go_enter Try.func25, Try.ntmps25
    go_wp2_with (go_at_call 21; refine (implFleetOk_any _ _ _ _ hr hlen hwf).mono ?_; rintro e w' ⟨rfl, hb⟩)
    go_ret
    exact ResSl.nil_ (by simp [ofLineF, hok]) hb
  have HF := Lib.hid (show ofLineF ps n = ofLineL n 0 ps by rw [ofLineF, if_pos hok])
  have hl := fleetOk_len hok
  obtain ⟨i0, hi, hz0, hz1, hz2⟩ := info_parts infoInt
  go_enter Try.func25, Try.ntmps25
  go_wp2_with fail
  refine (implFleetOk_any _ _ _ _ hr hlen hwf).mono ?_
  rintro e w0 ⟨rfl, hb0⟩
  have hz0' := hb0.size
  go_wp2_with fail
  go_loopw [5, 14] (fun v i wr => ∃ k : Nat, k ≤ ps.length ∧ i = .int .i64 k ∧ (∃ acc : List Int, wr.ownsRow w.heap.size 3 1 v acc.length (flat intAt 1 acc) ∧ acc.length ≤ k ∧ ofLineL n 0 ps = acc ++ ofLineL n k (ps.drop k)) ∧ Below w.heap.size w wr) (fun _ i _ => ps.length - (intOf i).toNat)
  case atStart => exact ⟨0, Nat.zero_le _, rfl, ⟨[], World.ownsRow_lit w0 #[] 0 (by omega) (by simp [maxLen]) rfl, Nat.le_refl _, rfl⟩, hb0.alloc hz0' _⟩
  case round =>
    obtain ⟨k, hk, rfl, ⟨acc, hown, hal, hacc⟩, hbel⟩ := hrel
    have hs := hbel.size
    have HA := Lib.hid hacc
    clear hacc
    by_cases hlt : k < ps.length
    · obtain ⟨g, off, rfl, hg, hc⟩ := hr (by omega)
      obtain ⟨p, hp⟩ : ∃ p, ps[k]? = some p := ⟨_, List.getElem?_eq_getElem hlt⟩
      have c0 := (hbel.cell (p := ⟨g, off + k * 6 + 0, none⟩) hg).trans (hc k p hp 0 (by omega))
      have c1 := (hbel.cell (p := ⟨g, off + k * 6 + 1, none⟩) hg).trans (hc k p hp 1 (by omega))
      have c2 := (hbel.cell (p := ⟨g, off + k * 6 + 2, none⟩) hg).trans (hc k p hp 2 (by omega))
      have c3 := (hbel.cell (p := ⟨g, off + k * 6 + 3, none⟩) hg).trans (hc k p hp 3 (by omega))
      have c4 := (hbel.cell (p := ⟨g, off + k * 6 + 4, none⟩) hg).trans (hc k p hp 4 (by omega))
      have c5 := (hbel.cell (p := ⟨g, off + k * 6 + 5, none⟩) hg).trans (hc k p hp 5 (by omega))
      simp only [Ship.at_, Nat.add_zero] at c0 c1 c2 c3 c4 c5
      have HC := Lib.hid hc
      have HR := Lib.hid hr
      have HP := Lib.hid hp
      clear hc hr hp
      cases t : (p.line == n)
      · have HX := Lib.hid (ofLineL_miss HA.out HP.out (by simpa using t))
        have HR2 := Lib.hid (hown.alloc (.cells #[.string p.name, .int .i64 p.len, .int .i64 p.draught, .int .i64 p.line, .int .i64 p.tugs, .bool p.slow] 26))
        clear hown
        go_wp2_with fail
        go_roundw
        case rel => exact ⟨k + 1, by omega, by go_num, ⟨acc, HR2.out, by omega, HX.out⟩, hbel.alloc hs _⟩
        case measure => simp [intOf]; omega
      · have HX := Lib.hid (ofLineL_hit HA.out HP.out (by simpa using t))
        go_wp2_with (at_builtin; refine wpList_append_own _ rfl _ _ 40 rfl w.heap.size 3 i0 (.int .i64 0) 1 8 Try.underlying40 hi hz0 hz1 hz2 rfl (by decide) _ _ _ rfl ((hown.alloc _).alloc _) ⟨wr.heap.size + 1, 0, none⟩ 1 1 [.int .i64 k] rfl rfl ?c1 ?c2 ?c3 ?c4 ?c5 ?_)
        case c1 =>
          intro j u hj
          match j, hj with
          | 0, hj => simp at hj; subst hj; simp [Addr.add]
        case c2 => intro u hu; simp at hu; rcases hu with rfl; rfl
        case c3 => unfold maxLen; omega
        case c4 => omega
        case c5 => simp; omega
        intro v' w1 hown' hgrow _
        have R := own_snoc (enc := intAt) (x := (k : Int)) hown' rfl rfl
        have hbn : Below w.heap.size w w1 := ((hbel.alloc hs _).alloc (by simp; omega) _).grown hgrow (by simp; omega) (fun q hq => (hown.lt q hq).1)
        have HR2 := Lib.hid R
        clear R hown' hgrow hown
        go_wp2_with fail
        go_roundw
        case rel => exact ⟨k + 1, by omega, by go_num, ⟨_, HR2.out, by simp; omega, HX.out⟩, hbn⟩
        case measure => simp [intOf]; omega
    · have hk' : k = ps.length := by omega
      subst hk'
      have HX := Lib.hid (ofLineL_done HA.out)
      obtain ⟨A', c', rfl, hsl⟩ := Sl.of_own hown
      go_wp2_with fail
      go_ret
      exact ResSl.mk_ (by rw [HF.out, HX.out]) rfl hsl hbel

set_option maxHeartbeats 2000000 in
theorem specOfLine_any (A : Option Addr) (c : Nat) (ps : List Ship) (n : Int) (w : World) (hr : Rd w w.heap.size Ship.at_ 6 A ps) (hlen : ps.length ≤ 1048576) (hwf : ∀ p ∈ ps, p.wf) :
    Calls Try.prog 24 #[.slice A ps.length c, .int .i64 n] w (ResSl 3 intAt 1 (ofLineF ps n) w) := by
  cases hok : fleetOk ps
  · go_enter Try.func24, Try.ntmps24
    go_wp2_with (go_at_call 20; refine (specFleetOk_any _ _ _ _ hr hlen hwf).mono ?_; rintro e w' ⟨rfl, hb⟩)
    go_ret
    exact ResSl.nil_ (by simp [ofLineF, hok]) hb
  have HF := Lib.hid (show ofLineF ps n = ofLineL n 0 ps by rw [ofLineF, if_pos hok])
  have hl := fleetOk_len hok
  obtain ⟨i0, hi, hz0, hz1, hz2⟩ := info_parts infoInt
  go_enter Try.func24, Try.ntmps24
  go_wp2_with fail
  refine (specFleetOk_any _ _ _ _ hr hlen hwf).mono ?_
  rintro e w0 ⟨rfl, hb0⟩
  have hz0' := hb0.size
  go_wp2_with fail
  go_loopw [5, 14] (fun v i wr => ∃ k : Nat, k ≤ ps.length ∧ i = .int .i64 k ∧ (∃ acc : List Int, wr.ownsRow w.heap.size 3 1 v acc.length (flat intAt 1 acc) ∧ acc.length ≤ k ∧ ofLineL n 0 ps = acc ++ ofLineL n k (ps.drop k)) ∧ Below w.heap.size w wr) (fun _ i _ => ps.length - (intOf i).toNat)
  case atStart => exact ⟨0, Nat.zero_le _, rfl, ⟨[], World.ownsRow_lit w0 #[] 0 (by omega) (by simp [maxLen]) rfl, Nat.le_refl _, rfl⟩, hb0.alloc hz0' _⟩
  case round =>
    obtain ⟨k, hk, rfl, ⟨acc, hown, hal, hacc⟩, hbel⟩ := hrel
    have hs := hbel.size
    have HA := Lib.hid hacc
    clear hacc
    by_cases hlt : k < ps.length
    · obtain ⟨g, off, rfl, hg, hc⟩ := hr (by omega)
      obtain ⟨p, hp⟩ : ∃ p, ps[k]? = some p := ⟨_, List.getElem?_eq_getElem hlt⟩
      have c0 := (hbel.cell (p := ⟨g, off + k * 6 + 0, none⟩) hg).trans (hc k p hp 0 (by omega))
      have c1 := (hbel.cell (p := ⟨g, off + k * 6 + 1, none⟩) hg).trans (hc k p hp 1 (by omega))
      have c2 := (hbel.cell (p := ⟨g, off + k * 6 + 2, none⟩) hg).trans (hc k p hp 2 (by omega))
      have c3 := (hbel.cell (p := ⟨g, off + k * 6 + 3, none⟩) hg).trans (hc k p hp 3 (by omega))
      have c4 := (hbel.cell (p := ⟨g, off + k * 6 + 4, none⟩) hg).trans (hc k p hp 4 (by omega))
      have c5 := (hbel.cell (p := ⟨g, off + k * 6 + 5, none⟩) hg).trans (hc k p hp 5 (by omega))
      simp only [Ship.at_, Nat.add_zero] at c0 c1 c2 c3 c4 c5
      have HC := Lib.hid hc
      have HR := Lib.hid hr
      have HP := Lib.hid hp
      clear hc hr hp
      cases t : (p.line == n)
      · have HX := Lib.hid (ofLineL_miss HA.out HP.out (by simpa using t))
        have HR2 := Lib.hid (hown.alloc (.cells #[.string p.name, .int .i64 p.len, .int .i64 p.draught, .int .i64 p.line, .int .i64 p.tugs, .bool p.slow] 26))
        clear hown
        go_wp2_with fail
        go_roundw
        case rel => exact ⟨k + 1, by omega, by go_num, ⟨acc, HR2.out, by omega, HX.out⟩, hbel.alloc hs _⟩
        case measure => simp [intOf]; omega
      · have HX := Lib.hid (ofLineL_hit HA.out HP.out (by simpa using t))
        go_wp2_with (at_builtin; refine wpList_append_own _ rfl _ _ 40 rfl w.heap.size 3 i0 (.int .i64 0) 1 8 Try.underlying40 hi hz0 hz1 hz2 rfl (by decide) _ _ _ rfl ((hown.alloc _).alloc _) ⟨wr.heap.size + 1, 0, none⟩ 1 1 [.int .i64 k] rfl rfl ?c1 ?c2 ?c3 ?c4 ?c5 ?_)
        case c1 =>
          intro j u hj
          match j, hj with
          | 0, hj => simp at hj; subst hj; simp [Addr.add]
        case c2 => intro u hu; simp at hu; rcases hu with rfl; rfl
        case c3 => unfold maxLen; omega
        case c4 => omega
        case c5 => simp; omega
        intro v' w1 hown' hgrow _
        have R := own_snoc (enc := intAt) (x := (k : Int)) hown' rfl rfl
        have hbn : Below w.heap.size w w1 := ((hbel.alloc hs _).alloc (by simp; omega) _).grown hgrow (by simp; omega) (fun q hq => (hown.lt q hq).1)
        have HR2 := Lib.hid R
        clear R hown' hgrow hown
        go_wp2_with fail
        go_roundw
        case rel => exact ⟨k + 1, by omega, by go_num, ⟨_, HR2.out, by simp; omega, HX.out⟩, hbn⟩
        case measure => simp [intOf]; omega
    · have hk' : k = ps.length := by omega
      subst hk'
      have HX := Lib.hid (ofLineL_done HA.out)
      obtain ⟨A', c', rfl, hsl⟩ := Sl.of_own hown
      go_wp2_with fail
      go_ret
      exact ResSl.mk_ (by rw [HF.out, HX.out]) rfl hsl hbel

end Go.Proofs.Ytjnoihilhmhihaa
