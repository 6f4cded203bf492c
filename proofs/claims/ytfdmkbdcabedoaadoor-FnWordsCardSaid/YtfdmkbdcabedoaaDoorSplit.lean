/-
  The contract of SplitAny, the program's.
-/
import Derived.Test.YtfdmkbdcabedoaaDoorTString
import Derived.Test.YtfdmkbdcabedoaaDoorIndexB
import Derived.Test.YtfdmkbdcabedoaaDoorModelK
import Derived.Test.YtfdmkbdcabedoaaDoorGrow
import Derived.Test.YtfdmkbdcabedoaaDoorCap
namespace Go.Proofs.YtfdmkbdcabedoaaDoor
open Go.RowKit

set_option maxHeartbeats 4000000 in
theorem implSplitAnyC_any (s d : ByteArray) (w : World) (hs : s.size ≤ 1048576) (_hd : d.size ≤ 9223372036854775807) :
    Calls Tryd.prog 13 #[.string s, .string d] w (ResSlC 9 strAt 1 (splitV s d) w) := by
  obtain ⟨i0, hi, hz0, hz1, hz2⟩ := info_parts infoString
  go_enter Tryd.func13, Tryd.ntmps13
  go_wp2_with fail
  go_loopw [5, 6, 7] (fun v f i wr => ∃ k fr : Nat, k ≤ s.size ∧ fr ≤ k ∧ i = .int .i64 k ∧ f = .int .i64 fr ∧ (∃ acc : List ByteArray, wr.ownsRow w.heap.size 9 1 v acc.length (flat strAt 1 acc) ∧ acc.length ≤ k ∧ splitV s d = acc ++ splitL s d (s.size - k) k fr) ∧ Below w.heap.size w wr) (fun _ _ i _ => s.size - (intOf i).toNat)
  case atStart => exact ⟨0, 0, Nat.zero_le _, Nat.le_refl _, rfl, rfl, ⟨[], World.ownsRow_lit w #[] 0 (by omega) (by simp [maxLen]) rfl, Nat.le_refl _, rfl⟩, (Below.refl _ _).alloc (Nat.le_refl _) _⟩
  case round =>
    obtain ⟨k, fr, hk, hfr, rfl, rfl, ⟨acc, hown, hal, hacc⟩, hbel⟩ := hrel
    have hz := hbel.size
    have HA := Lib.hid hacc
    clear hacc
    by_cases hlt : k < s.size
    · obtain ⟨ix, hix⟩ : ∃ ix, ix = Lib.indexByte d.data.toList s[k] := ⟨_, rfl⟩
      have hci : ∀ W, Calls Tryd.prog 25 #[.string d, .int .u8 (s[k].toNat : Int)] W fun e w' => e = .returned (.int .i64 ix) ∧ W = w' := fun W => by
        have := indexByte_any d (s[k].toNat : Int) W
        simpa [hix] using this
      have hsx := sep_index d s[k]
      rw [← hix] at hsx
      clear hix
      cases t : sepB d s[k]
      · have HX := Lib.hid (splitL_miss hlt HA.out t)
        rw [t] at hsx
        have hix2 : ix < 0 := by simpa using hsx.symm
        clear hsx t
        go_wp2_with (go_at_call 25; refine (hci _).mono ?_; rintro e w' ⟨rfl, rfl⟩)
        go_roundw
        case rel => exact ⟨k + 1, fr, by omega, by omega, by go_num, rfl, ⟨acc, hown, by omega, HX.out⟩, hbel⟩
        case measure => simp [intOf]; omega
      · have HX := Lib.hid (splitL_hit hlt HA.out t)
        rw [t] at hsx
        have hix2 : 0 ≤ ix := by simpa using hsx.symm
        clear hsx t
        go_wp2_with (first
          | (go_at_call 25; refine (hci _).mono ?_; rintro e w' ⟨rfl, rfl⟩)
          | (at_builtin; refine wpList_append_own _ rfl _ _ 31 rfl w.heap.size 9 i0 (.string ⟨#[]⟩) 1 16 Tryd.underlying31 hi hz0 hz1 hz2 rfl (by decide) _ _ _ rfl (hown.alloc _) ⟨wr.heap.size, 0, none⟩ 1 1 [.string (s.extract fr k)] rfl rfl ?c1 ?c2 ?c3 ?c4 ?c5 ?_))
        case c1 =>
          intro j u hj
          match j, hj with
          | 0, hj => simp at hj; subst hj; simp [Addr.add]
        case c2 => intro u hu; simp at hu; rcases hu with rfl; rfl
        case c3 => unfold maxLen; omega
        case c4 => omega
        case c5 => simp; omega
        intro v' w1 hown' hgrow _
        have R := own_snoc (enc := strAt) (x := s.extract fr k) hown' rfl rfl
        have hbn : Below w.heap.size w w1 := (hbel.alloc hz _).grown hgrow (by simp; omega) (fun q hq => (hown.lt q hq).1)
        have HR2 := Lib.hid R
        clear R hown' hgrow hown
        go_wp2_with fail
        go_roundw
        case rel => exact ⟨k + 1, k + 1, by omega, by omega, by go_num, by go_num, ⟨_, HR2.out, by simp; omega, HX.out⟩, hbn⟩
        case measure => simp [intOf]; omega
    · have hk' : k = s.size := by omega
      subst hk'
      have HX := Lib.hid (splitL_done HA.out)
      go_wp2_with (at_builtin; refine wpList_append_own _ rfl _ _ 31 rfl w.heap.size 9 i0 (.string ⟨#[]⟩) 1 16 Tryd.underlying31 hi hz0 hz1 hz2 rfl (by decide) _ _ _ rfl (hown.alloc _) ⟨wr.heap.size, 0, none⟩ 1 1 [.string (s.extract fr s.size)] rfl rfl ?d1 ?d2 ?d3 ?d4 ?d5 ?_)
      case d1 =>
        intro j u hj
        match j, hj with
        | 0, hj => simp at hj; subst hj; simp [Addr.add]
      case d2 => intro u hu; simp at hu; rcases hu with rfl; rfl
      case d3 => unfold maxLen; omega
      case d4 => omega
      case d5 => simp; omega
      intro v' w1 hown' hgrow _
      have R := own_snoc (enc := strAt) (x := s.extract fr s.size) hown' rfl rfl
      have hbn : Below w.heap.size w w1 := (hbel.alloc hz _).grown hgrow (by simp; omega) (fun q hq => (hown.lt q hq).1)
      obtain ⟨A', c', rfl, hcp, hsl⟩ := Sl.of_own_cap R
      clear R hown' hgrow hown
      go_wp2_with fail
      go_ret
      exact ResSlC.mk_ HX.out rfl hcp hsl hbn

theorem implSplitAny_any (s d : ByteArray) (w : World) (hs : s.size ≤ 1048576) (hd : d.size ≤ 9223372036854775807) :
    Calls Tryd.prog 13 #[.string s, .string d] w (ResSl 9 strAt 1 (splitV s d) w) :=
  (implSplitAnyC_any s d w hs hd).mono fun _ _ h => h.plain

end Go.Proofs.YtfdmkbdcabedoaaDoor
