/-
  The contract of SplitAny, the reference's.
-/
import Derived.Test.YtfdmkbdcabedoaaTString
import Derived.Test.YtfdmkbdcabedoaaModelK
import Derived.Test.YtfdmkbdcabedoaaGrow
import Derived.Test.YtfdmkbdcabedoaaCap
namespace Go.Proofs.Ytfdmkbdcabedoaa
open Go.RowKit

set_option maxHeartbeats 4000000 in
theorem specSplitAnyC_any (s d : ByteArray) (w : World) (hs : s.size ≤ 1048576) (hd : d.size ≤ 9223372036854775807) :
    Calls Try.prog 14 #[.string s, .string d] w (ResSlC 9 strAt 1 (splitV s d) w) := by
  obtain ⟨i0, hi, hz0, hz1, hz2⟩ := info_parts infoString
  go_enter Try.func14, Try.ntmps14
  go_wp2_with fail
  go_loopw [5, 6, 7] (fun v f i wr => ∃ k fr : Nat, k ≤ s.size ∧ fr ≤ k ∧ i = .int .i64 k ∧ f = .int .i64 fr ∧ (∃ acc : List ByteArray, wr.ownsRow w.heap.size 9 1 v acc.length (flat strAt 1 acc) ∧ acc.length ≤ k ∧ splitV s d = acc ++ splitL s d (s.size - k) k fr) ∧ Below w.heap.size w wr) (fun _ _ i _ => s.size - (intOf i).toNat)
  case atStart => exact ⟨0, 0, Nat.zero_le _, Nat.le_refl _, rfl, rfl, ⟨[], World.ownsRow_lit w #[] 0 (by omega) (by simp [maxLen]) rfl, Nat.le_refl _, rfl⟩, (Below.refl _ _).alloc (Nat.le_refl _) _⟩
  case round =>
    obtain ⟨k, fr, hk, hfr, rfl, rfl, ⟨acc, hown, hal, hacc⟩, hbel⟩ := hrel
    obtain ⟨wo, rfl⟩ : ∃ wo : World, wo = wr := ⟨_, rfl⟩
    have hz := hbel.size
    have HA := Lib.hid hacc
    clear hacc
    by_cases hlt : k < s.size
    · go_wp2_with fail
      go_loopw [5, 6, 8] (fun v f q wr => ∃ j : Nat, j ≤ d.size ∧ q = .int .i64 j ∧ f = .int .i64 fr ∧ wr.ownsRow w.heap.size 9 1 v acc.length (flat strAt 1 acc) ∧ Below w.heap.size w wr ∧ ∀ x (hx : x < d.size), x < j → d[x] ≠ s[k]) (fun _ _ q _ => d.size - (intOf q).toNat)
      case atStart => exact ⟨0, Nat.zero_le _, rfl, rfl, hown, hbel, fun x _ h => absurd h (Nat.not_lt_zero _)⟩
      case round =>
        clear hown hbel hz
        obtain ⟨j, hj, rfl, rfl, hown, hbel, hno⟩ := hrel
        have hz := hbel.size
        have HN := Lib.hid hno
        clear hno
        by_cases hltj : j < d.size
        · have hj0 : (0 : Int) ≤ (j : Int) := Int.natCast_nonneg _
          have hk0 : (0 : Int) ≤ (k : Int) := Int.natCast_nonneg _
          by_cases t : d[j] = s[k]
          · have HX := Lib.hid (splitL_hit hlt HA.out (sep_hit hltj t))
            have t1 : ((s[k].toNat : Int) == (d[j].toNat : Int)) = true := by rw [t]; simp
            have t2 : (s[k].toNat == d[j].toNat) = true := by rw [t]; simp
            clear t
            go_wp2_with fail
            go_quiet (fail)
            go_wp2_with (at_builtin; refine wpList_append_own _ rfl _ _ 24 rfl w.heap.size 9 i0 (.string ⟨#[]⟩) 1 16 Try.underlying24 hi hz0 hz1 hz2 rfl (by decide) _ _ _ rfl (hown.alloc _) ⟨wr.heap.size, 0, none⟩ 1 1 [.string (s.extract fr k)] rfl rfl ?c1 ?c2 ?c3 ?c4 ?c5 ?_)
            case c1 =>
              intro q u hq
              match q, hq with
              | 0, hq => simp at hq; subst hq; simp [Addr.add]; exact (Blk.new (wr.drewN _) _ _).cell 0
            case c2 => intro u hu; simp at hu; rcases hu with rfl; rfl
            case c3 => unfold maxLen; omega
            case c4 => omega
            case c5 => simp; omega
            intro v' w1 hown' hgrow _
            have R := own_snoc (enc := strAt) (x := s.extract fr k) hown' rfl rfl
            have hbn : Below w.heap.size w w1 := ((hbel.alloc hz _).drewN _).grown hgrow (by simp; omega) (fun q hq => (hown.lt q hq).1)
            have HR2 := Lib.hid R
            clear R hown' hgrow hown
            go_wp2_with fail
            go_roundw
            case rel => exact ⟨k + 1, k + 1, by omega, by omega, by go_num, by go_num, ⟨_, HR2.out, by simp; omega, HX.out⟩, hbn⟩
            case measure => simp [intOf]; omega
          · have t3 : ¬ (s[k].toNat = d[j].toNat) := fun h => t (UInt8.toNat_inj.1 h.symm)
            have t1 : ((s[k].toNat : Int) == (d[j].toNat : Int)) = false := by simp; omega
            have HX : Hid (∀ x (hx : x < d.size), x < j + 1 → d[x] ≠ s[k]) := Lib.hid (fun x hx h => by
              by_cases e : x = j
              · subst e; exact t
              · exact HN.out x hx (by omega))
            clear t
            go_wp2_with fail
            go_quiet (fail)
            go_wp2
            go_roundw
            case rel => exact ⟨j + 1, by omega, by go_num, rfl, hown, hbel.drewN _, HX.out⟩
            case measure => simp [intOf]; omega
        · have HX := Lib.hid (splitL_miss hlt HA.out (sep_none fun x hx => HN.out x hx (by omega)))
          go_wp2_with fail
          go_roundw
          case rel => exact ⟨k + 1, fr, by omega, by omega, by go_num, rfl, ⟨acc, hown, by omega, HX.out⟩, hbel⟩
          case measure => simp [intOf]; omega
    · have hk' : k = s.size := by omega
      subst hk'
      have HX := Lib.hid (splitL_done HA.out)
      go_wp2_with (at_builtin; refine wpList_append_own _ rfl _ _ 24 rfl w.heap.size 9 i0 (.string ⟨#[]⟩) 1 16 Try.underlying24 hi hz0 hz1 hz2 rfl (by decide) _ _ _ rfl (hown.alloc _) ⟨wo.heap.size, 0, none⟩ 1 1 [.string (s.extract fr s.size)] rfl rfl ?d1 ?d2 ?d3 ?d4 ?d5 ?_)
      case d1 =>
        intro j u hj
        match j, hj with
        | 0, hj => simp at hj; subst hj; simp [Addr.add]
      case d2 => intro u hu; simp at hu; rcases hu with rfl; rfl
      case d3 => unfold maxLen; omega
      case d4 => omega
      case d5 => simp; omega
      intro v' w1 hown' hgrow _
      have R := own_snoc (enc := strAt) (x := s.extract fr s.size) hown' rfl rfl
      have hbn : Below w.heap.size w w1 := (hbel.alloc hz _).grown hgrow (by simp; omega) (fun q hq => (hown.lt q hq).1)
      obtain ⟨A', c', rfl, hcp, hsl⟩ := Sl.of_own_cap R
      clear R hown' hgrow hown
      go_wp2_with fail
      go_ret
      exact ResSlC.mk_ HX.out rfl hcp hsl hbn

theorem specSplitAny_any (s d : ByteArray) (w : World) (hs : s.size ≤ 1048576) (hd : d.size ≤ 9223372036854775807) :
    Calls Try.prog 14 #[.string s, .string d] w (ResSl 9 strAt 1 (splitV s d) w) :=
  (specSplitAnyC_any s d w hs hd).mono fun _ _ h => h.plain

end Go.Proofs.Ytfdmkbdcabedoaa
