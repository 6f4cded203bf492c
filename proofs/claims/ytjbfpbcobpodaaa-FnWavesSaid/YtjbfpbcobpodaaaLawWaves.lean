/-
  FnWaves: a wave is periodic, changes its sign after half a period, and reaches its top after a quarter. No condition.
-/
import Derived.Test.YtjbfpbcobpodaaaWave
import Derived.Test.YtjbfpbcobpodaaaWaveLaw
import Derived.Test.YtjbfpbcobpodaaaOpenB
namespace Go.Proofs.Ytjbfpbcobpodaaa
open Go.ChangeShapes Go.WideShapes Go.ChangeAt Go.RowKit

set_option maxHeartbeats 4000000 in
theorem fnWaves_walk {v0 : Value} {zs : List Int} (w : World) (h0 : IsBytes w v0 zs) :
    Calls Try.prog 6 #[v0] w fun e w' => e = .returned (.bool true) ∧ Below w.heap.size w w' := by
  obtain ⟨A, c, rfl, hr, hml, hz⟩ := h0
  unfold maxLen at hml
  go_enter Try.func6, Try.ntmps6
  by_cases hlen : zs.length ≤ 1048576
  · go_wp2_with fail
    refine (MakeNum_any A c 1 zs _ hr hlen hz (by omega)).mono ?_
    rintro e w1 ⟨x, rfl, hx0, hx1, hb1⟩
    go_wp2_with fail
    refine (MakeNum_any A c 3 zs _ ((hr.below hb1).more hb1.size) hlen hz (by omega)).mono ?_
    rintro e w2 ⟨y, rfl, hy0, hy1, hb2⟩
    go_wp2_with fail
    have hx2 : 0 ≤ x % 700 ∧ x % 700 ≤ 699 := by omega
    have hn : -30000 ≤ y - 30000 ∧ y - 30000 ≤ 35535 := by omega
    obtain ⟨p, hp⟩ : ∃ p, p = 4 * (1 + x % 700) := ⟨_, rfl⟩
    have hper : isPer p = true := isPer_mk (by omega) (by omega) (by omega)
    have hp1 : 4 ≤ p ∧ p ≤ 2880 := by omega
    rw [← hp]
    clear hp
    generalize y - 30000 = n at hn ⊢
    clear hx2 hx0 hx1 hy0 hy1
    have F0 : waveF n p = waveV n p := if_pos hper
    have F1 : waveF (n + p) p = waveV n p := (if_pos hper).trans (wave_period n p)
    have F2 : waveF (n + p / 2) p = -waveV n p := (if_pos hper).trans (wave_half hper n)
    have F3 : waveF (p / 4) p = 10000 := (if_pos hper).trans (wave_quarter hper)
    have F4 : waveF 0 p = 0 := (if_pos hper).trans (wave_zero hper)
    have hV := waveV_bd (n := n) hper
    generalize waveV n p = V at F0 F1 F2 hV
    have hV1 := hV.1
    have hV2 := hV.2
    have hn1 := hn.1
    have hn2 := hn.2
    have hp2 := hp1.1
    have hp3 := hp1.2
    have F0 := Lib.hid F0
    have F1 := Lib.hid F1
    have F2 := Lib.hid F2
    have F3 := Lib.hid F3
    have F4 := Lib.hid F4
    refine (implWave_any n p _).mono ?_
    rintro e w' ⟨rfl, rfl⟩
    rw [F0.out]
    go_wp2_with fail
    refine (implWave_any (n + p) p _).mono ?_
    rintro e w' ⟨rfl, rfl⟩
    rw [F1.out]
    go_wp2_with fail
    refine (implWave_any (n + p / 2) p _).mono ?_
    rintro e w' ⟨rfl, rfl⟩
    rw [F2.out]
    go_wp2_with fail
    refine (implWave_any (p / 4) p _).mono ?_
    rintro e w' ⟨rfl, rfl⟩
    rw [F3.out]
    go_wp2_with fail
    refine (implWave_any 0 p _).mono ?_
    rintro e w' ⟨rfl, rfl⟩
    rw [F4.out]
    go_wp2_with fail
    go_ret
    exact ⟨rfl, hb1.trans (hb2.mono hb1.size)⟩
  · go_wp2_with fail
    go_ret
    exact ⟨rfl, Below.refl _ _⟩

set_option maxRecDepth 100000 in
theorem fnWaves_lifted (os : Os) (started : os.Started) (H : Type) (enc : TypeId × Value → H) :
    ReturnsInHanded {} Try.checked os 6 .any (Rows.fnWavesSpec.pre6 enc Try.prog Try.f6 Rows.fnWavesRow.domain false) (Rows.fnWavesSpec.post enc Try.prog Try.f6 false true false false) := by
  refine returnsInHanded_of_change (C := Try.checked) own_ started (by kernel_rfl) Try.func6
    (ChangeSpec.witness6 (enc := enc) (C := Try.checked) false ⟨#[], #[.slice none 0 0], []⟩ 8 (by kernel_rfl) (by kernel_rfl) (by kernel_rfl) (by kernel_rfl)) ?_
  intro W base args ds gs before hval0 hW hcnd _
  have hval : ∀ (j : Nat) t v, Try.f6.params[j]? = some t → args[j]? = some v → Value.okWide Try.prog W .any base t v := hval0
  have hW' := hW
  obtain ⟨p, q, hA0, hV, rfl, hfz, hnd⟩ := hW
  have hA : DataW.TrodAll enc Try.prog W 0 (fun _ => true) true Try.f6.params.toList args.toList ds p := hA0
  rw [Try.params6] at hA hval
  obtain ⟨v0, d0, rfl, rfl, h0⟩ := trodAll_one hA
  obtain ⟨rfl, rfl⟩ := trodVars_none hV
  obtain ⟨x0, hx0⟩ := open_Bytes Try.underlying36 Try.underlying5 (by kernel_rfl) (hval 0 36 v0 rfl rfl) h0
  refine (fnWaves_walk W hx0).mono fun e W' ⟨he, hb⟩ => ?_
  subst he
  exact ⟨_, rfl, law_post laidOut_ (by kernel_rfl) rfl (by kernel_rfl) Try.underlying4 hW' rfl hb⟩

theorem fnWaves_holds : Rows.FnWavesSaid :=
  OpenClaim.holds_of_wide 6 Try.f6 rfl rfl rfl rfl rfl rfl rfl ⟨rfl, rfl, rfl, rfl, rfl⟩ rfl rfl rfl rfl rfl (by kernel_rfl) Try.func6 (by kernel_rfl)
    (of_decide_eq_true (by kernel_rfl)) (by unfold Func.isWrapper; rw [if_neg (of_decide_eq_false (by kernel_rfl))]; exact ⟨rfl, rfl⟩)
    (fun os started H enc _ => fnWaves_lifted os started H enc)
#print axioms fnWaves_holds

end Go.Proofs.Ytjbfpbcobpodaaa
