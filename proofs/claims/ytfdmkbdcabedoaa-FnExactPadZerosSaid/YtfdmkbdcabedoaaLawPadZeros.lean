/-
  FnExactPadZeros: for all arguments the program's PadZeros and the reference's give one answer. No condition.
-/
import Derived.Test.YtfdmkbdcabedoaaPad
import Derived.Test.YtfdmkbdcabedoaaOpen
import Derived.Test.YtfdmkbdcabedoaaModelT
namespace Go.Proofs.Ytfdmkbdcabedoaa
open Go.ChangeShapes Go.WideShapes Go.ChangeAt Go.RowKit

set_option maxHeartbeats 2000000 in
theorem fnExactPadZeros_walk {v0 v1 : Value} {s : ByteArray} {n : Int} (w : World) (h0 : IsStr w v0 s) (h1 : IsInt w v1 n) :
    Calls Try.prog 9 #[v0, v1] w fun e w' => e = .returned (.bool true) ∧ Below w.heap.size w w' := by
  obtain ⟨rfl, hn0⟩ := h0
  obtain ⟨rfl, _⟩ := h1
  have hm0 : s.size ≤ 9223372036854775807 := by have := hn0; unfold maxLen at this; omega
  clear hn0
  by_cases hbig : 1048576 < s.size
  · go_enter Try.func9, Try.ntmps9
    go_wp2_with fail
    go_ret
    exact ⟨rfl, Below.refl _ _⟩
  have hs : s.size ≤ 1048576 := by omega
  have hse : ((padV s n).toList == (padV s n).toList) = true := by simp
  go_enter Try.func9, Try.ntmps9
  go_wp2_with fail
  refine (specPadZeros_any _ _ _ hs).mono ?_
  rintro e w1 ⟨rfl, hb1⟩
  go_wp2_with fail
  refine (implPadZeros_any _ _ _ hs).mono ?_
  rintro e w2 ⟨rfl, hb2⟩
  go_wp2_with fail
  go_ret
  exact ⟨rfl, hb1.trans (hb2.mono hb1.size)⟩

set_option maxRecDepth 100000 in
theorem fnExactPadZeros_lifted (os : Os) (started : os.Started) (H : Type) (enc : TypeId × Value → H) :
    ReturnsInHanded {} Try.checked os 9 .any (Rows.fnExactPadZerosSpec.pre6 enc Try.prog Try.f9 Rows.fnExactPadZerosRow.domain false) (Rows.fnExactPadZerosSpec.post enc Try.prog Try.f9 false true false false) := by
  refine returnsInHanded_of_change (C := Try.checked) own_ started (by kernel_rfl) Try.func9
    (ChangeSpec.witness6 (enc := enc) (C := Try.checked) false ⟨#[], #[.string ⟨#[]⟩, .int .i64 0], []⟩ 8 (by kernel_rfl) (by kernel_rfl) (by kernel_rfl) (by kernel_rfl)) ?_
  intro W base args ds gs before hval0 hW hcnd _
  have hval : ∀ (j : Nat) t v, Try.f9.params[j]? = some t → args[j]? = some v → Value.okWide Try.prog W .any base t v := hval0
  have hW' := hW
  obtain ⟨p, q, hA0, hV, rfl, hfz, hnd⟩ := hW
  have hA : DataW.TrodAll enc Try.prog W 0 (fun _ => true) true Try.f9.params.toList args.toList ds p := hA0
  rw [Try.params9] at hA hval
  obtain ⟨v0, v1, d0, d1, p0, p1, rfl, rfl, rfl, h0, h1⟩ := trodAll_two hA
  obtain ⟨rfl, rfl⟩ := trodVars_none hV
  obtain ⟨x0, hx0⟩ := open_Str Try.underlying9 (hval 0 9 v0 rfl rfl) h0
  obtain ⟨x1, hx1⟩ := open_Int Try.underlying3 (hval 1 3 v1 rfl rfl) h1
  refine (fnExactPadZeros_walk W hx0 hx1).mono fun e W' ⟨he, hb⟩ => ?_
  subst he
  exact ⟨_, rfl, law_post laidOut_ (by kernel_rfl) rfl (by kernel_rfl) Try.underlying4 hW' rfl hb⟩

theorem fnExactPadZeros_holds : Rows.FnExactPadZerosSaid :=
  OpenClaim.holds_of_wide 9 Try.f9 rfl rfl rfl rfl rfl rfl rfl ⟨rfl, rfl, rfl, rfl, rfl⟩ rfl rfl rfl rfl rfl (by kernel_rfl) Try.func9 (by kernel_rfl)
    (of_decide_eq_true (by kernel_rfl)) (by unfold Func.isWrapper; rw [if_neg (of_decide_eq_false (by kernel_rfl))]; exact ⟨rfl, rfl⟩)
    (fun os started H enc _ => fnExactPadZeros_lifted os started H enc)
#print axioms fnExactPadZeros_holds

end Go.Proofs.Ytfdmkbdcabedoaa
