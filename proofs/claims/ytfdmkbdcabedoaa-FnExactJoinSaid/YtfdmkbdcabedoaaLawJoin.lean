/-
  FnExactJoin: for all arguments the program's Join and the reference's give one answer, and the arguments are left alone. No condition.
-/
import Derived.Test.YtfdmkbdcabedoaaJoin
import Derived.Test.YtfdmkbdcabedoaaOpenX
namespace Go.Proofs.Ytfdmkbdcabedoaa
open Go.ChangeShapes Go.WideShapes Go.ChangeAt Go.RowKit

set_option maxHeartbeats 4000000 in
theorem fnExactJoin_walk {v0 v1 : Value} {ps : List ByteArray} {d : ByteArray} (w : World) (h0 : IsStrs w v0 ps) (h1 : IsStr w v1 d) :
    Calls Try.prog 8 #[v0, v1] w fun e w' => e = .returned (.bool true) ∧ Below w.heap.size w w' := by
  obtain ⟨A, c, rfl, hr, hml, hwf⟩ := h0
  obtain ⟨rfl, hn1⟩ := h1
  unfold maxLen at hml
  have hm1 : d.size ≤ 9223372036854775807 := by have := hn1; unfold maxLen at this; omega
  clear hn1
  by_cases hbig : 1048576 < d.size
  · go_enter Try.func8, Try.ntmps8
    go_wp2_with fail
    go_ret
    exact ⟨rfl, Below.refl _ _⟩
  have hd : d.size ≤ 1048576 := by omega
  have hse : ((joinV ps d).toList == (joinV ps d).toList) = true := by simp
  go_enter Try.func8, Try.ntmps8
  go_wp2_with fail
  refine (szStringS_any _ _ _ _ (by omega) (by omega) (by omega) _ hr hwf).mono ?_
  rintro e w1 ⟨r, rfl, hr2, hb1⟩
  have hB1 := hb1
  by_cases hneg : r < 0
  · go_wp2_with fail
    go_ret
    exact ⟨rfl, hB1⟩
  have hlen : ps.length ≤ 1048576 := by omega
  have hsum : sumSz ps ≤ 1048576 := by omega
  go_wp2_with fail
  refine (toStringS_any _ _ _ _ ((hr.below hB1).more hB1.size) hlen).mono ?_
  rintro e w2 ⟨rfl, hx2, hb2⟩
  have hB2 := hB1.trans (hb2.mono hB1.size)
  go_wp2_with fail
  refine (specJoin_any _ _ _ _ _ hx2.rd hlen hsum hd).mono ?_
  rintro e w3 ⟨rfl, hb3⟩
  have hB3 := hB2.trans (hb3.mono hB2.size)
  go_wp2_with fail
  refine (toStringS_any _ _ _ _ ((hr.below hB3).more hB3.size) hlen).mono ?_
  rintro e w4 ⟨rfl, hx4, hb4⟩
  have hB4 := hB3.trans (hb4.mono hB3.size)
  go_wp2_with fail
  refine (implJoin_any _ _ _ _ _ _ hx4.rd hx4.lt hlen (Nat.le_refl _) hsum hd).mono ?_
  rintro e w5 ⟨rfl, hb5⟩
  have hB5 := hB4.trans (hb5.mono hB4.size)
  have x5 := hx4.next hb5
  go_wp2_with fail
  refine (toStringS_any _ _ _ _ ((hr.below hB5).more hB5.size) hlen).mono ?_
  rintro e w6 ⟨rfl, hy6, hb6⟩
  have hB6 := hB5.trans (hb6.mono hB5.size)
  have x6 := x5.next hb6
  go_wp2_with fail
  refine (eqStringS_same _ _ _ _ _ _ x6.rd hy6.rd (by omega)).mono ?_
  rintro e w7 ⟨rfl, hb7⟩
  have hB7 := hB6.trans (hb7.mono hB6.size)
  go_wp2_with fail
  go_ret
  exact ⟨rfl, hB7⟩

set_option maxRecDepth 100000 in
theorem fnExactJoin_lifted (os : Os) (started : os.Started) (H : Type) (enc : TypeId × Value → H) :
    ReturnsInHanded {} Try.checked os 8 .any (Rows.fnExactJoinSpec.pre6 enc Try.prog Try.f8 Rows.fnExactJoinRow.domain false) (Rows.fnExactJoinSpec.post enc Try.prog Try.f8 false true false false) := by
  refine returnsInHanded_of_change (C := Try.checked) own_ started (by kernel_rfl) Try.func8
    (ChangeSpec.witness6 (enc := enc) (C := Try.checked) false ⟨#[], #[.slice none 0 0, .string ⟨#[]⟩], []⟩ 8 (by kernel_rfl) (by kernel_rfl) (by kernel_rfl) (by kernel_rfl)) ?_
  intro W base args ds gs before hval0 hW hcnd _
  have hval : ∀ (j : Nat) t v, Try.f8.params[j]? = some t → args[j]? = some v → Value.okWide Try.prog W .any base t v := hval0
  have hW' := hW
  obtain ⟨p, q, hA0, hV, rfl, hfz, hnd⟩ := hW
  have hA : DataW.TrodAll enc Try.prog W 0 (fun _ => true) true Try.f8.params.toList args.toList ds p := hA0
  rw [Try.params8] at hA hval
  obtain ⟨v0, v1, d0, d1, p0, p1, rfl, rfl, rfl, h0, h1⟩ := trodAll_two hA
  obtain ⟨rfl, rfl⟩ := trodVars_none hV
  obtain ⟨x0, hx0⟩ := open_Strs Try.underlying24 Try.underlying9 (by kernel_rfl) (hval 0 24 v0 rfl rfl) h0
  obtain ⟨x1, hx1⟩ := open_Str Try.underlying9 (hval 1 9 v1 rfl rfl) h1
  refine (fnExactJoin_walk W hx0 hx1).mono fun e W' ⟨he, hb⟩ => ?_
  subst he
  exact ⟨_, rfl, law_post laidOut_ (by kernel_rfl) rfl (by kernel_rfl) Try.underlying4 hW' rfl hb⟩

theorem fnExactJoin_holds : Rows.FnExactJoinSaid :=
  OpenClaim.holds_of_wide 8 Try.f8 rfl rfl rfl rfl rfl rfl rfl ⟨rfl, rfl, rfl, rfl, rfl⟩ rfl rfl rfl rfl rfl (by kernel_rfl) Try.func8 (by kernel_rfl)
    (of_decide_eq_true (by kernel_rfl)) (by unfold Func.isWrapper; rw [if_neg (of_decide_eq_false (by kernel_rfl))]; exact ⟨rfl, rfl⟩)
    (fun os started H enc _ => fnExactJoin_lifted os started H enc)
#print axioms fnExactJoin_holds

end Go.Proofs.Ytfdmkbdcabedoaa
