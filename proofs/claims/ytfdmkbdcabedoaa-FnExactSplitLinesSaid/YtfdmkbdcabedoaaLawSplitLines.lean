/-
  FnExactSplitLines: for all arguments the program's SplitLines and the reference's give one answer, in new memory that no other call shares. No condition.
-/
import Derived.Test.YtfdmkbdcabedoaaLines
import Derived.Test.YtfdmkbdcabedoaaOpen
namespace Go.Proofs.Ytfdmkbdcabedoaa
open Go.ChangeShapes Go.WideShapes Go.ChangeAt Go.RowKit

set_option maxHeartbeats 4000000 in
theorem fnExactSplitLines_walk {v0 : Value} {s : ByteArray} (w : World) (h0 : IsStr w v0 s) :
    Calls Try.prog 7 #[v0] w fun e w' => e = .returned (.bool true) ∧ Below w.heap.size w w' := by
  obtain ⟨rfl, hn0⟩ := h0
  have hB0 : Below w.heap.size w w := Below.refl _ _
  have hm0 : s.size ≤ 9223372036854775807 := by have := hn0; unfold maxLen at this; omega
  by_cases hbig0 : 1048576 < s.size
  · go_enter Try.func7, Try.ntmps7
    go_wp2_with fail
    go_ret
    exact ⟨rfl, hB0⟩
  have hs0 : s.size ≤ 1048576 := by omega
  clear hn0
  have hrl : (linesV s).length ≤ 1048577 := by have := linesV_len s; omega
  go_enter Try.func7, Try.ntmps7
  go_wp2_with fail
  refine (specSplitLines_any _ _ hs0).mono ?_
  rintro e w1 ⟨Aw, cw, rfl, hsw, hb1⟩
  have hB1 := hB0.trans (hb1.mono hB0.size)
  have hz1 := hb1.size
  go_wp2_with fail
  refine (implSplitLines_any _ _ hs0).mono ?_
  rintro e w2 ⟨Ag, cg, rfl, hsg, hb2⟩
  have hB2 := hB1.trans (hb2.mono hB1.size)
  have hz2 := hb2.size
  have fw2 := hsw.next hb2
  go_wp2_with fail
  refine (eqStringS_same _ _ _ _ _ _ hsg.rd fw2.rd hrl).mono ?_
  rintro e w3 ⟨rfl, hb3⟩
  have hB3 := hB2.trans (hb3.mono hB2.size)
  have hz3 := hb3.size
  have fw3 := fw2.next hb3
  have fg3 := hsg.next hb3
  go_wp2_with fail
  refine (markStringS_any _ _ _ _ _ _ _ fg3 hrl (by omega) (by omega)).mono ?_
  rintro e w4 ⟨rfl, hgm, hb4⟩
  have hB4 := hB3.trans (hb4.below hB1.size hB3.size)
  have hz4 := hb4.size
  have fw4 := fw3.out hb4 (.inl (by omega))
  go_wp2_with fail
  refine (heldStringS_any _ _ _ _ _ hgm.rd hrl (by omega) (by omega)).mono ?_
  rintro e w5 ⟨rfl, hb5⟩
  have hB5 := hB4.trans (hb5.mono hB4.size)
  have hz5 := hb5.size
  have fw5 := fw4.next hb5
  have fm5 := hgm.next hb5
  go_wp2_with fail
  refine (implSplitLines_any _ _ hs0).mono ?_
  rintro e w6 ⟨Ah, ch, rfl, hsh, hb6⟩
  have hB6 := hB5.trans (hb6.mono hB5.size)
  have hz6 := hb6.size
  have fw6 := fw5.next hb6
  have fm6 := fm5.next hb6
  go_wp2_with fail
  refine (eqStringS_same _ _ _ _ _ _ hsh.rd fw6.rd hrl).mono ?_
  rintro e w7 ⟨rfl, hb7⟩
  have hB7 := hB6.trans (hb7.mono hB6.size)
  have hz7 := hb7.size
  have fw7 := fw6.next hb7
  have fm7 := fm6.next hb7
  have fh7 := hsh.next hb7
  go_wp2_with fail
  refine (heldStringS_any _ _ _ _ _ fm7.rd hrl (by omega) (by omega)).mono ?_
  rintro e w8 ⟨rfl, hb8⟩
  have hB8 := hB7.trans (hb8.mono hB7.size)
  have hz8 := hb8.size
  have fw8 := fw7.next hb8
  have fm8 := fm7.next hb8
  have fh8 := fh7.next hb8
  go_wp2_with fail
  go_ret
  exact ⟨rfl, hB8⟩

set_option maxRecDepth 100000 in
theorem fnExactSplitLines_lifted (os : Os) (started : os.Started) (H : Type) (enc : TypeId × Value → H) :
    ReturnsInHanded {} Try.checked os 7 .any (Rows.fnExactSplitLinesSpec.pre6 enc Try.prog Try.f7 Rows.fnExactSplitLinesRow.domain false) (Rows.fnExactSplitLinesSpec.post enc Try.prog Try.f7 false true false false) := by
  refine returnsInHanded_of_change (C := Try.checked) own_ started (by kernel_rfl) Try.func7
    (ChangeSpec.witness6 (enc := enc) (C := Try.checked) false ⟨#[], #[.string ⟨#[]⟩], []⟩ 8 (by kernel_rfl) (by kernel_rfl) (by kernel_rfl) (by kernel_rfl)) ?_
  intro W base args ds gs before hval0 hW hcnd _
  have hval : ∀ (j : Nat) t v, Try.f7.params[j]? = some t → args[j]? = some v → Value.okWide Try.prog W .any base t v := hval0
  have hW' := hW
  obtain ⟨p, q, hA0, hV, rfl, hfz, hnd⟩ := hW
  have hA : DataW.TrodAll enc Try.prog W 0 (fun _ => true) true Try.f7.params.toList args.toList ds p := hA0
  rw [Try.params7] at hA hval
  obtain ⟨v0, d0, rfl, rfl, h0⟩ := trodAll_one hA
  obtain ⟨rfl, rfl⟩ := trodVars_none hV
  obtain ⟨x0, hx0⟩ := open_Str Try.underlying9 (hval 0 9 v0 rfl rfl) h0
  refine (fnExactSplitLines_walk W hx0).mono fun e W' ⟨he, hb⟩ => ?_
  subst he
  exact ⟨_, rfl, law_post laidOut_ (by kernel_rfl) rfl (by kernel_rfl) Try.underlying4 hW' rfl hb⟩

theorem fnExactSplitLines_holds : Rows.FnExactSplitLinesSaid :=
  OpenClaim.holds_of_wide 7 Try.f7 rfl rfl rfl rfl rfl rfl rfl ⟨rfl, rfl, rfl, rfl, rfl⟩ rfl rfl rfl rfl rfl (by kernel_rfl) Try.func7 (by kernel_rfl)
    (of_decide_eq_true (by kernel_rfl)) (by unfold Func.isWrapper; rw [if_neg (of_decide_eq_false (by kernel_rfl))]; exact ⟨rfl, rfl⟩)
    (fun os started H enc _ => fnExactSplitLines_lifted os started H enc)
#print axioms fnExactSplitLines_holds

end Go.Proofs.Ytfdmkbdcabedoaa
