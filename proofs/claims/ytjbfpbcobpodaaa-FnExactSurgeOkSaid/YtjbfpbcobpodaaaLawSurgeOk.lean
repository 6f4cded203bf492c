/-
  FnExactSurgeOk: for every surge the program's SurgeOk and the reference's give one answer. No condition.
-/
import Derived.Test.YtjbfpbcobpodaaaSurge1
import Derived.Test.YtjbfpbcobpodaaaOpen
namespace Go.Proofs.Ytjbfpbcobpodaaa
open Go.ChangeShapes Go.WideShapes Go.ChangeAt Go.RowKit Go.Joins

theorem open_Surge {H : Type} {enc : TypeId × Value → H} {P : Program} {w : World} {base : Nat} {spare : Nat → Bool} {held : Bool} {r : Reach} {b0 : Nat} {t : TypeId} {f0 f1 f2 : Field} {v : Value} {d : DataW H} {p : List MemPlace} (hs : P.underlying t = some (.struct #[f0, f1, f2])) (hone : Go.Deep.oneCellFields P #[f0, f1, f2] = true) (hC : P.cellsOf t = 3)
    (t0 : P.underlying f0.type = some (.int .i64)) (t1 : P.underlying f1.type = some (.int .i64)) (t2 : P.underlying f2.type = some (.int .i64))
    (hv : Value.okWide P w r b0 t v) (h : DataW.Trod enc P w base spare held t v d p) : ∃ x, IsSurge w v x := by
  obtain ⟨c0, c1, c2, y0, y1, y2, n, rfl, rfl, rfl, hy0, hy1, hy2⟩ := open_agg3 hs hone hC hv h
  obtain ⟨a, rfl, wa⟩ := cell_int t0 hy0
  obtain ⟨b, rfl, wb⟩ := cell_int t1 hy1
  obtain ⟨c, rfl, wc⟩ := cell_int t2 hy2
  exact ⟨⟨a, b, c⟩, rfl, wa, wb, wc⟩

set_option maxHeartbeats 1000000 in
theorem fnExactSurgeOk_walk {v0 : Value} {x : Surge} (w : World) (h0 : IsSurge w v0 x) :
    Calls Try.prog 4 #[v0] w fun e w' => e = .returned (.bool true) ∧ Below w.heap.size w w' := by
  obtain ⟨rfl, wf⟩ := h0
  obtain ⟨a, b, c⟩ := x
  have hk0 := Blk.new w 29 #[.int .i64 a, .int .i64 b, .int .i64 c]
  go_enter Try.func4, Try.ntmps4
  go_wp2_with fail
  refine (toSurge_any _ _ _ _).mono ?_
  rintro e w1 ⟨rfl, hb1⟩
  have hk1 := hk0.next hb1
  go_wp2_with fail
  refine (specSurgeOk_any ⟨a, b, c⟩ _).mono ?_
  rintro e w2 ⟨rfl, hb2⟩
  have hk2 := hk1.next hb2
  have c0 := hk2.cell 0
  have c1 := hk2.cell 1
  have c2 := hk2.cell 2
  go_wp2_with fail
  refine (toSurge_any _ _ _ _).mono ?_
  rintro e w3 ⟨rfl, hb3⟩
  go_wp2_with fail
  refine (implSurgeOk_any ⟨a, b, c⟩ _).mono ?_
  rintro e w4 ⟨rfl, hb4⟩
  go_wp2
  go_ret
  refine ⟨rfl, ?_⟩
  have s1 := hb1.size
  have s2 := hb2.size
  have s3 := hb3.size
  simp at s1
  exact (((((Below.refl _ _).alloc (Nat.le_refl _) _).trans (hb1.mono (by simp))).trans (hb2.mono (by omega))).trans (hb3.mono (by omega))).trans (hb4.mono (by omega))

set_option maxRecDepth 100000 in
theorem fnExactSurgeOk_lifted (os : Os) (started : os.Started) (H : Type) (enc : TypeId × Value → H) :
    ReturnsInHanded {} Try.checked os 4 .any (Rows.fnExactSurgeOkSpec.pre6 enc Try.prog Try.f4 Rows.fnExactSurgeOkRow.domain false) (Rows.fnExactSurgeOkSpec.post enc Try.prog Try.f4 false true false false) := by
  refine returnsInHanded_of_change (C := Try.checked) own_ started (by kernel_rfl) Try.func4
    (ChangeSpec.witness6 (enc := enc) (C := Try.checked) false ⟨#[], #[.agg #[.int .i64 0, .int .i64 0, .int .i64 0]], []⟩ 8 (by kernel_rfl) (by kernel_rfl) (by kernel_rfl) (by kernel_rfl)) ?_
  intro W base args ds gs before hval0 hW hcnd _
  have hval : ∀ (j : Nat) t v, Try.f4.params[j]? = some t → args[j]? = some v → Value.okWide Try.prog W .any base t v := hval0
  have hW' := hW
  obtain ⟨p, q, hA0, hV, rfl, hfz, hnd⟩ := hW
  have hA : DataW.TrodAll enc Try.prog W 0 (fun _ => true) true Try.f4.params.toList args.toList ds p := hA0
  rw [Try.params4] at hA hval
  obtain ⟨v0, d0, rfl, rfl, h0⟩ := trodAll_one hA
  obtain ⟨rfl, rfl⟩ := trodVars_none hV
  obtain ⟨x0, hx0⟩ := open_Surge Try.underlying29 (by kernel_rfl) (by kernel_rfl) Try.underlying3 Try.underlying3 Try.underlying3 (hval 0 29 v0 rfl rfl) h0
  refine (fnExactSurgeOk_walk W hx0).mono fun e W' ⟨he, hb⟩ => ?_
  subst he
  exact ⟨_, rfl, law_post laidOut_ (by kernel_rfl) rfl (by kernel_rfl) Try.underlying4 hW' rfl hb⟩

theorem fnExactSurgeOk_holds : Rows.FnExactSurgeOkSaid :=
  OpenClaim.holds_of_wide 4 Try.f4 rfl rfl rfl rfl rfl rfl rfl ⟨rfl, rfl, rfl, rfl, rfl⟩ rfl rfl rfl rfl rfl (by kernel_rfl) Try.func4 (by kernel_rfl)
    (of_decide_eq_true (by kernel_rfl)) (by unfold Func.isWrapper; rw [if_neg (of_decide_eq_false (by kernel_rfl))]; exact ⟨rfl, rfl⟩)
    (fun os started H enc _ => fnExactSurgeOk_lifted os started H enc)
#print axioms fnExactSurgeOk_holds

end Go.Proofs.Ytjbfpbcobpodaaa
