/-
  FnExactLowestLevel: for all arguments the program's LowestLevel and the reference's give one answer, and the arguments are left alone. No condition.
-/
import Derived.Test.YtjbfpbcobpodaaaTideS
import Derived.Test.YtjbfpbcobpodaaaBest
import Derived.Test.YtjbfpbcobpodaaaOpenT
namespace Go.Proofs.Ytjbfpbcobpodaaa
open Go.ChangeShapes Go.WideShapes Go.ChangeAt Go.RowKit

set_option maxHeartbeats 4000000 in
theorem fnExactLowestLevel_walk {v0 v1 v2 : Value} {x0 : Tide} {f : Int} {t : Int} (w : World) (h0 : IsTide w v0 x0) (h1 : IsInt w v1 f) (h2 : IsInt w v2 t) :
    Calls Try.prog 12 #[v0, v1, v2] w fun e w' => e = .returned (.bool true) ∧ Below w.heap.size w w' := by
  obtain ⟨A, c, rfl, hr0, hml0, hwf0⟩ := h0
  obtain ⟨m, ps⟩ := x0
  dsimp only at hr0 hml0 hwf0
  unfold maxLen at hml0
  obtain ⟨rfl, _⟩ := h1
  obtain ⟨rfl, _⟩ := h2
  have hk0 := Blk.new w 41 #[.int .i64 m, .slice A ps.length c]
  have hB0 : Below w.heap.size w (w.alloc (.cells #[.int .i64 m, .slice A ps.length c] 41)) := (Below.refl _ _).alloc (Nat.le_refl _) _
  go_enter Try.func12, Try.ntmps12
  go_wp2_with fail
  refine (szTide_any _ _ _ _ _ (by omega) (by omega) (by omega) _).mono ?_
  rintro e w1 ⟨r0, rfl, hr01, hr02, hb1⟩
  have hB1 := hB0.trans (hb1.mono hB0.size)
  have hz1 := hb1.size
  have hk_1 := hk0.next hb1
  by_cases hneg0 : r0 < 0
  · go_wp2_with fail
    go_ret
    exact ⟨rfl, hB1⟩
  have hlen0 : ps.length ≤ 1048576 := by omega
  have c1_0_0 := hk_1.cell 0
  have c1_0_1 := hk_1.cell 1
  go_wp2_with fail
  refine (toTide_any _ _ _ _ _ ((hr0.below hB1).more hB1.size) hlen0).mono ?_
  rintro e w2 ⟨As0, cs0, rfl, hs0, hb2⟩
  have hB2 := hB1.trans (hb2.mono hB1.size)
  have hz2 := hb2.size
  have hk_2 := hk_1.next hb2
  have c2_0_0 := hk_2.cell 0
  have c2_0_1 := hk_2.cell 1
  go_wp2_with fail
  refine (specLowestLevel_any _ _ _ _ _ _ _ hs0.rd hwf0 hlen0).mono ?_
  rintro e w3 ⟨rfl, hb3⟩
  have hB3 := hB2.trans (hb3.mono hB2.size)
  have hz3 := hb3.size
  have hk_3 := hk_2.next hb3
  have s0_3 := hs0.next hb3
  have c3_0_0 := hk_3.cell 0
  have c3_0_1 := hk_3.cell 1
  go_wp2_with fail
  refine (toTide_any _ _ _ _ _ ((hr0.below hB3).more hB3.size) hlen0).mono ?_
  rintro e w4 ⟨Ax0, cx0, rfl, hx0, hb4⟩
  have hB4 := hB3.trans (hb4.mono hB3.size)
  have hz4 := hb4.size
  have hk_4 := hk_3.next hb4
  obtain ⟨wb0, hwb0⟩ : ∃ wb, wb = w4.alloc (.cells #[.int .i64 m, .slice Ax0 ps.length cx0] 46) := ⟨_, rfl⟩
  have hbb0 : Below w4.heap.size w4 wb0 := by rw [hwb0]; exact (Below.refl _ _).alloc (Nat.le_refl _) _
  have hbk0 : Blk wb0 w4.heap.size 46 #[.int .i64 m, .slice Ax0 ps.length cx0] := by rw [hwb0]; exact Blk.new _ _ _
  have hBb0 := hB4.trans (hbb0.mono hB4.size)
  have hzb0 := hbb0.size
  have hk_b0 := hk_4.next hbb0
  have x0_b0 := hx0.next hbb0
  have HWB0 := Lib.hid hwb0
  clear hwb0
  have hlb0 : ∀ P : World → Prop, P wb0 → P (w4.alloc (.cells #[.int .i64 m, .slice Ax0 ps.length cx0] 46)) := fun P h => by rw [← HWB0.out]; exact h
  go_wp2_with fail
  rw [← HWB0.out]
  refine (implLowestLevel_any _ _ _ _ _ _ _ x0_b0.rd hwf0 hlen0).mono ?_
  rintro e w5 ⟨rfl, hb5⟩
  have hB5 := hBb0.trans (hb5.mono hBb0.size)
  have hz5 := hb5.size
  have hk_5 := hk_b0.next hb5
  have x0_5 := x0_b0.next hb5
  have xb0_5 := hbk0.next hb5
  have c5_0_0 := hk_5.cell 0
  have c5_0_1 := hk_5.cell 1
  have e0_0 := xb0_5.cell 0
  have e0_1 := xb0_5.cell 1
  have hla0 : w.heap.size < w5.heap.size := hk_5.lt
  have hlx0 : w4.heap.size < w5.heap.size := xb0_5.lt
  have hxd0 : Sl w5.drew _ _ _ _ _ _ _ := x0_5
  have hrd0 : Rd w5.drew w5.drew.heap.size Part.at_ 3 A ps := ((hr0.below hB5).more hB5.size)
  go_wp2_with fail
  go_region_held3 (fun w' => w'.cell? ⟨w4.heap.size, 0, none⟩ = some (.int .i64 m) ∧ w'.cell? ⟨w4.heap.size, 1, none⟩ = some (.slice Ax0 ps.length cx0) ∧ w'.cell? ⟨w.heap.size, 0, none⟩ = some (.int .i64 m) ∧ w'.cell? ⟨w.heap.size, 1, none⟩ = some (.slice A ps.length c)) (go_keep)
    (first
      | (go_at_call 25; refine (toTide_any _ _ _ _ _ hrd0 hlen0).mono ?_; rintro e w6 ⟨Ay0, cy0, rfl, hy0, hb6⟩; have hcc6 : ∀ b o, b < w5.heap.size → w6.cell? ⟨b, o, none⟩ = w5.cell? ⟨b, o, none⟩ := (bcell hb6).1; have hlA6 : w.heap.size < w6.heap.size := Nat.lt_of_lt_of_le hla0 hb6.size; have hlB6 : w4.heap.size < w6.heap.size := Nat.lt_of_lt_of_le hlx0 hb6.size)
      | (go_at_call 27; refine (eqTide_same _ _ _ _ _ ps _ ?_ ?_ hlen0).mono ?_; exact (hxd0.next hb6).rd; exact hy0.rd; rintro e w7 ⟨rfl, hb7⟩; have hcc7 : ∀ b o, b < w6.heap.size → w7.cell? ⟨b, o, none⟩ = w6.cell? ⟨b, o, none⟩ := (bcell hb7).1))
  have hB6 := hB5.drew.trans (hb6.mono hB5.drew.size)
  have hB7 := hB6.trans (hb7.mono hB6.size)
  go_wp2_with fail
  go_ret
  exact ⟨rfl, hB7⟩

set_option maxRecDepth 100000 in
theorem fnExactLowestLevel_lifted (os : Os) (started : os.Started) (H : Type) (enc : TypeId × Value → H) :
    ReturnsInHanded {} Try.checked os 12 .any (Rows.fnExactLowestLevelSpec.pre6 enc Try.prog Try.f12 Rows.fnExactLowestLevelRow.domain false) (Rows.fnExactLowestLevelSpec.post enc Try.prog Try.f12 false true false false) := by
  refine returnsInHanded_of_change (C := Try.checked) own_ started (by kernel_rfl) Try.func12
    (ChangeSpec.witness6 (enc := enc) (C := Try.checked) false ⟨#[], #[.agg #[.int .i64 0, .slice none 0 0], .int .i64 0, .int .i64 0], []⟩ 8 (by kernel_rfl) (by kernel_rfl) (by kernel_rfl) (by kernel_rfl)) ?_
  intro W base args ds gs before hval0 hW hcnd _
  have hval : ∀ (j : Nat) t v, Try.f12.params[j]? = some t → args[j]? = some v → Value.okWide Try.prog W .any base t v := hval0
  have hW' := hW
  obtain ⟨p, q, hA0, hV, rfl, hfz, hnd⟩ := hW
  have hA : DataW.TrodAll enc Try.prog W 0 (fun _ => true) true Try.f12.params.toList args.toList ds p := hA0
  rw [Try.params12] at hA hval
  obtain ⟨v0, v1, v2, d0, d1, d2, p0, p1, p2, rfl, rfl, rfl, h0, h1, h2⟩ := trodAll_three hA
  obtain ⟨rfl, rfl⟩ := trodVars_none hV
  obtain ⟨x0, hx0⟩ := open_Tide Try.underlying41 (by kernel_rfl) (by kernel_rfl) Try.underlying3 rfl Try.underlying39 Try.underlying23 (by kernel_rfl) (by kernel_rfl) Try.underlying3 Try.underlying3 Try.underlying3 (hval 0 41 v0 rfl rfl) h0
  obtain ⟨x1, hx1⟩ := open_Int Try.underlying3 (hval 1 3 v1 rfl rfl) h1
  obtain ⟨x2, hx2⟩ := open_Int Try.underlying3 (hval 2 3 v2 rfl rfl) h2
  refine (fnExactLowestLevel_walk W hx0 hx1 hx2).mono fun e W' ⟨he, hb⟩ => ?_
  subst he
  exact ⟨_, rfl, law_post laidOut_ (by kernel_rfl) rfl (by kernel_rfl) Try.underlying4 hW' rfl hb⟩

theorem fnExactLowestLevel_holds : Rows.FnExactLowestLevelSaid :=
  OpenClaim.holds_of_wide 12 Try.f12 rfl rfl rfl rfl rfl rfl rfl ⟨rfl, rfl, rfl, rfl, rfl⟩ rfl rfl rfl rfl rfl (by kernel_rfl) Try.func12 (by kernel_rfl)
    (of_decide_eq_true (by kernel_rfl)) (by unfold Func.isWrapper; rw [if_neg (of_decide_eq_false (by kernel_rfl))]; exact ⟨rfl, rfl⟩)
    (fun os started H enc _ => fnExactLowestLevel_lifted os started H enc)
#print axioms fnExactLowestLevel_holds

end Go.Proofs.Ytjbfpbcobpodaaa
