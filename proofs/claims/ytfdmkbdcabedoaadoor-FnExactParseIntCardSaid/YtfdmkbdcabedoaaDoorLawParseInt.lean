/-
  FnExactParseInt: for all arguments the program's ParseInt and the reference's give one answer. No condition; the variables that strconv reads are tied to the program's text.
-/
import Derived.Test.YtfdmkbdcabedoaaDoorParseI
import Derived.Test.YtfdmkbdcabedoaaDoorParseS
import Derived.Test.YtfdmkbdcabedoaaDoorOpen
import Derived.Test.YtfdmkbdcabedoaaDoorCards
import Derived.Test.YtfdmkbdcabedoaaDoorTie
import Derived.LaidMore
import Derived.OpenShut
import Derived.Stop.Joined
import Derived.Stop.LaidErr
import Derived.Lib.LaidTab
import Derived.SevenTiedAt
import Derived.ProofKit
namespace Go.Proofs.YtfdmkbdcabedoaaDoor
open Go.ChangeShapes Go.WideShapes Go.ChangeAt Go.WideMaps Go.WideElems Go.RowKit

theorem gPow : Tryd.prog.globalNamed "internal/strconv.uint64pow10" = some 3 := by kernel_rfl
theorem gPowT : (Tryd.prog.globals[3]?).map (·.type) = some 81 := by kernel_rfl
theorem tabEq : (Rows.laid_internal_strconv_uint64pow10 : DataW Unit) = Lib.tabData .u64 Lib.pow10Tab := by kernel_rfl
theorem pow_cells : Tryd.prog.cellsOf 65 = 1 := by kernel_rfl
theorem pow_cells2 : Tryd.prog.cellsOf 81 = 20 := by kernel_rfl
theorem gES : Tryd.prog.globalNamed "strconv.ErrSyntax" = some 0 := by kernel_rfl
theorem gEST : (Tryd.prog.globals[0]?).map (·.type) = some 36 := by kernel_rfl
theorem gER : Tryd.prog.globalNamed "strconv.ErrRange" = some 1 := by kernel_rfl
theorem gERT : (Tryd.prog.globals[1]?).map (·.type) = some 36 := by kernel_rfl
theorem errStar : "*" ++ "errors.errorString" = "*errors.errorString" := by decide
theorem errRow (u : TypeId) (h : Tryd.prog.typeName? 3 u = some "*errors.errorString") : u = 86 :=
  typeName_ptr_named (nm := "errors.errorString") (by rw [errStar]; kernel_rfl) (by kernel_rfl) (by decide) u (by rw [errStar]; exact h)
theorem errCells : Tryd.prog.cellsOf 88 = 1 := by kernel_rfl
theorem strCells : Tryd.prog.cellsOf 9 = 1 := by kernel_rfl

set_option maxHeartbeats 4000000 in
theorem fnExactParseInt_walk {v0 : Value} {s : ByteArray} (w : World) (h0 : IsStr w v0 s) (htab : Lib.TabIs Tryd.prog w "internal/strconv.uint64pow10" .u64 Lib.pow10Tab) (t1 t2 : TypeId) (p1 p2 : Value)
    (hv1 : w.var? Tryd.prog "strconv.ErrSyntax" = some #[.iface t1 p1]) (hv2 : w.var? Tryd.prog "strconv.ErrRange" = some #[.iface t2 p2]) :
    Calls Tryd.prog 4 #[v0] w fun e w' => e = .returned (.bool true) ∧ Below w.heap.size w w' := by
  obtain ⟨rfl, hn⟩ := h0
  by_cases hbig : 1048576 < s.size
  · have hm : s.size ≤ 9223372036854775807 := by unfold maxLen at hn; omega
    clear hn
    go_enter Tryd.func4, Tryd.ntmps4
    go_wp2_with fail
    go_ret
    exact ⟨rfl, Below.refl _ _⟩
  have hs : s.size ≤ 1048576 := by omega
  have HT := Lib.hid (Lib.tabBelow_of_tabIs htab)
  have HV1 := Lib.hid hv1
  have HV2 := Lib.hid hv2
  have HC1 := Lib.hid (specParseInt_any s w hs)
  have HC2 : Hid (∀ W, Below w.heap.size w W → Calls Tryd.prog 9 #[.string s] W fun e w' => ∃ n b, e = .returned (.tuple #[.int .i64 n, .bool b]) ∧ ParseRes s.data.toList n b ∧ Below W.heap.size W w') := Lib.hid fun W h =>
    implParseInt_any s W hs (HT.out.on h).here t1 t2 p1 p2 (Joins.var_stays gES HV1.out h (Nat.le_refl _)) (Joins.var_stays gER HV2.out h (Nat.le_refl _))
  clear htab hv1 hv2 HT HV1 HV2 hn
  have hbi : ¬ (1048576 : Int) < (s.size : Int) := by omega
  go_enter Tryd.func4, Tryd.ntmps4
  go_wp2_with fail
  refine HC1.out.mono ?_
  rintro e w1 ⟨n, b, rfl, hres, hb1⟩
  go_wp2_with fail
  refine (HC2.out _ hb1).mono ?_
  rintro e w2 ⟨n', b', rfl, hres', hb2⟩
  obtain ⟨rfl, rfl⟩ := hres.same hres'
  have HB := Lib.hid (hb1.trans (hb2.mono hb1.size))
  clear hres hres'
  cases b
  all_goals
    go_wp2_with fail
    go_ret
    exact ⟨rfl, HB.out⟩

/-- The door's own heap meets the condition. -/
theorem fnExactParseInt_door (os : Os) (args : Array Value) : laidMetH Tryd.prog Rows.fnExactParseIntRow.laid ((World.doorLaid Tryd.prog 400 os).forCall (fun _ _ => 0) ⟨#[], args, []⟩).memory :=
  laidMetH_of_parts3 (fuel := 8) (laidMet_of_run' 8 (by kernel_rfl) (by kernel_rfl)) (by kernel_rfl) (by kernel_rfl)

set_option maxRecDepth 100000 in
theorem fnExactParseInt_lifted (os : Os) (started : os.Started) (H : Type) (enc : TypeId × Value → H) :
    ReturnsInHanded {} Tryd.checked os 4 .any (fun w args => (Rows.fnExactParseIntSpec.pre enc Tryd.prog Tryd.f4 [] false w args ∧ laidMetH Tryd.prog Rows.fnExactParseIntRow.laid w) ∧ sizedMet enc Tryd.prog Tryd.f4 (OpenSpec.ofChange Rows.fnExactParseIntSpec) false w args)
      (Rows.fnExactParseIntSpec.post enc Tryd.prog Tryd.f4 false true false false) := by
  refine returnsInHanded_of_change_and (C := Tryd.checked) (X := fun w _ => laidMetH Tryd.prog Rows.fnExactParseIntRow.laid w) (fun _ _ _ hh h => h.of_heap hh) own_ started (by kernel_rfl) Tryd.func4
    (ChangeSpec.witness_shaped (enc := enc) (C := Tryd.checked) (os := os) (X := fun w _ => laidMetH Tryd.prog Rows.fnExactParseIntRow.laid w) false (World.doorLaid Tryd.prog 400 os) #[.string ⟨#[]⟩] 8 rfl (World.shaped_of_RefB (by kernel_rfl) (by kernel_rfl)) (by kernel_rfl) (by kernel_rfl) (by kernel_rfl) (fnExactParseInt_door os _)) ?_
  intro W base args ds gs before hval0 hW _ hsz0 hL _
  have hval : ∀ (j : Nat) t v, Tryd.f4.params[j]? = some t → args[j]? = some v → Value.okWide Tryd.prog W .any base t v := hval0
  have hW' := hW
  obtain ⟨p, q, hA0, hV, rfl, hfz, hnd⟩ := hW
  have hA : DataW.TrodAll enc Tryd.prog W 0 (fun _ => true) true Tryd.f4.params.toList args.toList ds p := hA0
  rw [Tryd.params4] at hA hval
  obtain ⟨v0, d0, rfl, rfl, h0⟩ := trodAll_one hA
  obtain ⟨rfl, rfl⟩ := trodVars_none hV
  obtain ⟨x0, hx0⟩ := open_Str Tryd.underlying9 (hval 0 9 v0 rfl rfl) h0
  have hL2 := hL
  rw [MakeChecks.laidMetH_plain _ _ _ (by kernel_rfl)] at hL2
  have htab : Lib.TabIs Tryd.prog W "internal/strconv.uint64pow10" .u64 Lib.pow10Tab :=
    Lib.tabIs_of_head gPow gPowT Tryd.underlying81 Tryd.underlying65 pow_cells pow_cells2 (rest := _) (by
      have h2 := hL2.tail.tail
      rw [tabEq] at h2
      exact h2)
  obtain ⟨a1, s1, hv2, -, -, -⟩ := laid_sentinel hL2.tail.tail.tail gER gERT Tryd.underlying36 errRow Tryd.underlying86 Tryd.underlying88 rfl rfl Tryd.underlying9 errCells strCells
  obtain ⟨a0, s0, hv1, -, -, -⟩ := laid_sentinel hL2.tail.tail.tail.tail gES gEST Tryd.underlying36 errRow Tryd.underlying86 Tryd.underlying88 rfl rfl Tryd.underlying9 errCells strCells
  refine (fnExactParseInt_walk W hx0 htab _ _ _ _ hv1 hv2).mono fun e W' ⟨he, hb⟩ => ?_
  subst he
  exact ⟨_, rfl, law_post laidOut_ (by kernel_rfl) rfl (by kernel_rfl) Tryd.underlying4 hW' rfl hb⟩

theorem fnExactParseInt_row : Rows.FnExactParseIntSaid :=
  OpenClaim.holds_of_wide 4 Tryd.f4 rfl rfl rfl rfl rfl rfl rfl ⟨rfl, rfl, rfl, rfl, rfl⟩ rfl rfl rfl rfl rfl (by kernel_rfl) Tryd.func4 (by kernel_rfl)
    (of_decide_eq_true (by kernel_rfl)) (by unfold Func.isWrapper; rw [if_neg (of_decide_eq_false (by kernel_rfl))]; exact ⟨rfl, rfl⟩)
    (fun os started H enc _ => fnExactParseInt_lifted os started H enc)

/-- The tied card. -/
theorem fnExactParseInt_holds : Rows.FnExactParseIntCardSaid :=
  Claim7.holds_tied_plain_at .later [] [.data, .data, .data, .sentinel, .sentinel] true (true, "d45225203b0cbd5aa5f0fb148d8b03117f0d1423fb4c57f3b129b6730ffec872") true
    fnExactParseInt_row (fun _ h => by cases h) (by kernel_rfl) (fun _ h => by cases h) fnExactParseInt_row_tie rfl ⟨rfl, rfl⟩ (by kernel_rfl) rfl
    (fun f fn hf hfn => by
      obtain rfl : f = 4 := Option.some.inj ((show Tryd.prog.funcNamed "loop.example/g00831/laws.FnExactParseInt" = some 4 by kernel_rfl).symm.trans hf) |>.symm
      obtain rfl : fn = Tryd.f4 := (Option.some.inj (Tryd.func4.symm.trans hfn)).symm
      exact ⟨by kernel_rfl, fun j t ht => by
        rw [Tryd.params4] at ht
        have hm : t ∈ [9] := by simpa using Array.mem_of_getElem? ht
        have hall : ([9].all fun u => !Tryd.prog.wantsStandIn u) = true := by kernel_rfl
        exact (show Tryd.prog.wantsStandIn t = false by simpa using List.all_eq_true.1 hall t hm)⟩)
    (by kernel_rfl)
#print axioms fnExactParseInt_holds

end Go.Proofs.YtfdmkbdcabedoaaDoor
