/-
  FnWords: integers are recovered from their text, and strings from their parts. No condition; the variables that strconv reads are tied to the program's text.
-/
import Derived.Test.YtfdmkbdcabedoaaDoorParseI
import Derived.Test.YtfdmkbdcabedoaaDoorLaidJ
import Derived.Test.YtfdmkbdcabedoaaDoorModelJS
import Derived.Test.YtfdmkbdcabedoaaDoorMakeT
import Derived.Test.YtfdmkbdcabedoaaDoorSplit
import Derived.Test.YtfdmkbdcabedoaaDoorLines
import Derived.Test.YtfdmkbdcabedoaaDoorText1
import Derived.Test.YtfdmkbdcabedoaaDoorOpenB
import Derived.Test.YtfdmkbdcabedoaaDoorCards
import Derived.Test.YtfdmkbdcabedoaaDoorTie
import Derived.LaidMore
import Derived.OpenShut
import Derived.Stop.Joined
import Derived.Stop.LaidErr
import Derived.Lib.LaidTab
import Derived.SevenTiedAt
import Derived.ProofKit
namespace Go.Proofs.YtfdmkbdcabedoaaDoor
open Go.ChangeShapes Go.WideShapes Go.ChangeAt Go.WideMaps Go.WideElems Go.RowKit

theorem gPow : Tryd.prog.globalNamed "internal/strconv.uint64pow10" = some 3 := by kernel_rfl
theorem gPowT : (Tryd.prog.globals[3]?).map (·.type) = some 81 := by kernel_rfl
theorem tabEq : (Rows.laid_internal_strconv_uint64pow10 : DataW Unit) = Lib.tabData .u64 Lib.pow10Tab := by kernel_rfl
theorem pow_cells : Tryd.prog.cellsOf 65 = 1 := by kernel_rfl
theorem pow_cells2 : Tryd.prog.cellsOf 81 = 20 := by kernel_rfl
theorem gES : Tryd.prog.globalNamed "strconv.ErrSyntax" = some 0 := by kernel_rfl
theorem gEST : (Tryd.prog.globals[0]?).map (·.type) = some 36 := by kernel_rfl
theorem gER : Tryd.prog.globalNamed "strconv.ErrRange" = some 1 := by kernel_rfl
theorem gERT : (Tryd.prog.globals[1]?).map (·.type) = some 36 := by kernel_rfl
theorem errStar : "*" ++ "errors.errorString" = "*errors.errorString" := by decide
theorem errRow (u : TypeId) (h : Tryd.prog.typeName? 3 u = some "*errors.errorString") : u = 86 :=
  typeName_ptr_named (nm := "errors.errorString") (by rw [errStar]; kernel_rfl) (by kernel_rfl) (by decide) u (by rw [errStar]; exact h)
theorem errCells : Tryd.prog.cellsOf 88 = 1 := by kernel_rfl
theorem strCells : Tryd.prog.cellsOf 9 = 1 := by kernel_rfl

set_option maxHeartbeats 2000000 in
theorem joinBlank_any (g off c : Nat) (s : ByteArray) (w : World) (hr : Rd w w.heap.size strAt 1 (some ⟨g, off, none⟩) (splitV s blank)) (hg : g < w.heap.size) (hs : s.size ≤ 1048576) (hcap : (splitV s blank).length ≤ c) :
    Calls Tryd.prog 12 #[.slice (some ⟨g, off, none⟩) (splitV s blank).length c, .string blank] w fun e w' => e = .returned (.string s) ∧ Below w.heap.size w w' := by
  have hl := splitV_len s blank
  have hcells : ∀ (j : Nat) x, (splitV s blank)[j]? = some x → w.cell? ⟨g, off + j, none⟩ = some (.string x) := fun j x hx => by
    have hj : j < (splitV s blank).length := (List.getElem?_eq_some_iff.1 hx).1
    obtain ⟨g', off', e, _, hc⟩ := hr (by omega)
    cases e
    have := hc j x hx 0 (by omega)
    simpa only [strAt, Nat.add_zero, Nat.mul_one] using this
  have h1 := Tryd.strings_Join g off c (splitV s blank) blank w hcells hg (by omega) hcap (by rw [join_len_of]; omega)
  have h2 := join_splitV s
  unfold joinV at h2
  rw [h2] at h1
  have HC := Lib.hid h1
  clear h1 h2 hcells hr hcap hl
  go_enter Tryd.func12, Tryd.ntmps12
  go_wp2_with fail
  refine HC.out.mono ?_
  rintro e w1 ⟨rfl, hb1⟩
  go_wp2_with fail
  go_ret
  exact ⟨rfl, hb1⟩

set_option maxRecDepth 20000 in
set_option maxHeartbeats 8000000 in
theorem fnWords_walk {v0 : Value} {zs : List Int} (w : World) (h0 : IsBytes w v0 zs) (htab : Lib.TabIs Tryd.prog w "internal/strconv.uint64pow10" .u64 Lib.pow10Tab) (t1 t2 : TypeId) (p1 p2 : Value)
    (hv1 : w.var? Tryd.prog "strconv.ErrSyntax" = some #[.iface t1 p1]) (hv2 : w.var? Tryd.prog "strconv.ErrRange" = some #[.iface t2 p2]) :
    Calls Tryd.prog 5 #[v0] w fun e w' => e = .returned (.bool true) ∧ Below w.heap.size w w' := by
  obtain ⟨A, c, rfl, hr, hml, hz⟩ := h0
  unfold maxLen at hml
  by_cases hlen : zs.length ≤ 1048576
  case neg =>
    go_enter Tryd.func5, Tryd.ntmps5
    go_wp2_with fail
    go_ret
    exact ⟨rfl, Below.refl _ _⟩
  have HT := Lib.hid (Lib.tabBelow_of_tabIs htab)
  have HV1 := Lib.hid hv1
  have HV2 := Lib.hid hv2
  have RB : Hid (∀ W, Below w.heap.size w W → Rd W W.heap.size byteAt 1 A zs) := Lib.hid fun W h => (hr.below h).more h.size
  have HC1 := Lib.hid (MakeNum_any A c 1 zs w hr hlen hz (by omega))
  clear htab hv1 hv2 hr
  go_enter Tryd.func5, Tryd.ntmps5
  go_wp2_with fail
  refine HC1.out.mono ?_
  rintro e w1 ⟨x, rfl, hx0, hx1, hb1⟩
  have hz1 := hb1.size
  have e1 : IntKind.i64.wrap (x - 30000) = x - 30000 := IntWalk.i64_in _ (by omega)
  obtain ⟨n, hn⟩ : ∃ n, n = x - 30000 := ⟨_, rfl⟩
  have hnb : I64 n := by unfold I64; omega
  have HN := Lib.hid hn
  obtain ⟨S, hS⟩ : ∃ S : ByteArray, S = ⟨(Lib.itoa n).toArray⟩ := ⟨_, rfl⟩
  have hSs : S.size ≤ 21 := by
    rw [hS]
    show (Lib.itoa n).toArray.size ≤ 21
    have := Lib.itoa_length_le n hnb.1 hnb.2
    simpa using this
  have HC2 := Lib.hid (implFormatInt_any n w1 hnb (HT.out.on hb1).here)
  rw [← hS] at HC2
  have HPT := Lib.hid (show ParseTo S.data.toList n from ⟨hnb, by rw [hS]⟩)
  have HPI : Hid (∀ W, Below w.heap.size w W → Calls Tryd.prog 9 #[.string S] W fun e w' => e = .returned (.tuple #[.int .i64 n, .bool true]) ∧ Below W.heap.size W w') := Lib.hid fun W h => by
    refine (implParseInt_any S W (by omega) (HT.out.on h).here t1 t2 p1 p2 (Joins.var_stays gES HV1.out h (Nat.le_refl _)) (Joins.var_stays gER HV2.out h (Nat.le_refl _))).mono ?_
    rintro e w2 ⟨k, b, rfl, hres, hb⟩
    rcases hres with ⟨rfl, hk⟩ | ⟨_, _, hno⟩
    · rw [hk.unique HPT.out]
      exact ⟨rfl, hb⟩
    · exact absurd HPT.out (hno n)
  clear hn hS hnb
  go_wp2_with fail
  rw [← HN.out]
  refine HC2.out.mono ?_
  rintro e w2 ⟨rfl, hb2⟩
  have hB2 := hb1.trans (hb2.mono hz1)
  clear e1
  go_wp2_with fail
  refine (HPI.out _ hB2).mono ?_
  rintro e w3 ⟨rfl, hb3⟩
  have hB3 := hB2.trans (hb3.mono hB2.size)
  have HC3 := Lib.hid (MakeText_any A c zs w3 (RB.out _ hB3) hlen hz)
  go_wp2_with fail
  refine HC3.out.mono ?_
  rintro e w4 ⟨s, rfl, hs, hb4⟩
  have hB4 := hB3.trans (hb4.mono hB3.size)
  have HC4 := Lib.hid (implSplitAnyC_any s blank w4 (by omega) (by decide))
  have hblank : (⟨#[32]⟩ : ByteArray) = blank := rfl
  go_wp2_with fail
  refine HC4.out.mono ?_
  rintro e w5 ⟨B, d, rfl, hcap, hsl, hb5⟩
  have hB5 := hB4.trans (hb5.mono hB4.size)
  have hne := splitL_ne s blank s.size 0 0
  obtain ⟨g, off, hBe, hg, _⟩ := hsl.rd (show 0 < (splitV s blank).length from hne)
  subst hBe
  have HC5 := Lib.hid (joinBlank_any g off d s w5 hsl.rd hg (by omega) hcap)
  obtain ⟨N, hN⟩ : ∃ N, N = (splitV s blank).length := ⟨_, rfl⟩
  rw [← hN] at HC5 ⊢
  clear hN hne hsl hcap
  go_wp2_with fail
  refine HC5.out.mono ?_
  rintro e w6 ⟨rfl, hb6⟩
  have hB6 := hB5.trans (hb6.mono hB5.size)
  have HC6 := Lib.hid (implIsName_any ⟨#[120, 49]⟩ w6 (by decide))
  rw [name_x1] at HC6
  go_wp2_with fail
  refine HC6.out.mono ?_
  rintro e w' ⟨rfl, rfl⟩
  have HC7 := Lib.hid (implSplitLines_any ⟨#[97, 10, 98, 10]⟩ w6 (by decide))
  go_wp2_with fail
  refine HC7.out.mono ?_
  rintro e w7 ⟨D, f, rfl, _, hb7⟩
  have hB7 := Lib.hid (hB6.trans (hb7.mono hB6.size))
  rw [lines_two]
  go_wp2_with fail
  go_ret
  exact ⟨rfl, hB7.out⟩

/-- The door's own heap meets the condition. -/
theorem fnWords_door (os : Os) (args : Array Value) : laidMetH Tryd.prog Rows.fnWordsRow.laid ((World.doorLaid Tryd.prog 400 os).forCall (fun _ _ => 0) ⟨#[], args, []⟩).memory :=
  laidMetH_of_parts3 (fuel := 8) (laidMet_of_run' 8 (by kernel_rfl) (by kernel_rfl)) (by kernel_rfl) (by kernel_rfl)

set_option maxRecDepth 100000 in
theorem fnWords_lifted (os : Os) (started : os.Started) (H : Type) (enc : TypeId × Value → H) :
    ReturnsInHanded {} Tryd.checked os 5 .any (fun w args => (Rows.fnWordsSpec.pre enc Tryd.prog Tryd.f5 [] false w args ∧ laidMetH Tryd.prog Rows.fnWordsRow.laid w) ∧ sizedMet enc Tryd.prog Tryd.f5 (OpenSpec.ofChange Rows.fnWordsSpec) false w args)
      (Rows.fnWordsSpec.post enc Tryd.prog Tryd.f5 false true false false) := by
  refine returnsInHanded_of_change_and (C := Tryd.checked) (X := fun w _ => laidMetH Tryd.prog Rows.fnWordsRow.laid w) (fun _ _ _ hh h => h.of_heap hh) own_ started (by kernel_rfl) Tryd.func5
    (ChangeSpec.witness_shaped (enc := enc) (C := Tryd.checked) (os := os) (X := fun w _ => laidMetH Tryd.prog Rows.fnWordsRow.laid w) false (World.doorLaid Tryd.prog 400 os) #[.slice none 0 0] 8 rfl (World.shaped_of_RefB (by kernel_rfl) (by kernel_rfl)) (by kernel_rfl) (by kernel_rfl) (by kernel_rfl) (fnWords_door os _)) ?_
  intro W base args ds gs before hval0 hW _ hsz0 hL _
  have hval : ∀ (j : Nat) t v, Tryd.f5.params[j]? = some t → args[j]? = some v → Value.okWide Tryd.prog W .any base t v := hval0
  have hW' := hW
  obtain ⟨p, q, hA0, hV, rfl, hfz, hnd⟩ := hW
  have hA : DataW.TrodAll enc Tryd.prog W 0 (fun _ => true) true Tryd.f5.params.toList args.toList ds p := hA0
  rw [Tryd.params5] at hA hval
  obtain ⟨v0, d0, rfl, rfl, h0⟩ := trodAll_one hA
  obtain ⟨rfl, rfl⟩ := trodVars_none hV
  obtain ⟨x0, hx0⟩ := open_Bytes Tryd.underlying27 Tryd.underlying5 (by kernel_rfl) (hval 0 27 v0 rfl rfl) h0
  have hL2 := hL
  rw [MakeChecks.laidMetH_plain _ _ _ (by kernel_rfl)] at hL2
  have htab : Lib.TabIs Tryd.prog W "internal/strconv.uint64pow10" .u64 Lib.pow10Tab :=
    Lib.tabIs_of_head gPow gPowT Tryd.underlying81 Tryd.underlying65 pow_cells pow_cells2 (rest := _) (by
      have h2 := hL2.tail.tail
      rw [tabEq] at h2
      exact h2)
  obtain ⟨a1, s1, hv2, -, -, -⟩ := laid_sentinel hL2.tail.tail.tail gER gERT Tryd.underlying36 errRow Tryd.underlying86 Tryd.underlying88 rfl rfl Tryd.underlying9 errCells strCells
  obtain ⟨a0, s0, hv1, -, -, -⟩ := laid_sentinel hL2.tail.tail.tail.tail gES gEST Tryd.underlying36 errRow Tryd.underlying86 Tryd.underlying88 rfl rfl Tryd.underlying9 errCells strCells
  refine (fnWords_walk W hx0 htab _ _ _ _ hv1 hv2).mono fun e W' ⟨he, hb⟩ => ?_
  subst he
  exact ⟨_, rfl, law_post laidOut_ (by kernel_rfl) rfl (by kernel_rfl) Tryd.underlying4 hW' rfl hb⟩

theorem fnWords_row : Rows.FnWordsSaid :=
  OpenClaim.holds_of_wide 5 Tryd.f5 rfl rfl rfl rfl rfl rfl rfl ⟨rfl, rfl, rfl, rfl, rfl⟩ rfl rfl rfl rfl rfl (by kernel_rfl) Tryd.func5 (by kernel_rfl)
    (of_decide_eq_true (by kernel_rfl)) (by unfold Func.isWrapper; rw [if_neg (of_decide_eq_false (by kernel_rfl))]; exact ⟨rfl, rfl⟩)
    (fun os started H enc _ => fnWords_lifted os started H enc)

/-- The tied card. -/
theorem fnWords_holds : Rows.FnWordsCardSaid :=
  Claim7.holds_tied_plain_at .later [] [.data, .data, .data, .sentinel, .sentinel] true (true, "d45225203b0cbd5aa5f0fb148d8b03117f0d1423fb4c57f3b129b6730ffec872") true
    fnWords_row (fun _ h => by cases h) (by kernel_rfl) (fun _ h => by cases h) fnWords_row_tie rfl ⟨rfl, rfl⟩ (by kernel_rfl) rfl
    (fun f fn hf hfn => by
      obtain rfl : f = 5 := Option.some.inj ((show Tryd.prog.funcNamed "loop.example/g00831/laws.FnWords" = some 5 by kernel_rfl).symm.trans hf) |>.symm
      obtain rfl : fn = Tryd.f5 := (Option.some.inj (Tryd.func5.symm.trans hfn)).symm
      exact ⟨by kernel_rfl, fun j t ht => by
        rw [Tryd.params5] at ht
        have hm : t ∈ [27] := by simpa using Array.mem_of_getElem? ht
        have hall : ([27].all fun u => !Tryd.prog.wantsStandIn u) = true := by kernel_rfl
        exact (show Tryd.prog.wantsStandIn t = false by simpa using List.all_eq_true.1 hall t hm)⟩)
    (by kernel_rfl)
#print axioms fnWords_holds

end Go.Proofs.YtfdmkbdcabedoaaDoor
