/-
  The contracts of AmplitudeOf, LevelAt, eqTide and slices.Equal at parts.
-/
import Derived.Test.YtmhiohijpnmcpaaLevel
import Derived.Laws.StructEq
namespace Go.Proofs.Ytmhiohijpnmcpaa
open Go.RowKit

set_option maxHeartbeats 1000000 in
theorem eqTide_same (m : Int) (A A' : Option Addr) (c c' : Nat) (ps : List Part) (w : World) (hr : Rd w w.heap.size Part.at_ 3 A ps) (hr' : Rd w w.heap.size Part.at_ 3 A' ps) (hlen : ps.length ≤ 1048576) :
    Calls Try.prog 56 #[.agg #[.int .i64 m, .slice A ps.length c], .agg #[.int .i64 m, .slice A' ps.length c']] w fun e w' => e = .returned (.bool true) ∧ Below w.heap.size w w' := by
  have hr1 : ∀ o1 o2, Rd ((w.alloc o1).alloc o2) ((w.alloc o1).alloc o2).heap.size Part.at_ 3 A ps := fun o1 o2 => ((hr.alloc (Nat.le_refl _) o1).alloc (by simp) o2).more (by simp; omega)
  have hr2 : ∀ o1 o2, Rd ((w.alloc o1).alloc o2) ((w.alloc o1).alloc o2).heap.size Part.at_ 3 A' ps := fun o1 o2 => ((hr'.alloc (Nat.le_refl _) o1).alloc (by simp) o2).more (by simp; omega)
  go_enter Try.func56, Try.ntmps56
  go_wp2_with fail
  refine (eqPartS_same _ _ _ _ _ _ (hr1 _ _) (hr2 _ _) hlen).mono ?_
  rintro e w1 ⟨rfl, hb1⟩
  go_wp2_with fail
  go_ret
  exact ⟨rfl, (((Below.refl _ _).alloc (Nat.le_refl _) _).alloc (by simp) _).trans (hb1.mono (by simp; omega))⟩

set_option maxHeartbeats 1000000 in
theorem implLevelAt_any (m : Int) (A : Option Addr) (c : Nat) (ps : List Part) (t : Int) (w : World) (hr : Rd w w.heap.size Part.at_ 3 A ps) (hwf : ∀ p ∈ ps, p.wf) (hlen : ps.length ≤ 1048576) :
    Calls Try.prog 42 #[.agg #[.int .i64 m, .slice A ps.length c], .int .i64 t] w fun e w' => e = .returned (.int .i64 (levelF m ps t)) ∧ Below w.heap.size w w' := by
  have hr1 : ∀ o, Rd (w.alloc o) (w.alloc o).heap.size Part.at_ 3 A ps := fun o => (hr.alloc (Nat.le_refl _) o).more (by simp)
  have hk0 := Blk.new w 32 #[.int .i64 m, .slice A ps.length c]
  have hB0 : Below w.heap.size w (w.alloc (.cells #[.int .i64 m, .slice A ps.length c] 32)) := (Below.refl _ _).alloc (Nat.le_refl _) _
  go_enter Try.func42, Try.ntmps42
  go_wp2_with fail
  refine (implTideOk_any _ _ _ _ _ (hr1 _) hwf hlen).mono ?_
  rintro e w1 ⟨rfl, hb1⟩
  have hk1 := hk0.next hb1
  have hB1 := hB0.trans (hb1.mono hB0.size)
  have c0 := hk1.cell 0
  have c1 := hk1.cell 1
  have hs1 := hB1.size
  cases hok : tideOk m ps
  · go_wp2_with fail
    go_ret
    exact ⟨ret_int (by simp [levelF, hok]), hB1⟩
  cases ht : inB t 0 2880
  · go_wp2_with (go_at_call 59; refine (isMinute_any _ _).mono ?_; rintro e w' ⟨rfl, rfl⟩)
    go_ret
    exact ⟨ret_int (by simp [levelF, ht]), hB1⟩
  have hb := inB_true ht
  have HR2 := Lib.hid ((hr.below hB1).more hs1)
  have HR1 := Lib.hid hr1
  have HR := Lib.hid hr
  clear hr hr1
  go_wp2_with (first
    | (go_at_call 59; refine (isMinute_any _ _).mono ?_; rintro e w' ⟨rfl, rfl⟩)
    | (go_at_call 83; refine (implLevel_any _ _ _ _ _ _ HR2.out hok hb.1 hb.2).mono ?_; rintro e w2 ⟨rfl, hb2⟩))
  go_ret
  exact ⟨ret_int (by rw [levelF, if_pos ⟨hok, ht⟩]), hB1.trans (hb2.mono hs1)⟩

set_option maxRecDepth 100000 in
theorem stoodPart : Try.prog.stoodInHeld 91 = false := by kernel_rfl
set_option maxRecDepth 100000 in
theorem fieldsPart : Try.prog.underlying 91 = some (.struct (Try.prog.fieldsOf 91)) := by kernel_rfl
set_option maxRecDepth 100000 in
theorem fldsPart : ∃ f0 f1 f2 : Field, Try.prog.fieldsOf 91 = #[f0, f1, f2] ∧ f0.type = 3 ∧ f1.type = 3 ∧ f2.type = 3 ∧ f0.offset = 0 ∧ f1.offset = 1 ∧ f2.offset = 2 ∧ f0.name ≠ "_" ∧ f1.name ≠ "_" ∧ f2.name ≠ "_" := by
  refine ⟨_, _, _, rfl, rfl, rfl, rfl, rfl, rfl, rfl, ?_, ?_, ?_⟩ <;> decide

theorem partNeq (p q : Part) (w : World) : (binOp .neq 91 (.agg #[.int .i64 p.amp, .int .i64 p.period, .int .i64 p.phase]) (.agg #[.int .i64 q.amp, .int .i64 q.period, .int .i64 q.phase])).run Try.prog w = .ok (.bool (!(p.eqB q))) w := by
  rw [run_neq_struct, run_equalIn_agg w _ _ _ _ fieldsPart stoodPart]
  obtain ⟨f0, f1, f2, hf, h0, h1, h2, o0, o1, o2, n0, n1, n2⟩ := fldsPart
  rw [hf]
  simp [Op.eqFields, h0, h1, h2, o0, o1, o2, n0, n1, n2, go_sem]
  unfold Part.eqB
  by_cases e0 : p.amp = q.amp
  · by_cases e1 : p.period = q.period
    · by_cases e2 : p.phase = q.phase <;> simp [e0, e1, e2]
    · simp [e0, e1]
  · simp [e0]

set_option maxHeartbeats 1000000 in
theorem equalParts_any (A A' : Option Addr) (c c' : Nat) (ps qs : List Part) (w : World) (hr : Rd w w.heap.size Part.at_ 3 A ps) (hr' : Rd w w.heap.size Part.at_ 3 A' qs) (hlen : ps.length ≤ 1048576) (hlen' : qs.length ≤ 1048576) :
    Calls Try.prog 95 #[.slice A ps.length c, .slice A' qs.length c'] w fun e w' => e = .returned (.bool (sameL ps qs)) ∧ Below w.heap.size w w' := by
  by_cases hl : ps.length = qs.length
  case neg =>
    have HX := Lib.hid (sameL_no hl)
    have t1 : ((ps.length : Int) == (qs.length : Int)) = false := by simp; omega
    have t2 : ((ps.length : Int) != (qs.length : Int)) = true := by simp; omega
    clear hl
    go_enter Try.func95, Try.ntmps95
    go_wp2_with fail
    go_ret
    exact ⟨ret_bool HX.out.symm, Below.refl _ _⟩
  have HL := Lib.hid hl
  have t1 : ((ps.length : Int) == (qs.length : Int)) = true := by simp; omega
  have t2 : ((ps.length : Int) != (qs.length : Int)) = false := by simp; omega
  clear hl
  have hneq := partNeq
  go_enter Try.func95, Try.ntmps95
  go_wp2_with fail
  go_loopw [13] (fun i wr => ∃ k : Nat, k ≤ ps.length ∧ i = .int .i64 k ∧ sameL ps qs = sameL (ps.drop k) (qs.drop k) ∧ Below w.heap.size w wr) (fun i _ => ps.length - (intOf i).toNat)
  case atStart => exact ⟨0, Nat.zero_le _, rfl, rfl, Below.refl _ _⟩
  case round =>
    obtain ⟨k, hk, rfl, hsm, hbel⟩ := hrel
    have hs := hbel.size
    have HS := Lib.hid hsm
    clear hsm
    by_cases hlt : k < ps.length
    · have hlq : k < qs.length := by have := HL.out; omega
      obtain ⟨g, off, rfl, hg, hc⟩ := hr (by omega)
      obtain ⟨g', off', rfl, hg', hc'⟩ := hr' (by omega)
      obtain ⟨q, hq⟩ : ∃ q, qs[k]? = some q := ⟨_, List.getElem?_eq_getElem hlq⟩
      have d0 := (hbel.cell (p := ⟨g', off' + k * 3 + 0, none⟩) hg').trans (hc' k q hq 0 (by omega))
      have d1 := (hbel.cell (p := ⟨g', off' + k * 3 + 1, none⟩) hg').trans (hc' k q hq 1 (by omega))
      have d2 := (hbel.cell (p := ⟨g', off' + k * 3 + 2, none⟩) hg').trans (hc' k q hq 2 (by omega))
      simp only [Part.at_, Nat.add_zero] at d0 d1 d2
      obtain ⟨p, hp⟩ : ∃ p, ps[k]? = some p := ⟨_, List.getElem?_eq_getElem hlt⟩
      have c0 := (hbel.cell (p := ⟨g, off + k * 3 + 0, none⟩) hg).trans (hc k p hp 0 (by omega))
      have c1 := (hbel.cell (p := ⟨g, off + k * 3 + 1, none⟩) hg).trans (hc k p hp 1 (by omega))
      have c2 := (hbel.cell (p := ⟨g, off + k * 3 + 2, none⟩) hg).trans (hc k p hp 2 (by omega))
      simp only [Part.at_, Nat.add_zero] at c0 c1 c2
      have HC := Lib.hid hc
      have HR := Lib.hid hr
      have HP := Lib.hid hp
      clear hc hr hp
      have hk0 : (0 : Int) ≤ (k : Int) := Int.natCast_nonneg _
      have hk1 : (k : Int) < (ps.length : Int) := by omega
      have hk2 : (k : Int) < (qs.length : Int) := by omega
      have HC' := Lib.hid hc'
      have HR' := Lib.hid hr'
      have HQ := Lib.hid hq
      have HNE := Lib.hid hneq
      clear hc' hr' hq hneq
      have hne : ∀ W, (binOp .neq 91 (.agg #[.int .i64 p.amp, .int .i64 p.period, .int .i64 p.phase]) (.agg #[.int .i64 q.amp, .int .i64 q.period, .int .i64 q.phase])).run Try.prog W = .ok (.bool (!(p.eqB q))) W := fun W => HNE.out p q W
      cases he : p.eqB q
      · have HX := Lib.hid (sameL_bad HS.out HP.out HQ.out he)
        go_wp2_with fail
        go_quiet (fail)
        go_wp2
        go_ret
        exact ⟨ret_bool HX.out.symm, hbel.drewN _⟩
      · have HX := Lib.hid (sameL_next HS.out HP.out HQ.out he)
        go_wp2_with fail
        go_quiet (fail)
        go_wp2
        go_roundw
        case rel => exact ⟨k + 1, by omega, by go_num, HX.out, hbel.drewN _⟩
        case measure => simp [intOf]; omega
    · have hk' : k = ps.length := by omega
      subst hk'
      have HX := Lib.hid (sameL_done HS.out HL.out)
      go_wp2_with fail
      go_ret
      exact ⟨ret_bool HX.out.symm, hbel⟩

end Go.Proofs.Ytmhiohijpnmcpaa
