/-
  The contract of GatherWindows, the reference's.
-/
import Derived.Test.YtfcdnaaecfhddaaWinOfS
import Derived.Test.YtfcdnaaecfhddaaModelV
namespace Go.Proofs.Ytfcdnaaecfhddaa
open Go.RowKit

/-- A row of 2881 marks. -/
def RowB (cs : Array Value) (g : Nat → Bool) : Prop := cs.size = 2881 ∧ ∀ j, j < 2881 → cs[j]? = some (.bool (g j))
theorem RowB.set_ {cs : Array Value} {g h : Nat → Bool} (r : RowB cs g) (i : Nat) (b : Bool) (hb : ∀ j, j < 2881 → h j = if j = i then b else g j) : RowB (cs.setIfInBounds i (.bool b)) h := by
  refine ⟨by simpa using r.1, fun j hj => ?_⟩
  rw [hb j hj]
  by_cases e : j = i
  · subst e
    rw [if_pos rfl, Array.getElem?_setIfInBounds_self_of_lt (by rw [r.1]; exact hj)]
  · rw [if_neg e, Array.getElem?_setIfInBounds_ne (fun h => e h.symm)]
    exact r.2 j hj
theorem RowB.congr {cs : Array Value} {g h : Nat → Bool} (r : RowB cs g) (e : ∀ j, j < 2881 → h j = g j) : RowB cs h := ⟨r.1, fun j hj => by rw [e j hj]; exact r.2 j hj⟩
theorem hasMin_next {ps : List Window} {k : Nat} {p : Window} (hp : ps[k]? = some p) (m : Int) : hasMin (ps.take (k + 1)) m = (hasMin (ps.take k) m || inB m p.frm p.to_) := by
  have hl : k < ps.length := (List.getElem?_eq_some_iff.1 hp).1
  have hv : ps[k] = p := (List.getElem?_eq_some_iff.1 hp).2
  rw [List.take_succ_eq_append_getElem hl, hv, hasMin_snoc]

theorem infoBool : (Try.prog.info? 4).map (fun i => (i.zero, i.size, i.bytes)) = some (some (.bool false), 1, 1) := by kernel_rfl

set_option maxHeartbeats 4000000 in
theorem specGatherWindows_any (A : Option Addr) (c : Nat) (ps : List Window) (w : World) (hr : Rd w w.heap.size Window.at_ 2 A ps) (hlen : ps.length ≤ 1048576) :
    Calls Try.prog 32 #[.slice A ps.length c] w (ResSl 41 Window.at_ 2 (gatherF ps) w) := by
  obtain ⟨i0, hi, hz0, hz1, hz2⟩ := info_parts infoBool
  obtain ⟨cs0, hcs0⟩ : ∃ cs0, cs0 = madeCells #[Value.bool false] 2881 := ⟨_, rfl⟩
  have hmk : ∀ w, (Instr.makeSlice 49 (.int .i64 2881) (.int .i64 2881)).run Try.prog w = .ok (.slice (some ⟨w.heap.size, 0, none⟩) 2881 2881) (w.alloc (.cells cs0 4)) := by
    rw [hcs0]
    exact run_make_n (P := Try.prog) 49 4 i0 _ 1 1 Try.underlying49 hi hz0 hz1 hz2 2881 (by omega) (by omega)
  have HR0 : Hid (RowB cs0 fun j => hasMin (ps.take 0) j) := Lib.hid (by
    rw [hcs0]
    refine ⟨by rw [size_madeCells], fun j hj => ?_⟩
    rw [← Array.getElem?_toList, toList_madeCells_one, List.getElem?_replicate, if_pos hj]
    simp [hasMin])
  clear hi hz0 hz1 hz2 hcs0
  go_enter Try.func32, Try.ntmps32
  go_wp2_with fail
  go_loopw [10] (fun i wr => ∃ k : Nat, k ≤ ps.length ∧ i = .int .i64 k ∧ (∃ cs, Blk wr w.heap.size 4 cs ∧ RowB cs fun j => hasMin (ps.take k) j) ∧ Below w.heap.size w wr) (fun i _ => ps.length - (intOf i).toNat)
  case atStart => exact ⟨0, Nat.zero_le _, rfl, ⟨cs0, Blk.new _ _ _, HR0.out⟩, (Below.refl _ _).alloc (Nat.le_refl _) _⟩
  case round =>
    obtain ⟨k, hk, rfl, ⟨cs, hblk, hrow⟩, hbel⟩ := hrel
    obtain ⟨wo, hwo⟩ : ∃ wo, wo = wr := ⟨_, rfl⟩
    subst hwo
    have HROW := Lib.hid hrow
    have hs := hblk.lt
    have hs1 := hbel.size
    clear hrow
    by_cases hlt : k < ps.length
    · obtain ⟨g, off, rfl, hg, hc⟩ := hr (by omega)
      obtain ⟨p, hp⟩ : ∃ p, ps[k]? = some p := ⟨_, List.getElem?_eq_getElem hlt⟩
      have c0 := (hbel.cell (p := ⟨g, off + k * 2 + 0, none⟩) hg).trans (hc k p hp 0 (by omega))
      have c1 := (hbel.cell (p := ⟨g, off + k * 2 + 1, none⟩) hg).trans (hc k p hp 1 (by omega))
      simp only [Window.at_, Nat.add_zero] at c0 c1
      have HC := Lib.hid hc
      have HR := Lib.hid hr
      have HP := Lib.hid hp
      obtain ⟨a, b⟩ := p
      dsimp only at c0 c1
      clear hc hr hp
      have HB0 := Lib.hid (Blk.new wo 41 #[.int .i64 a, .int .i64 b])
      have HB1 := Lib.hid (hblk.alloc (.cells #[.int .i64 a, .int .i64 b] 41))
      have HE := Lib.hid (hbel.alloc hs1 (.cells #[.int .i64 a, .int .i64 b] 41))
      clear hblk
      obtain ⟨M, hM⟩ : ∃ M, M = max 0 a := ⟨_, rfl⟩
      have HM := Lib.hid hM
      clear hM
      have hstart : ∀ m : Int, m = M → ∃ m' : Int, Value.int .i64 m = .int .i64 m' ∧ M ≤ m' ∧ (m' = M ∨ (m' ≤ 2881 ∧ m' ≤ b + 1)) ∧ (∃ cs', Blk (wo.alloc (.cells #[.int .i64 a, .int .i64 b] 41)) w.heap.size 4 cs' ∧ RowB cs' fun j => hasMin (ps.take k) j || (decide (M ≤ (j : Int)) && decide ((j : Int) < m'))) ∧ Blk (wo.alloc (.cells #[.int .i64 a, .int .i64 b] 41)) wo.heap.size 41 #[.int .i64 a, .int .i64 b] ∧ Below w.heap.size w (wo.alloc (.cells #[.int .i64 a, .int .i64 b] 41)) := fun m hm =>
        ⟨m, rfl, by omega, .inl hm, ⟨cs, HB1.out, HROW.out.congr fun j hj => by
          cases hasMin (ps.take k) j
          · simp
            omega
          · simp⟩, HB0.out, HE.out⟩
      have HST := Lib.hid hstart
      clear hstart
      by_cases t : 0 < a
      all_goals
        go_wp2_with fail
        go_loopw [6] (fun f wr' => ∃ m : Int, f = .int .i64 m ∧ M ≤ m ∧ (m = M ∨ (m ≤ 2881 ∧ m ≤ b + 1)) ∧ (∃ cs, Blk wr' w.heap.size 4 cs ∧ RowB cs fun j => hasMin (ps.take k) j || (decide (M ≤ (j : Int)) && decide ((j : Int) < m))) ∧ Blk wr' wo.heap.size 41 #[.int .i64 a, .int .i64 b] ∧ Below w.heap.size w wr') (fun f _ => (2881 - intOf f).toNat)
        case atStart => exact HST.out _ (by rw [HM.out]; omega)
        case round =>
          obtain ⟨m, rfl, hm1, hm2, ⟨cs', hblk', hrow'⟩, hbx, hbel'⟩ := hrel
          have HR' := Lib.hid hrow'
          have hM0 : 0 ≤ M := by rw [HM.out]; omega
          have hs' := hbel'.size
          have hw0 := hblk'.lt
          have e0 := hbx.cell 0
          have e1 := hbx.cell 1
          clear HB0 HB1 HE hrow' c0 c1
          have hcase : (m ≤ b ∧ m ≤ 2880 ∧ b < 2880) ∨ (m ≤ b ∧ m ≤ 2880 ∧ ¬ b < 2880) ∨ (¬ m ≤ b ∧ b < 2880) ∨ (¬ m ≤ 2880 ∧ ¬ b < 2880) := by omega
          rcases hcase with ⟨t1, t2, tb⟩ | ⟨t1, t2, tb⟩ | ⟨t1, tb⟩ | ⟨t1, tb⟩
          · obtain ⟨q, rfl⟩ : ∃ q : Nat, m = q := ⟨m.toNat, by omega⟩
            have hq0 : (0 : Int) ≤ (q : Int) := by omega
            have hq1 : (q : Int) < 2881 := by omega
            have hq2 : q < 2881 := by omega
            have d0 := (hblk'.cell q).trans (HR'.out.2 q hq2)
            have f0 := hblk'.frozen q
            have HB2 := Lib.hid (hblk'.set_ q (.bool true))
            have HX2 := Lib.hid (hbx.far (p := ⟨w.heap.size, q, none⟩) (by simp; omega) (.bool true))
            clear hblk' hbx
            go_wp2_with fail
            go_roundw
            case rel =>
              refine ⟨(q : Int) + 1, by go_num, by omega, .inr ⟨by omega, by omega⟩, ⟨_, HB2.out, HR'.out.set_ q true fun j hj => ?_⟩, HX2.out, hbel'.setCell (Nat.le_refl _) _⟩
              by_cases e : j = q
              · subst e
                rw [if_pos rfl]
                have h1 : decide (M ≤ (j : Int)) = true := by simp; omega
                have h2 : decide ((j : Int) < (j : Int) + 1) = true := by simp; omega
                rw [h1, h2]
                simp
              · rw [if_neg e, show decide ((j : Int) < (q : Int) + 1) = decide ((j : Int) < (q : Int)) by simp; omega]
            case measure => simp [intOf]; omega
          · obtain ⟨q, rfl⟩ : ∃ q : Nat, m = q := ⟨m.toNat, by omega⟩
            have hq0 : (0 : Int) ≤ (q : Int) := by omega
            have hq1 : (q : Int) < 2881 := by omega
            have hq2 : q < 2881 := by omega
            have d0 := (hblk'.cell q).trans (HR'.out.2 q hq2)
            have f0 := hblk'.frozen q
            have HB2 := Lib.hid (hblk'.set_ q (.bool true))
            have HX2 := Lib.hid (hbx.far (p := ⟨w.heap.size, q, none⟩) (by simp; omega) (.bool true))
            clear hblk' hbx
            go_wp2_with fail
            go_roundw
            case rel =>
              refine ⟨(q : Int) + 1, by go_num, by omega, .inr ⟨by omega, by omega⟩, ⟨_, HB2.out, HR'.out.set_ q true fun j hj => ?_⟩, HX2.out, hbel'.setCell (Nat.le_refl _) _⟩
              by_cases e : j = q
              · subst e
                rw [if_pos rfl]
                have h1 : decide (M ≤ (j : Int)) = true := by simp; omega
                have h2 : decide ((j : Int) < (j : Int) + 1) = true := by simp; omega
                rw [h1, h2]
                simp
              · rw [if_neg e, show decide ((j : Int) < (q : Int) + 1) = decide ((j : Int) < (q : Int)) by simp; omega]
            case measure => simp [intOf]; omega
          · have HB2 := Lib.hid hblk'
            clear hblk' hbx
            go_wp2_with fail
            go_roundw
            case rel =>
              refine ⟨k + 1, by omega, by go_num, ⟨cs', HB2.out, HR'.out.congr fun j hj => ?_⟩, hbel'⟩
              have hMo := HM.out
              rw [hasMin_next HP.out]
              congr 1
              cases hin : inB (j : Int) a b
              · have := inB_false hin
                simp
                omega
              · have := inB_true hin
                simp
                omega
            case measure => simp [intOf]; omega
          · have HB2 := Lib.hid hblk'
            clear hblk' hbx
            go_wp2_with fail
            go_roundw
            case rel =>
              refine ⟨k + 1, by omega, by go_num, ⟨cs', HB2.out, HR'.out.congr fun j hj => ?_⟩, hbel'⟩
              have hMo := HM.out
              rw [hasMin_next HP.out]
              congr 1
              cases hin : inB (j : Int) a b
              · have := inB_false hin
                simp
                omega
              · have := inB_true hin
                simp
                omega
            case measure => simp [intOf]; omega
    · have hk2 : k = ps.length := by omega
      subst hk2
      obtain ⟨bs, hbs⟩ : ∃ bs : List Bool, bs = (List.range 2881).map fun j : Nat => hasMin ps (j : Int) := ⟨_, rfl⟩
      have hbl : bs.length = 2881 := by rw [hbs]; simp
      have hrd : Rd wo wo.heap.size boolAt 1 (some ⟨w.heap.size, 0, none⟩) bs := fun _ => ⟨w.heap.size, 0, rfl, hs, fun k x hx j hj => by
        have hk : k < 2881 := by
          have := (List.getElem?_eq_some_iff.1 hx).1
          omega
        have hj0 : j = 0 := by omega
        subst hj0
        rw [hbs] at hx
        simp [hk] at hx
        subst hx
        have h1 := HROW.out.2 k hk
        rw [List.take_length] at h1
        simp only [Nat.zero_add, Nat.mul_one, Nat.add_zero]
        exact (hblk.cell k).trans h1⟩
      have HF := Lib.hid (show gatherF ps = winsOf (bsAt bs) 2881 from winsOf_congr 2881 fun m hm => by
        rw [hbs, bsAt_some (b := hasMin ps m) (by simp [hm])])
      have HC := Lib.hid (specOf_any (some ⟨w.heap.size, 0, none⟩) 2881 bs wo hrd (by omega))
      rw [hbl] at HC
      clear hbs hbl hrd
      go_wp2_with fail
      refine HC.out.mono ?_
      rintro e w2 ⟨A2, c2, rfl, hsl, hb2⟩
      have hbn := hbel.trans (hb2.mono hs1)
      go_wp2_with fail
      go_ret
      exact ResSl.mk_ HF.out rfl (hsl.mono hs1 (Nat.le_refl _)) hbn

end Go.Proofs.Ytfcdnaaecfhddaa
