/-
  The contracts of the functions on tides: szTide, toTide, eqTide, TideOk (the program's and the reference's).
-/
import Derived.Test.YtmhiohijpnmcpaaPartOk
import Derived.Test.YtmhiohijpnmcpaaTPart
namespace Go.Proofs.Ytmhiohijpnmcpaa
open Go.RowKit

theorem all_next {α : Type} {f : α → Bool} {ps : List α} {k : Nat} {p : α} (h : (ps.take k).all f = true) (hp : ps[k]? = some p) (hf : f p = true) : (ps.take (k + 1)).all f = true := by
  have hl : k < ps.length := (List.getElem?_eq_some_iff.1 hp).1
  have hv : ps[k] = p := (List.getElem?_eq_some_iff.1 hp).2
  rw [List.take_succ_eq_append_getElem hl, List.all_append, h, hv]
  simp [hf]
theorem all_false {α : Type} {f : α → Bool} {ps : List α} {k : Nat} {p : α} (hp : ps[k]? = some p) (hf : f p = false) : ps.all f = false := by
  rw [List.all_eq_false]
  exact ⟨p, List.mem_of_getElem? hp, by simp [hf]⟩

set_option maxHeartbeats 1000000 in
theorem implTideOk_any (m : Int) (A : Option Addr) (c : Nat) (ps : List Part) (w : World) (hr : Rd w w.heap.size Part.at_ 3 A ps) (hwf : ∀ p ∈ ps, p.wf) (hlen : ps.length ≤ 1048576) :
    Calls Try.prog 53 #[.agg #[.int .i64 m, .slice A ps.length c]] w fun e w' => e = .returned (.bool (tideOk m ps)) ∧ Below w.heap.size w w' := by
  cases h1 : inB m (-1000) 1000
  · go_enter Try.func53, Try.ntmps53
    go_wp2_with (go_at_call 54; refine (within_any _ _ _ _).mono ?_; rintro e w' ⟨rfl, rfl⟩)
    go_ret
    refine ⟨ret_bool (by simp [tideOk, h1]), ?_⟩
    repeat (first | exact Below.refl _ _ | assumption | refine Below.alloc ?_ (by simp <;> omega) _ | refine Below.setCell ?_ (by simp <;> omega) _ | refine Below.drew ?_)
  by_cases h2 : 4 < ps.length
  · go_enter Try.func53, Try.ntmps53
    go_wp2_with (go_at_call 54; refine (within_any _ _ _ _).mono ?_; rintro e w' ⟨rfl, rfl⟩)
    go_ret
    refine ⟨ret_bool (by simp [tideOk, h1]; omega), ?_⟩
    repeat (first | exact Below.refl _ _ | assumption | refine Below.alloc ?_ (by simp <;> omega) _ | refine Below.setCell ?_ (by simp <;> omega) _ | refine Below.drew ?_)
  have hlen4 : ps.length ≤ 4 := by omega
  clear h2
  go_enter Try.func53, Try.ntmps53
  go_wp2_with (go_at_call 54; refine (within_any _ _ _ _).mono ?_; rintro e w' ⟨rfl, rfl⟩)
  go_loopw [18] (fun i wr => ∃ k : Nat, k ≤ ps.length ∧ i = .int .i64 k ∧ (ps.take k).all partOk = true ∧ Below w.heap.size w wr) (fun i _ => ps.length - (intOf i).toNat)
  case atStart => exact ⟨0, Nat.zero_le _, rfl, by simp, (Below.refl _ _).alloc (Nat.le_refl _) _⟩
  case round =>
    obtain ⟨k, hk, rfl, hall, hbel⟩ := hrel
    have HA := Lib.hid hall
    clear hall
    have hs := hbel.size
    by_cases hlt : k < ps.length
    · obtain ⟨g, off, rfl, hg, hc⟩ := hr (by omega)
      obtain ⟨p, hp⟩ : ∃ p, ps[k]? = some p := ⟨_, List.getElem?_eq_getElem hlt⟩
      have c0 := (hbel.cell (p := ⟨g, off + k * 3 + 0, none⟩) hg).trans (hc k p hp 0 (by omega))
      have c1 := (hbel.cell (p := ⟨g, off + k * 3 + 1, none⟩) hg).trans (hc k p hp 1 (by omega))
      have c2 := (hbel.cell (p := ⟨g, off + k * 3 + 2, none⟩) hg).trans (hc k p hp 2 (by omega))
      simp only [Part.at_, Nat.add_zero] at c0 c1 c2
      have HC := Lib.hid hc
      have HR := Lib.hid hr
      have HP := Lib.hid hp
      clear hc hr hp
      have hpw := (hwf p (List.mem_of_getElem? HP.out)).2.1
      cases hpk : partOk p
      · have HF := Lib.hid (all_false HP.out hpk)
        go_wp2_with (go_at_call 88; refine (implPartOk_any p _ hpw).mono ?_; rintro e w' ⟨rfl, hb⟩)
        go_ret
        refine ⟨ret_bool (by simp [tideOk, h1, HF.out]), ?_⟩
        exact (hbel.alloc hs _).trans (hb.mono (by simp; omega))
      · have HT := Lib.hid (all_next HA.out HP.out hpk)
        go_wp2_with (go_at_call 88; refine (implPartOk_any p _ hpw).mono ?_; rintro e w' ⟨rfl, hb⟩)
        go_roundw
        case rel => exact ⟨k + 1, by omega, by go_num, HT.out, (hbel.alloc hs _).trans (hb.mono (by simp; omega))⟩
        case measure => simp [intOf]; omega
    · have hk' : k = ps.length := by omega
      subst hk'
      have HF := HA.out
      rw [List.take_length] at HF
      go_wp2_with fail
      go_ret
      exact ⟨ret_bool (by simp [tideOk, h1, HF, hlen4]), hbel⟩

set_option maxHeartbeats 1000000 in
theorem specTideOk_any (m : Int) (A : Option Addr) (c : Nat) (ps : List Part) (w : World) (hr : Rd w w.heap.size Part.at_ 3 A ps) (hwf : ∀ p ∈ ps, p.wf) (hlen : ps.length ≤ 1048576) :
    Calls Try.prog 48 #[.agg #[.int .i64 m, .slice A ps.length c]] w fun e w' => e = .returned (.bool (tideOk m ps)) ∧ Below w.heap.size w w' := by
  cases h1 : inB m (-1000) 1000
  · go_enter Try.func48, Try.ntmps48
    go_wp2_with (go_at_call 49; refine (l01In_any _ _ _ _).mono ?_; rintro e w' ⟨rfl, rfl⟩)
    go_ret
    refine ⟨ret_bool (by simp [tideOk, h1]), ?_⟩
    repeat (first | exact Below.refl _ _ | assumption | refine Below.alloc ?_ (by simp <;> omega) _ | refine Below.setCell ?_ (by simp <;> omega) _ | refine Below.drew ?_)
  by_cases h2 : 4 < ps.length
  · go_enter Try.func48, Try.ntmps48
    go_wp2_with (go_at_call 49; refine (l01In_any _ _ _ _).mono ?_; rintro e w' ⟨rfl, rfl⟩)
    go_ret
    refine ⟨ret_bool (by simp [tideOk, h1]; omega), ?_⟩
    repeat (first | exact Below.refl _ _ | assumption | refine Below.alloc ?_ (by simp <;> omega) _ | refine Below.setCell ?_ (by simp <;> omega) _ | refine Below.drew ?_)
  have hlen4 : ps.length ≤ 4 := by omega
  clear h2
  go_enter Try.func48, Try.ntmps48
  go_wp2_with (go_at_call 49; refine (l01In_any _ _ _ _).mono ?_; rintro e w' ⟨rfl, rfl⟩)
  go_loopw [18] (fun i wr => ∃ k : Nat, k ≤ ps.length ∧ i = .int .i64 k ∧ (ps.take k).all partOk = true ∧ Below w.heap.size w wr) (fun i _ => ps.length - (intOf i).toNat)
  case atStart => exact ⟨0, Nat.zero_le _, rfl, by simp, (Below.refl _ _).alloc (Nat.le_refl _) _⟩
  case round =>
    obtain ⟨k, hk, rfl, hall, hbel⟩ := hrel
    have HA := Lib.hid hall
    clear hall
    have hs := hbel.size
    by_cases hlt : k < ps.length
    · obtain ⟨g, off, rfl, hg, hc⟩ := hr (by omega)
      obtain ⟨p, hp⟩ : ∃ p, ps[k]? = some p := ⟨_, List.getElem?_eq_getElem hlt⟩
      have c0 := (hbel.cell (p := ⟨g, off + k * 3 + 0, none⟩) hg).trans (hc k p hp 0 (by omega))
      have c1 := (hbel.cell (p := ⟨g, off + k * 3 + 1, none⟩) hg).trans (hc k p hp 1 (by omega))
      have c2 := (hbel.cell (p := ⟨g, off + k * 3 + 2, none⟩) hg).trans (hc k p hp 2 (by omega))
      simp only [Part.at_, Nat.add_zero] at c0 c1 c2
      have HC := Lib.hid hc
      have HR := Lib.hid hr
      have HP := Lib.hid hp
      clear hc hr hp
      have hpw := (hwf p (List.mem_of_getElem? HP.out)).2.1
      cases hpk : partOk p
      · have HF := Lib.hid (all_false HP.out hpk)
        go_wp2_with (go_at_call 85; refine (specPartOk_any p _ hpw).mono ?_; rintro e w' ⟨rfl, hb⟩)
        go_ret
        refine ⟨ret_bool (by simp [tideOk, h1, HF.out]), ?_⟩
        exact (hbel.alloc hs _).trans (hb.mono (by simp; omega))
      · have HT := Lib.hid (all_next HA.out HP.out hpk)
        go_wp2_with (go_at_call 85; refine (specPartOk_any p _ hpw).mono ?_; rintro e w' ⟨rfl, hb⟩)
        go_roundw
        case rel => exact ⟨k + 1, by omega, by go_num, HT.out, (hbel.alloc hs _).trans (hb.mono (by simp; omega))⟩
        case measure => simp [intOf]; omega
    · have hk' : k = ps.length := by omega
      subst hk'
      have HF := HA.out
      rw [List.take_length] at HF
      go_wp2_with fail
      go_ret
      exact ⟨ret_bool (by simp [tideOk, h1, HF, hlen4]), hbel⟩


/-- A call that hands back a tide whose parts lie in a slice of its own. -/
def ResTide (m : Int) (ps : List Part) (w : World) (e : Ending) (w' : World) : Prop :=
  ∃ A c, e = .returned (.agg #[.int .i64 m, .slice A ps.length c]) ∧ Sl w' w.heap.size w'.heap.size A 91 Part.at_ 3 ps ∧ Below w.heap.size w w'

set_option maxHeartbeats 1000000 in
theorem szTide_any (m : Int) (A : Option Addr) (c : Nat) (ps : List Part) (l : Int) (hn : ps.length ≤ 9223372036854775807) (h0 : 0 ≤ l) (h1 : l ≤ 1048576) (w : World) :
    Calls Try.prog 46 #[.agg #[.int .i64 m, .slice A ps.length c], .int .i64 l] w (SzPost l ps.length w) := by
  go_enter Try.func46, Try.ntmps46
  go_wp2_with fail
  refine (szPartS_any _ _ _ _ hn h0 h1 _).mono ?_
  rintro e w1 ⟨r, rfl, hr1, hr2, hb1⟩
  by_cases hneg : r < 0
  all_goals
    go_wp2_with fail
    go_ret
  · exact ⟨-1, rfl, by omega, by omega, ((Below.refl _ _).alloc (Nat.le_refl _) _).trans (hb1.mono (by simp))⟩
  · exact ⟨r, rfl, hr1, hr2, ((Below.refl _ _).alloc (Nat.le_refl _) _).trans (hb1.mono (by simp))⟩

set_option maxHeartbeats 1000000 in
theorem toTide_any (m : Int) (A : Option Addr) (c : Nat) (ps : List Part) (w : World) (hr : Rd w w.heap.size Part.at_ 3 A ps) (hlen : ps.length ≤ 1048576) :
    Calls Try.prog 51 #[.agg #[.int .i64 m, .slice A ps.length c]] w (ResTide m ps w) := by
  have hrd : ∀ o1 o2 o3, Rd (((w.alloc o1).alloc o2).alloc o3) (((w.alloc o1).alloc o2).alloc o3).heap.size Part.at_ 3 A ps := fun o1 o2 o3 =>
    (((hr.alloc (Nat.le_refl _) o1).alloc (by simp) o2).alloc (by simp; omega) o3).more (by simp; omega)
  have hk1 : ∀ o1 cs2 cs3, Blk (((w.alloc o1).alloc (.cells cs2 32)).alloc (.cells cs3 32)) (w.heap.size + 1) 32 cs2 := fun o1 cs2 cs3 => by
    have := (Blk.new (w.alloc o1) 32 cs2).alloc (.cells cs3 32)
    simpa using this
  have hk2 : ∀ o1 o2 cs3, Blk (((w.alloc o1).alloc o2).alloc (.cells cs3 32)) (w.heap.size + 2) 32 cs3 := fun o1 o2 cs3 => by
    have := Blk.new ((w.alloc o1).alloc o2) 32 cs3
    simpa using this
  have HRD := Lib.hid hrd
  have HK1 := Lib.hid hk1
  have HK2 := Lib.hid hk2
  clear hrd hk1 hk2
  go_enter Try.func51, Try.ntmps51
  go_wp2_with fail
  refine (toPartS_any _ _ _ _ (HRD.out _ _ _) hlen).mono ?_
  rintro e w1 ⟨rfl, hhas, hb1⟩
  have k1 := (HK1.out _ _ _).next hb1
  have k2 := (HK2.out _ _ _).next hb1
  have a0 := k1.cell 0
  have a1 := k1.cell 1
  have f0 := k1.frozen 0
  have f1 := k1.frozen 1
  have b0 := k2.cell 0
  have b1 := k2.cell 1
  have g1 := k2.frozen 1
  have hz := hb1.size
  have hlt := hhas.lt
  simp at hz hlt
  have hsl := hhas.sl (lo := w.heap.size + 3) (hi := w1.heap.size) (by simp) hhas.lt
  have HSL := Lib.hid hsl
  have HB := Lib.hid hb1
  clear hsl hhas hb1 k1 k2
  go_wp2_with fail
  refine bodyPost_ret (v := .agg #[.int .i64 m, .slice (some ⟨w.heap.size + 1 + 1 + 1, 0, none⟩) ps.length ps.length]) ?_ rfl ?_
  · simp [results, Try.results51, go_sem, a0, a1]
  · refine ⟨_, _, rfl, ?_, ?_⟩
    · have h1 := HSL.out.setCell (p := ⟨w.heap.size + 1 + 1, 1, none⟩) (.inl (by show w.heap.size + 1 + 1 < w.heap.size + 3; omega)) (.slice (some ⟨w.heap.size + 1 + 1 + 1, 0, none⟩) ps.length ps.length)
      have h2 := h1.setCell (p := ⟨w.heap.size + 1, 0, none⟩) (.inl (by show w.heap.size + 1 < w.heap.size + 3; omega)) (.int .i64 m)
      have h3 := h2.setCell (p := ⟨w.heap.size + 1, 1, none⟩) (.inl (by show w.heap.size + 1 < w.heap.size + 3; omega)) (.slice (some ⟨w.heap.size + 1 + 1 + 1, 0, none⟩) ps.length ps.length)
      have h4 := h3.mono (lo' := w.heap.size) (hi' := w1.heap.size) (by omega) (Nat.le_refl _)
      simpa using h4
    · have hB : Below w.heap.size w w1 := ((((Below.refl _ _).alloc (Nat.le_refl _) _).alloc (by simp) _).alloc (by simp; omega) _).trans (HB.out.mono (by simp; omega))
      exact ((hB.setCell (by show w.heap.size ≤ w.heap.size + 1 + 1; omega) _).setCell (by show w.heap.size ≤ w.heap.size + 1; omega) _).setCell (by show w.heap.size ≤ w.heap.size + 1; omega) _

end Go.Proofs.Ytmhiohijpnmcpaa
