/-
  The contracts of the laws' helpers on charts: szChart, toChart, eqChart.
-/
import Derived.Test.YtjmfgncakegjaaaTPoint
import Derived.Test.YtjmfgncakegjaaaTSegment
namespace Go.Proofs.Ytjmfgncakegjaaa
open Go.RowKit

/-- What szX hands back for a struct of two slices: below 0, or what is left. -/
def SzPost2 (l : Int) (n n' : Nat) (w : World) (e : Ending) (w' : World) : Prop := ∃ r : Int, e = .returned (.int .i64 r) ∧ r ≤ l ∧ (0 ≤ r → (n : Int) ≤ l ∧ (n' : Int) ≤ l) ∧ Below w.heap.size w w'
/-- A call that hands back a chart whose lists lie in slices of its own. -/
def ResChart (ps : List Point) (ss : List Segment) (w : World) (e : Ending) (w' : World) : Prop :=
  ∃ A c A' c', e = .returned (.agg #[.slice A ps.length c, .slice A' ss.length c']) ∧ ss.length ≤ c' ∧ Sl w' w.heap.size w'.heap.size A 59 Point.at_ 2 ps ∧ Sl w' w.heap.size w'.heap.size A' 69 Segment.at_ 5 ss ∧ Below w.heap.size w w'

set_option maxHeartbeats 1000000 in
theorem szChart_any (A A' : Option Addr) (c c' : Nat) (ps : List Point) (ss : List Segment) (l : Int) (hn : ps.length ≤ 9223372036854775807) (hn' : ss.length ≤ 9223372036854775807) (h0 : 0 ≤ l) (h1 : l ≤ 1048576) (w : World) (hr : Rd w w.heap.size Point.at_ 2 A ps) (hwf : ∀ p ∈ ps, p.wf) :
    Calls Try.prog 13 #[.agg #[.slice A ps.length c, .slice A' ss.length c'], .int .i64 l] w (SzPost2 l ps.length ss.length w) := by
  have hr1 : ∀ o, Rd (w.alloc o) (w.alloc o).heap.size Point.at_ 2 A ps := fun o => (hr.alloc (Nat.le_refl _) o).more (by simp)
  have hk0 := Blk.new w 25 #[.slice A ps.length c, .slice A' ss.length c']
  have hB0 : Below w.heap.size w (w.alloc (.cells #[.slice A ps.length c, .slice A' ss.length c'] 25)) := (Below.refl _ _).alloc (Nat.le_refl _) _
  go_enter Try.func13, Try.ntmps13
  go_wp2_with fail
  refine (szPointS_any _ _ _ _ hn h0 h1 _ (hr1 _) hwf).mono ?_
  rintro e w1 ⟨r, rfl, hr2, hr3, hb1⟩
  have hB1 := hB0.trans (hb1.mono hB0.size)
  by_cases hneg : r < 0
  · go_wp2_with fail
    go_ret
    exact ⟨-1, rfl, by omega, by omega, hB1⟩
  have c1 := (hk0.next hb1).cell 1
  go_wp2_with fail
  refine (szSegmentS_any _ _ _ _ hn' (by omega) (by omega) _).mono ?_
  rintro e w2 ⟨r', rfl, hr4, hr5, hb2⟩
  by_cases hneg2 : r' < 0
  all_goals
    go_wp2_with fail
    go_ret
  · exact ⟨-1, rfl, by omega, by omega, hB1.trans (hb2.mono hB1.size)⟩
  · exact ⟨r', rfl, by omega, by omega, hB1.trans (hb2.mono hB1.size)⟩

set_option maxHeartbeats 2000000 in
theorem toChart_any (A A' : Option Addr) (c c' : Nat) (ps : List Point) (ss : List Segment) (w : World) (hr : Rd w w.heap.size Point.at_ 2 A ps) (hr' : Rd w w.heap.size Segment.at_ 5 A' ss) (hlen : ps.length ≤ 1048576) (hlen' : ss.length ≤ 1048576) :
    Calls Try.prog 15 #[.agg #[.slice A ps.length c, .slice A' ss.length c']] w (ResChart ps ss w) := by
  have hrd : ∀ o1 o2 o3, Rd (((w.alloc o1).alloc o2).alloc o3) (((w.alloc o1).alloc o2).alloc o3).heap.size Point.at_ 2 A ps := fun o1 o2 o3 =>
    (((hr.alloc (Nat.le_refl _) o1).alloc (by simp) o2).alloc (by simp; omega) o3).more (by simp; omega)
  have hk0 : ∀ cs1 o2 o3, Blk (((w.alloc (.cells cs1 25)).alloc o2).alloc o3) w.heap.size 25 cs1 := fun cs1 o2 o3 => ((Blk.new w _ cs1).alloc _).alloc _
  have hk1 : ∀ o1 cs2 cs3, Blk (((w.alloc o1).alloc (.cells cs2 31)).alloc (.cells cs3 31)) (w.heap.size + 1) 31 cs2 := fun o1 cs2 cs3 => by
    have := (Blk.new (w.alloc o1) 31 cs2).alloc (.cells cs3 31)
    simpa using this
  have hk2 : ∀ o1 o2 cs3, Blk (((w.alloc o1).alloc o2).alloc (.cells cs3 31)) (w.heap.size + 1 + 1) 31 cs3 := fun o1 o2 cs3 => by
    have := Blk.new ((w.alloc o1).alloc o2) 31 cs3
    simpa using this
  have hBA : ∀ o1 o2 o3, Below w.heap.size w (((w.alloc o1).alloc o2).alloc o3) := fun o1 o2 o3 => (((Below.refl _ _).alloc (Nat.le_refl _) _).alloc (by simp) _).alloc (by simp; omega) _
  have HRD := Lib.hid hrd
  have HK0 := Lib.hid hk0
  have HK1 := Lib.hid hk1
  have HK2 := Lib.hid hk2
  have HBA := Lib.hid hBA
  clear hrd hk0 hk1 hk2 hBA
  go_enter Try.func15, Try.ntmps15
  go_wp2_with fail
  refine (toPointS_any _ _ _ _ (HRD.out _ _ _) hlen).mono ?_
  rintro e w1 ⟨rfl, hhas, hb1⟩
  have hB1 := (HBA.out _ _ _).trans (hb1.mono (HBA.out _ _ _).size)
  have k0 := (HK0.out _ _ _).next hb1
  have k1 := (HK1.out _ _ _).next hb1
  have k2 := (HK2.out _ _ _).next hb1
  have a1 := k0.cell 1
  have b0 := k2.cell 0
  have g0 := k2.frozen 0
  have hz := hb1.size
  have hlt := hhas.lt
  simp at hz hlt
  have hsl := hhas.sl (lo := w.heap.size + 3) (hi := w1.heap.size) (by simp) hhas.lt
  have HSL := Lib.hid hsl
  have HB := Lib.hid hb1
  clear hsl hhas hb1
  have hrs : Rd (w1.setCell ⟨w.heap.size + 1 + 1, 0, none⟩ (.slice (some ⟨w.heap.size + 1 + 1 + 1, 0, none⟩) ps.length ps.length)) (w1.setCell ⟨w.heap.size + 1 + 1, 0, none⟩ (.slice (some ⟨w.heap.size + 1 + 1 + 1, 0, none⟩) ps.length ps.length)).heap.size Segment.at_ 5 A' ss :=
    ((hr'.below hB1).setCell (by show w.heap.size ≤ w.heap.size + 1 + 1; omega) _).more (by simp [World.setCell]; omega)
  go_wp2_with fail
  refine (toSegmentS_any _ _ _ _ hrs hlen').mono ?_
  rintro e w2 ⟨rfl, hhas2, hb2⟩
  have m1 := (k1.far (p := ⟨w.heap.size + 1 + 1, 0, none⟩) (by show w.heap.size + 1 ≠ w.heap.size + 1 + 1; omega) (.slice (some ⟨w.heap.size + 1 + 1 + 1, 0, none⟩) ps.length ps.length)).next hb2
  have m2 := (k2.set_ 0 (.slice (some ⟨w.heap.size + 1 + 1 + 1, 0, none⟩) ps.length ps.length)).next hb2
  have hsl1 := HSL.out.setCell (p := ⟨w.heap.size + 1 + 1, 0, none⟩) (.inl (by show w.heap.size + 1 + 1 < w.heap.size + 3; omega)) (.slice (some ⟨w.heap.size + 1 + 1 + 1, 0, none⟩) ps.length ps.length)
  have hsl2 := hsl1.next hb2
  have d0 := m2.cell 0
  have d1 := m2.cell 1
  have q1 := m2.frozen 1
  have p0 := m1.cell 0
  have p1 := m1.cell 1
  have l1 := m1.frozen 0
  have l2 := m1.frozen 1
  have hz2 := hb2.size
  have hsz : (w1.setCell ⟨w.heap.size + 1 + 1, 0, none⟩ (.slice (some ⟨w.heap.size + 1 + 1 + 1, 0, none⟩) ps.length ps.length)).heap.size = w1.heap.size := by simp [World.setCell]
  rw [hsz] at hhas2 hz2
  have hl2 := hhas2.lt
  have hsg := hhas2.sl (lo := w1.heap.size) (hi := w2.heap.size) (Nat.le_refl _) hl2
  have hB2 := (hB1.setCell (p := ⟨w.heap.size + 1 + 1, 0, none⟩) (by show w.heap.size ≤ w.heap.size + 1 + 1; omega) (.slice (some ⟨w.heap.size + 1 + 1 + 1, 0, none⟩) ps.length ps.length)).trans (hb2.mono (by rw [hsz]; omega))
  have HSL2 := Lib.hid hsl2
  have HSG := Lib.hid hsg
  have HB2 := Lib.hid hB2
  clear hsl2 hsg hB2 hhas2 hb2 hsl1 hB1 k0 k1 k2 m1 m2 hrs
  go_wp2_with fail
  refine bodyPost_ret (v := .agg #[.slice (some ⟨w.heap.size + 1 + 1 + 1, 0, none⟩) ps.length ps.length, .slice (some ⟨w1.heap.size, 0, none⟩) ss.length ss.length]) ?_ rfl ?_
  · simp [results, Try.results15, go_sem, p0, p1]
  · refine ⟨_, _, _, _, rfl, Nat.le_refl _, ?_, ?_, ?_⟩
    · have h1 := HSL2.out.setCell (p := ⟨w.heap.size + 1 + 1, 1, none⟩) (.inl (by show w.heap.size + 1 + 1 < w.heap.size + 3; omega)) (.slice (some ⟨w1.heap.size, 0, none⟩) ss.length ss.length)
      have h2 := h1.setCell (p := ⟨w.heap.size + 1, 0, none⟩) (.inl (by show w.heap.size + 1 < w.heap.size + 3; omega)) (.slice (some ⟨w.heap.size + 1 + 1 + 1, 0, none⟩) ps.length ps.length)
      have h3 := h2.setCell (p := ⟨w.heap.size + 1, 1, none⟩) (.inl (by show w.heap.size + 1 < w.heap.size + 3; omega)) (.slice (some ⟨w1.heap.size, 0, none⟩) ss.length ss.length)
      have h4 := h3.mono (lo' := w.heap.size) (hi' := w2.heap.size) (by omega) (by omega)
      simpa using h4
    · have h1 := HSG.out.setCell (p := ⟨w.heap.size + 1 + 1, 1, none⟩) (.inl (by show w.heap.size + 1 + 1 < w1.heap.size; omega)) (.slice (some ⟨w1.heap.size, 0, none⟩) ss.length ss.length)
      have h2 := h1.setCell (p := ⟨w.heap.size + 1, 0, none⟩) (.inl (by show w.heap.size + 1 < w1.heap.size; omega)) (.slice (some ⟨w.heap.size + 1 + 1 + 1, 0, none⟩) ps.length ps.length)
      have h3 := h2.setCell (p := ⟨w.heap.size + 1, 1, none⟩) (.inl (by show w.heap.size + 1 < w1.heap.size; omega)) (.slice (some ⟨w1.heap.size, 0, none⟩) ss.length ss.length)
      have h4 := h3.mono (lo' := w.heap.size) (hi' := w2.heap.size) (by omega) (Nat.le_refl _)
      simpa using h4
    · exact ((HB2.out.setCell (by show w.heap.size ≤ w.heap.size + 1 + 1; omega) _).setCell (by show w.heap.size ≤ w.heap.size + 1; omega) _).setCell (by show w.heap.size ≤ w.heap.size + 1; omega) _

set_option maxHeartbeats 1000000 in
theorem eqChart_same (A A' B B' : Option Addr) (c c' d d' : Nat) (ps : List Point) (ss : List Segment) (w : World) (hr : Rd w w.heap.size Point.at_ 2 A ps) (hr' : Rd w w.heap.size Segment.at_ 5 A' ss) (hs : Rd w w.heap.size Point.at_ 2 B ps) (hs' : Rd w w.heap.size Segment.at_ 5 B' ss) (hlen : ps.length ≤ 1048576) (hlen' : ss.length ≤ 1048576) :
    Calls Try.prog 17 #[.agg #[.slice A ps.length c, .slice A' ss.length c'], .agg #[.slice B ps.length d, .slice B' ss.length d']] w fun e w' => e = .returned (.bool true) ∧ Below w.heap.size w w' := by
  have hr1 : ∀ o1 o2, Rd ((w.alloc o1).alloc o2) ((w.alloc o1).alloc o2).heap.size Point.at_ 2 A ps := fun o1 o2 => ((hr.alloc (Nat.le_refl _) o1).alloc (by simp) o2).more (by simp; omega)
  have hr2 : ∀ o1 o2, Rd ((w.alloc o1).alloc o2) ((w.alloc o1).alloc o2).heap.size Point.at_ 2 B ps := fun o1 o2 => ((hs.alloc (Nat.le_refl _) o1).alloc (by simp) o2).more (by simp; omega)
  have hk0 : ∀ cs o, Blk ((w.alloc (.cells cs 31)).alloc o) w.heap.size 31 cs := fun cs o => (Blk.new w _ cs).alloc _
  have hk1 : ∀ o cs, Blk ((w.alloc o).alloc (.cells cs 31)) (w.heap.size + 1) 31 cs := fun o cs => by
    have := Blk.new (w.alloc o) 31 cs
    simpa using this
  have hB : ∀ o1 o2, Below w.heap.size w ((w.alloc o1).alloc o2) := fun o1 o2 => ((Below.refl _ _).alloc (Nat.le_refl _) _).alloc (by simp) _
  have HK0 := Lib.hid hk0
  have HK1 := Lib.hid hk1
  have HB := Lib.hid hB
  clear hk0 hk1 hB
  go_enter Try.func17, Try.ntmps17
  go_wp2_with fail
  refine (eqPointS_same _ _ _ _ _ _ (hr1 _ _) (hr2 _ _) hlen).mono ?_
  rintro e w1 ⟨rfl, hb1⟩
  have hB1 := (HB.out _ _).trans (hb1.mono (HB.out _ _).size)
  have k0 := ((HK0.out _ _).next hb1).cell 1
  have k1 := ((HK1.out _ _).next hb1).cell 1
  go_wp2_with fail
  refine (eqSegmentS_same _ _ _ _ _ _ ((hr'.below hB1).more hB1.size) ((hs'.below hB1).more hB1.size) hlen').mono ?_
  rintro e w2 ⟨rfl, hb2⟩
  go_wp2_with fail
  go_ret
  exact ⟨rfl, hB1.trans (hb2.mono hB1.size)⟩

end Go.Proofs.Ytjmfgncakegjaaa
