/-
  The contracts of the laws' helpers on forecasts: szForecast, toForecast, eqForecast.
-/
import Derived.Test.YtmhiohijpnmcpaaTSurge
import Derived.Test.YtmhiohijpnmcpaaTideF
import Derived.Test.YtmhiohijpnmcpaaModelF
namespace Go.Proofs.Ytmhiohijpnmcpaa
open Go.RowKit

/-- What szX hands back for a struct of two slices: below 0, or what is left. -/
def SzPost2 (l : Int) (n n' : Nat) (w : World) (e : Ending) (w' : World) : Prop := ∃ r : Int, e = .returned (.int .i64 r) ∧ r ≤ l ∧ (0 ≤ r → (n : Int) ≤ l ∧ (n' : Int) ≤ l) ∧ Below w.heap.size w w'
/-- A call that hands back a forecast whose lists lie in slices of its own. -/
def ResFore (m : Int) (ps : List Part) (ss : List Surge) (w : World) (e : Ending) (w' : World) : Prop :=
  ∃ A c A' c', e = .returned (.agg #[.int .i64 m, .slice A ps.length c, .slice A' ss.length c']) ∧ ss.length ≤ c' ∧ Sl w' w.heap.size w'.heap.size A 91 Part.at_ 3 ps ∧ Sl w' w.heap.size w'.heap.size A' 66 Surge.at_ 3 ss ∧ Below w.heap.size w w'

set_option maxHeartbeats 1000000 in
theorem szForecast_any (m : Int) (A A' : Option Addr) (c c' : Nat) (ps : List Part) (ss : List Surge) (l : Int) (hn : ps.length ≤ 9223372036854775807) (hn' : ss.length ≤ 9223372036854775807) (h0 : 0 ≤ l) (h1 : l ≤ 1048576) (w : World) :
    Calls Try.prog 14 #[.agg #[.int .i64 m, .slice A ps.length c, .slice A' ss.length c'], .int .i64 l] w (SzPost2 l ps.length ss.length w) := by
  have hk0 := Blk.new w 27 #[.int .i64 m, .slice A ps.length c, .slice A' ss.length c']
  have hB0 : Below w.heap.size w (w.alloc (.cells #[.int .i64 m, .slice A ps.length c, .slice A' ss.length c'] 27)) := (Below.refl _ _).alloc (Nat.le_refl _) _
  go_enter Try.func14, Try.ntmps14
  go_wp2_with fail
  refine (szTide_any _ _ _ _ _ hn h0 h1 _).mono ?_
  rintro e w1 ⟨r, rfl, hr2, hr3, hb1⟩
  have hB1 := hB0.trans (hb1.mono hB0.size)
  by_cases hneg : r < 0
  · go_wp2_with fail
    go_ret
    exact ⟨-1, rfl, by omega, by omega, hB1⟩
  have c1 := (hk0.next hb1).cell 2
  go_wp2_with fail
  refine (szSurgeS_any _ _ _ _ hn' (by omega) (by omega) _).mono ?_
  rintro e w2 ⟨r', rfl, hr4, hr5, hb2⟩
  by_cases hneg2 : r' < 0
  all_goals
    go_wp2_with fail
    go_ret
  · exact ⟨-1, rfl, by omega, by omega, hB1.trans (hb2.mono hB1.size)⟩
  · exact ⟨r', rfl, by omega, by omega, hB1.trans (hb2.mono hB1.size)⟩

set_option maxHeartbeats 2000000 in
theorem toForecast_any (m : Int) (A A' : Option Addr) (c c' : Nat) (ps : List Part) (ss : List Surge) (w : World) (hr : Rd w w.heap.size Part.at_ 3 A ps) (hr' : Rd w w.heap.size Surge.at_ 3 A' ss) (hlen : ps.length ≤ 1048576) (hlen' : ss.length ≤ 1048576) :
    Calls Try.prog 16 #[.agg #[.int .i64 m, .slice A ps.length c, .slice A' ss.length c']] w (ResFore m ps ss w) := by
  have hrd : ∀ o1 o2 o3, Rd (((w.alloc o1).alloc o2).alloc o3) (((w.alloc o1).alloc o2).alloc o3).heap.size Part.at_ 3 A ps := fun o1 o2 o3 =>
    (((hr.alloc (Nat.le_refl _) o1).alloc (by simp) o2).alloc (by simp; omega) o3).more (by simp; omega)
  have hk0 : ∀ cs1 o2 o3, Blk (((w.alloc (.cells cs1 27)).alloc o2).alloc o3) w.heap.size 27 cs1 := fun cs1 o2 o3 => ((Blk.new w _ cs1).alloc _).alloc _
  have hk1 : ∀ o1 cs2 cs3, Blk (((w.alloc o1).alloc (.cells cs2 35)).alloc (.cells cs3 35)) (w.heap.size + 1) 35 cs2 := fun o1 cs2 cs3 => by
    have := (Blk.new (w.alloc o1) 35 cs2).alloc (.cells cs3 35)
    simpa using this
  have hk2 : ∀ o1 o2 cs3, Blk (((w.alloc o1).alloc o2).alloc (.cells cs3 35)) (w.heap.size + 1 + 1) 35 cs3 := fun o1 o2 cs3 => by
    have := Blk.new ((w.alloc o1).alloc o2) 35 cs3
    simpa using this
  have hBA : ∀ o1 o2 o3, Below w.heap.size w (((w.alloc o1).alloc o2).alloc o3) := fun o1 o2 o3 => (((Below.refl _ _).alloc (Nat.le_refl _) _).alloc (by simp) _).alloc (by simp; omega) _
  have HRD := Lib.hid hrd
  have HK0 := Lib.hid hk0
  have HK1 := Lib.hid hk1
  have HK2 := Lib.hid hk2
  have HBA := Lib.hid hBA
  clear hrd hk0 hk1 hk2 hBA
  go_enter Try.func16, Try.ntmps16
  go_wp2_with fail
  refine (toTide_any _ _ _ _ _ (HRD.out _ _ _) hlen).mono ?_
  rintro e w1 ⟨B, d, rfl, hsl, hb1⟩
  have hB1 := (HBA.out _ _ _).trans (hb1.mono (HBA.out _ _ _).size)
  have k0 := (HK0.out _ _ _).next hb1
  have k1 := (HK1.out _ _ _).next hb1
  have k2 := (HK2.out _ _ _).next hb1
  have a1 := k0.cell 2
  have b0 := k2.cell 0
  have b1 := k2.cell 1
  have g0 := k2.frozen 0
  have g1 := k2.frozen 1
  have hz := hb1.size
  simp at hz
  have hsl0 : Sl w1 (w.heap.size + 3) w1.heap.size B 91 Part.at_ 3 ps := hsl.mono (by simp) (Nat.le_refl _)
  have HSL := Lib.hid hsl0
  have HB := Lib.hid hb1
  clear hsl hsl0 hb1
  obtain ⟨wx, hwx⟩ : ∃ wx, wx = (w1.setCell ⟨w.heap.size + 1 + 1, 0, none⟩ (.int .i64 m)).setCell ⟨w.heap.size + 1 + 1, 1, none⟩ (.slice B ps.length d) := ⟨_, rfl⟩
  have hzx : wx.heap.size = w1.heap.size := by rw [hwx]; simp [World.setCell]
  have hBx : Below w.heap.size w wx := by
    rw [hwx]
    exact (hB1.setCell (by show w.heap.size ≤ w.heap.size + 1 + 1; omega) _).setCell (by show w.heap.size ≤ w.heap.size + 1 + 1; omega) _
  have kx1 := (k1.far (p := ⟨w.heap.size + 1 + 1, 0, none⟩) (by show w.heap.size + 1 ≠ w.heap.size + 1 + 1; omega) (.int .i64 m)).far (p := ⟨w.heap.size + 1 + 1, 1, none⟩) (by show w.heap.size + 1 ≠ w.heap.size + 1 + 1; omega) (.slice B ps.length d)
  have kx2 := (k2.set_ 0 (.int .i64 m)).set_ 1 (.slice B ps.length d)
  rw [← hwx] at kx1 kx2
  have hslx : Sl wx (w.heap.size + 3) w1.heap.size B 91 Part.at_ 3 ps := by
    rw [hwx]
    exact (HSL.out.setCell (.inl (by show w.heap.size + 1 + 1 < w.heap.size + 3; omega)) _).setCell (.inl (by show w.heap.size + 1 + 1 < w.heap.size + 3; omega)) _
  have HWX := Lib.hid hwx
  have HSX := Lib.hid hslx
  clear hwx hslx k1 k2
  go_wp2_with fail
  rw [← HWX.out]
  refine (toSurgeS_any _ _ _ _ ((hr'.below hBx).more hBx.size) hlen').mono ?_
  rintro e w2 ⟨rfl, hhas2, hb2⟩
  have m1 := kx1.next hb2
  have m2 := kx2.next hb2
  have hsl2 := HSX.out.next hb2
  have d0 := m2.cell 0
  have d1 := m2.cell 1
  have d2 := m2.cell 2
  have q2 := m2.frozen 2
  have p0 := m1.cell 0
  have p1 := m1.cell 1
  have p2 := m1.cell 2
  have l0 := m1.frozen 0
  have l1 := m1.frozen 1
  have l2 := m1.frozen 2
  have hz2 := hb2.size
  rw [hzx] at hhas2 hz2
  have hl2 := hhas2.lt
  have hsg := hhas2.sl (lo := w1.heap.size) (hi := w2.heap.size) (Nat.le_refl _) hl2
  have hB2 := hBx.trans (hb2.mono (by rw [hzx]; omega))
  have HSL2 := Lib.hid hsl2
  have HSG := Lib.hid hsg
  have HB2 := Lib.hid hB2
  rw [hzx]
  clear hsl2 hsg hB2 hhas2 hb2 hB1 k0 kx1 kx2 m1 m2 hBx hzx
  go_wp2_with fail
  refine bodyPost_ret (v := .agg #[.int .i64 m, .slice B ps.length d, .slice (some ⟨w1.heap.size, 0, none⟩) ss.length ss.length]) ?_ rfl ?_
  · simp [results, Try.results16, go_sem, p0, p1, p2]
  · refine ⟨_, _, _, _, rfl, Nat.le_refl _, ?_, ?_, ?_⟩
    · have h1 := HSL2.out.setCell (p := ⟨w.heap.size + 1 + 1, 2, none⟩) (.inl (by show w.heap.size + 1 + 1 < w.heap.size + 3; omega)) (.slice (some ⟨w1.heap.size, 0, none⟩) ss.length ss.length)
      have h2 := h1.setCell (p := ⟨w.heap.size + 1, 0, none⟩) (.inl (by show w.heap.size + 1 < w.heap.size + 3; omega)) (.int .i64 m)
      have h3 := h2.setCell (p := ⟨w.heap.size + 1, 1, none⟩) (.inl (by show w.heap.size + 1 < w.heap.size + 3; omega)) (.slice B ps.length d)
      have h4 := h3.setCell (p := ⟨w.heap.size + 1, 2, none⟩) (.inl (by show w.heap.size + 1 < w.heap.size + 3; omega)) (.slice (some ⟨w1.heap.size, 0, none⟩) ss.length ss.length)
      have h5 := h4.mono (lo' := w.heap.size) (hi' := w2.heap.size) (by omega) (by omega)
      simpa using h5
    · have h1 := HSG.out.setCell (p := ⟨w.heap.size + 1 + 1, 2, none⟩) (.inl (by show w.heap.size + 1 + 1 < w1.heap.size; omega)) (.slice (some ⟨w1.heap.size, 0, none⟩) ss.length ss.length)
      have h2 := h1.setCell (p := ⟨w.heap.size + 1, 0, none⟩) (.inl (by show w.heap.size + 1 < w1.heap.size; omega)) (.int .i64 m)
      have h3 := h2.setCell (p := ⟨w.heap.size + 1, 1, none⟩) (.inl (by show w.heap.size + 1 < w1.heap.size; omega)) (.slice B ps.length d)
      have h4 := h3.setCell (p := ⟨w.heap.size + 1, 2, none⟩) (.inl (by show w.heap.size + 1 < w1.heap.size; omega)) (.slice (some ⟨w1.heap.size, 0, none⟩) ss.length ss.length)
      have h5 := h4.mono (lo' := w.heap.size) (hi' := w2.heap.size) (by omega) (Nat.le_refl _)
      simpa using h5
    · exact (((HB2.out.setCell (by show w.heap.size ≤ w.heap.size + 1 + 1; omega) _).setCell (by show w.heap.size ≤ w.heap.size + 1; omega) _).setCell (by show w.heap.size ≤ w.heap.size + 1; omega) _).setCell (by show w.heap.size ≤ w.heap.size + 1; omega) _

set_option maxHeartbeats 1000000 in
theorem eqForecast_same (m : Int) (A A' B B' : Option Addr) (c c' d d' : Nat) (ps : List Part) (ss : List Surge) (w : World) (hr : Rd w w.heap.size Part.at_ 3 A ps) (hr' : Rd w w.heap.size Surge.at_ 3 A' ss) (hs : Rd w w.heap.size Part.at_ 3 B ps) (hs' : Rd w w.heap.size Surge.at_ 3 B' ss) (hlen : ps.length ≤ 1048576) (hlen' : ss.length ≤ 1048576) :
    Calls Try.prog 18 #[.agg #[.int .i64 m, .slice A ps.length c, .slice A' ss.length c'], .agg #[.int .i64 m, .slice B ps.length d, .slice B' ss.length d']] w fun e w' => e = .returned (.bool true) ∧ Below w.heap.size w w' := by
  have hr1 : ∀ o1 o2, Rd ((w.alloc o1).alloc o2) ((w.alloc o1).alloc o2).heap.size Part.at_ 3 A ps := fun o1 o2 => ((hr.alloc (Nat.le_refl _) o1).alloc (by simp) o2).more (by simp; omega)
  have hr2 : ∀ o1 o2, Rd ((w.alloc o1).alloc o2) ((w.alloc o1).alloc o2).heap.size Part.at_ 3 B ps := fun o1 o2 => ((hs.alloc (Nat.le_refl _) o1).alloc (by simp) o2).more (by simp; omega)
  have hk0 : ∀ cs o, Blk ((w.alloc (.cells cs 35)).alloc o) w.heap.size 35 cs := fun cs o => (Blk.new w _ cs).alloc _
  have hk1 : ∀ o cs, Blk ((w.alloc o).alloc (.cells cs 35)) (w.heap.size + 1) 35 cs := fun o cs => by
    have := Blk.new (w.alloc o) 35 cs
    simpa using this
  have hB : ∀ o1 o2, Below w.heap.size w ((w.alloc o1).alloc o2) := fun o1 o2 => ((Below.refl _ _).alloc (Nat.le_refl _) _).alloc (by simp) _
  have HK0 := Lib.hid hk0
  have HK1 := Lib.hid hk1
  have HB := Lib.hid hB
  clear hk0 hk1 hB
  go_enter Try.func18, Try.ntmps18
  go_wp2_with fail
  refine (eqTide_same _ _ _ _ _ ps _ (hr1 _ _) (hr2 _ _) hlen).mono ?_
  rintro e w1 ⟨rfl, hb1⟩
  have hB1 := (HB.out _ _).trans (hb1.mono (HB.out _ _).size)
  have k0 := ((HK0.out _ _).next hb1).cell 2
  have k1 := ((HK1.out _ _).next hb1).cell 2
  go_wp2_with fail
  refine (eqSurgeS_same _ _ _ _ _ _ ((hr'.below hB1).more hB1.size) ((hs'.below hB1).more hB1.size) hlen').mono ?_
  rintro e w2 ⟨rfl, hb2⟩
  go_wp2_with fail
  go_ret
  exact ⟨rfl, hB1.trans (hb2.mono hB1.size)⟩

end Go.Proofs.Ytmhiohijpnmcpaa
