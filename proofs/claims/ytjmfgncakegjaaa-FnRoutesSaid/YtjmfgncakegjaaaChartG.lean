/-
  The contracts of SegmentOf and OtherEnd, the program's and the reference's. Printed by a program of the claim's author.
-/
import Derived.Test.YtjmfgncakegjaaaChartF
import Derived.Test.YtjmfgncakegjaaaChartS
namespace Go.Proofs.Ytjmfgncakegjaaa
open Go.RowKit

set_option maxHeartbeats 2000000 in
theorem implSegmentOf_any (A A' : Option Addr) (c c' : Nat) (ps : List Point) (ss : List Segment) (a b : Int) (w : World) (hr : Rd w w.heap.size Point.at_ 2 A ps) (hr' : Rd w w.heap.size Segment.at_ 5 A' ss) (hwf : ∀ p ∈ ps, p.wf) (hwf' : ∀ p ∈ ss, p.wf) (hlen : ps.length ≤ 1048576) (hlen' : ss.length ≤ 1048576) (hcap : ss.length ≤ c') :
    Calls Try.prog 21 #[.agg #[.slice A ps.length c, .slice A' ss.length c'], .int .i64 a, .int .i64 b] w fun e w' => e = .returned (.int .i64 (segmentF ps ss a b)) ∧ Below w.heap.size w w' := by
  have hr1 : ∀ o, Rd (w.alloc o) (w.alloc o).heap.size Point.at_ 2 A ps := fun o => (hr.alloc (Nat.le_refl _) o).more (by simp)
  have hr2 : ∀ o, Rd (w.alloc o) (w.alloc o).heap.size Segment.at_ 5 A' ss := fun o => (hr'.alloc (Nat.le_refl _) o).more (by simp)
  have hk0 := Blk.new w 31 #[.slice A ps.length c, .slice A' ss.length c']
  have hB0 : Below w.heap.size w (w.alloc (.cells #[.slice A ps.length c, .slice A' ss.length c'] 31)) := (Below.refl _ _).alloc (Nat.le_refl _) _
  go_enter Try.func21, Try.ntmps21
  go_wp2_with fail
  refine (implChartOk_any _ _ _ _ _ _ _ (hr1 _) (hr2 _) hwf hwf' hlen hlen' hcap).mono ?_
  rintro e w1 ⟨rfl, hb1⟩
  have hk1 := hk0.next hb1
  have hB1 := hB0.trans (hb1.mono hB0.size)
  have c0 := hk1.cell 0
  have c1 := hk1.cell 1
  cases hok : chartOk ps ss
  · go_wp2_with fail
    go_ret
    exact ⟨ret_int (by simp [segmentF, hok]), hB1⟩
  have HRES : Hid (segmentF ps ss a b = findI (fun s => joinsB s a b) 0 ss) := Lib.hid (by simp [segmentF, hok])
  clear hr1 hr2 hr hwf hwf' hk0 hB0 hb1
  go_wp2_with fail
  clear c0 c1
  go_loopw [15] (fun i wr => ∃ k : Nat, k ≤ ss.length ∧ i = .int .i64 k ∧ findI (fun s => joinsB s a b) 0 ss = findI (fun s => joinsB s a b) k (ss.drop k) ∧ Below w.heap.size w wr) (fun i _ => ss.length - (intOf i).toNat)
  case atStart => exact ⟨0, Nat.zero_le _, rfl, rfl, hB1⟩
  case round =>
    clear hB1 hk1
    obtain ⟨k, hk, rfl, hno, hbel⟩ := hrel
    have hs := hbel.size
    have HN := Lib.hid hno
    clear hno
    by_cases hlt : k < ss.length
    · obtain ⟨g, off, rfl, hg, hc⟩ := hr' (by omega)
      obtain ⟨p, hp⟩ : ∃ p, ss[k]? = some p := ⟨_, List.getElem?_eq_getElem hlt⟩
      have c0 := (hbel.cell (p := ⟨g, off + k * 5 + 0, none⟩) hg).trans (hc k p hp 0 (by omega))
      have c1 := (hbel.cell (p := ⟨g, off + k * 5 + 1, none⟩) hg).trans (hc k p hp 1 (by omega))
      have c2 := (hbel.cell (p := ⟨g, off + k * 5 + 2, none⟩) hg).trans (hc k p hp 2 (by omega))
      have c3 := (hbel.cell (p := ⟨g, off + k * 5 + 3, none⟩) hg).trans (hc k p hp 3 (by omega))
      have c4 := (hbel.cell (p := ⟨g, off + k * 5 + 4, none⟩) hg).trans (hc k p hp 4 (by omega))
      simp only [Segment.at_, Nat.add_zero] at c0 c1 c2 c3 c4
      have HC := Lib.hid hc
      have HR' := Lib.hid hr'
      have HP := Lib.hid hp
      clear hc hr' hp
      have hB2 : Below w.heap.size w (wr.alloc (.cells #[.int .i64 p.a, .int .i64 p.b, .int .i64 p.depth, .int .i64 p.mins, .bool p.meet] 69)) := hbel.alloc hs _
      cases tj : joinsB p a b
      · have HX := Lib.hid (findI_miss (f := fun s => joinsB s a b) HN.out HP.out tj)
        go_wp2_with (go_at_call 56; refine (implJoins_any p _ _ _).mono ?_; rintro e w3 ⟨rfl, hb3⟩)
        go_roundw
        case rel => exact ⟨k + 1, by omega, by go_num, HX.out, hB2.trans (hb3.mono hB2.size)⟩
        case measure => simp [intOf]; omega
      · have HX := Lib.hid (findI_hit (f := fun s => joinsB s a b) HN.out HP.out tj)
        go_wp2_with (go_at_call 56; refine (implJoins_any p _ _ _).mono ?_; rintro e w3 ⟨rfl, hb3⟩)
        go_ret
        exact ⟨ret_int (by rw [HRES.out, HX.out]), hB2.trans (hb3.mono hB2.size)⟩
    · have hk' : k = ss.length := by omega
      subst hk'
      have HX := Lib.hid (findI_done HN.out)
      go_wp2_with fail
      go_ret
      exact ⟨ret_int (by rw [HRES.out, HX.out]), hbel⟩

set_option maxHeartbeats 2000000 in
theorem specSegmentOf_any (A A' : Option Addr) (c c' : Nat) (ps : List Point) (ss : List Segment) (a b : Int) (w : World) (hr : Rd w w.heap.size Point.at_ 2 A ps) (hr' : Rd w w.heap.size Segment.at_ 5 A' ss) (hwf : ∀ p ∈ ps, p.wf) (hwf' : ∀ p ∈ ss, p.wf) (hlen : ps.length ≤ 1048576) (hlen' : ss.length ≤ 1048576) (hcap : ss.length ≤ c') :
    Calls Try.prog 20 #[.agg #[.slice A ps.length c, .slice A' ss.length c'], .int .i64 a, .int .i64 b] w fun e w' => e = .returned (.int .i64 (segmentF ps ss a b)) ∧ Below w.heap.size w w' := by
  have hr1 : ∀ o, Rd (w.alloc o) (w.alloc o).heap.size Point.at_ 2 A ps := fun o => (hr.alloc (Nat.le_refl _) o).more (by simp)
  have hr2 : ∀ o, Rd (w.alloc o) (w.alloc o).heap.size Segment.at_ 5 A' ss := fun o => (hr'.alloc (Nat.le_refl _) o).more (by simp)
  have hk0 := Blk.new w 31 #[.slice A ps.length c, .slice A' ss.length c']
  have hB0 : Below w.heap.size w (w.alloc (.cells #[.slice A ps.length c, .slice A' ss.length c'] 31)) := (Below.refl _ _).alloc (Nat.le_refl _) _
  go_enter Try.func20, Try.ntmps20
  go_wp2_with fail
  refine (specChartOk_any _ _ _ _ _ _ _ (hr1 _) (hr2 _) hwf hwf' hlen hlen' hcap).mono ?_
  rintro e w1 ⟨rfl, hb1⟩
  have hk1 := hk0.next hb1
  have hB1 := hB0.trans (hb1.mono hB0.size)
  have c0 := hk1.cell 0
  have c1 := hk1.cell 1
  cases hok : chartOk ps ss
  · go_wp2_with fail
    go_ret
    exact ⟨ret_int (by simp [segmentF, hok]), hB1⟩
  have HRES : Hid (segmentF ps ss a b = findI (fun s => joinsB s a b) 0 ss) := Lib.hid (by simp [segmentF, hok])
  clear hr1 hr2 hr hwf hwf' hk0 hB0 hb1
  go_wp2_with fail
  clear c0 c1
  go_loopw [15] (fun i wr => ∃ k : Nat, k ≤ ss.length ∧ i = .int .i64 k ∧ findI (fun s => joinsB s a b) 0 ss = findI (fun s => joinsB s a b) k (ss.drop k) ∧ Below w.heap.size w wr) (fun i _ => ss.length - (intOf i).toNat)
  case atStart => exact ⟨0, Nat.zero_le _, rfl, rfl, hB1⟩
  case round =>
    clear hB1 hk1
    obtain ⟨k, hk, rfl, hno, hbel⟩ := hrel
    have hs := hbel.size
    have HN := Lib.hid hno
    clear hno
    by_cases hlt : k < ss.length
    · obtain ⟨g, off, rfl, hg, hc⟩ := hr' (by omega)
      obtain ⟨p, hp⟩ : ∃ p, ss[k]? = some p := ⟨_, List.getElem?_eq_getElem hlt⟩
      have c0 := (hbel.cell (p := ⟨g, off + k * 5 + 0, none⟩) hg).trans (hc k p hp 0 (by omega))
      have c1 := (hbel.cell (p := ⟨g, off + k * 5 + 1, none⟩) hg).trans (hc k p hp 1 (by omega))
      have c2 := (hbel.cell (p := ⟨g, off + k * 5 + 2, none⟩) hg).trans (hc k p hp 2 (by omega))
      have c3 := (hbel.cell (p := ⟨g, off + k * 5 + 3, none⟩) hg).trans (hc k p hp 3 (by omega))
      have c4 := (hbel.cell (p := ⟨g, off + k * 5 + 4, none⟩) hg).trans (hc k p hp 4 (by omega))
      simp only [Segment.at_, Nat.add_zero] at c0 c1 c2 c3 c4
      have HC := Lib.hid hc
      have HR' := Lib.hid hr'
      have HP := Lib.hid hp
      clear hc hr' hp
      have hB2 : Below w.heap.size w (wr.alloc (.cells #[.int .i64 p.a, .int .i64 p.b, .int .i64 p.depth, .int .i64 p.mins, .bool p.meet] 69)) := hbel.alloc hs _
      cases tj : joinsB p a b
      · have HX := Lib.hid (findI_miss (f := fun s => joinsB s a b) HN.out HP.out tj)
        go_wp2_with (go_at_call 52; refine (specJoins_any p _ _ _).mono ?_; rintro e w3 ⟨rfl, hb3⟩)
        go_roundw
        case rel => exact ⟨k + 1, by omega, by go_num, HX.out, hB2.trans (hb3.mono hB2.size)⟩
        case measure => simp [intOf]; omega
      · have HX := Lib.hid (findI_hit (f := fun s => joinsB s a b) HN.out HP.out tj)
        go_wp2_with (go_at_call 52; refine (specJoins_any p _ _ _).mono ?_; rintro e w3 ⟨rfl, hb3⟩)
        go_ret
        exact ⟨ret_int (by rw [HRES.out, HX.out]), hB2.trans (hb3.mono hB2.size)⟩
    · have hk' : k = ss.length := by omega
      subst hk'
      have HX := Lib.hid (findI_done HN.out)
      go_wp2_with fail
      go_ret
      exact ⟨ret_int (by rw [HRES.out, HX.out]), hbel⟩

set_option maxHeartbeats 2000000 in
theorem implOtherEnd_any (A A' : Option Addr) (c c' : Nat) (ps : List Point) (ss : List Segment) (gg pt : Int) (w : World) (hr : Rd w w.heap.size Point.at_ 2 A ps) (hr' : Rd w w.heap.size Segment.at_ 5 A' ss) (hwf : ∀ p ∈ ps, p.wf) (hwf' : ∀ p ∈ ss, p.wf) (hlen : ps.length ≤ 1048576) (hlen' : ss.length ≤ 1048576) (hcap : ss.length ≤ c') :
    Calls Try.prog 23 #[.agg #[.slice A ps.length c, .slice A' ss.length c'], .int .i64 gg, .int .i64 pt] w fun e w' => e = .returned (.int .i64 (otherF ps ss gg pt)) ∧ Below w.heap.size w w' := by
  have hr1 : ∀ o, Rd (w.alloc o) (w.alloc o).heap.size Point.at_ 2 A ps := fun o => (hr.alloc (Nat.le_refl _) o).more (by simp)
  have hr2 : ∀ o, Rd (w.alloc o) (w.alloc o).heap.size Segment.at_ 5 A' ss := fun o => (hr'.alloc (Nat.le_refl _) o).more (by simp)
  have hk0 := Blk.new w 31 #[.slice A ps.length c, .slice A' ss.length c']
  have hB0 : Below w.heap.size w (w.alloc (.cells #[.slice A ps.length c, .slice A' ss.length c'] 31)) := (Below.refl _ _).alloc (Nat.le_refl _) _
  go_enter Try.func23, Try.ntmps23
  go_wp2_with fail
  refine (implChartOk_any _ _ _ _ _ _ _ (hr1 _) (hr2 _) hwf hwf' hlen hlen' hcap).mono ?_
  rintro e w1 ⟨rfl, hb1⟩
  have hk1 := hk0.next hb1
  have hB1 := hB0.trans (hb1.mono hB0.size)
  have c0 := hk1.cell 0
  have c1 := hk1.cell 1
  cases hok : chartOk ps ss
  · go_wp2_with fail
    go_ret
    exact ⟨ret_int (by simp [otherF, hok]), hB1⟩
  have hs1 := hB1.size
  cases t : idxB gg ss.length
  · go_wp2_with (go_at_call 54; refine (isIndex_any _ _ _).mono ?_; rintro e w' ⟨rfl, rfl⟩)
    go_ret
    exact ⟨ret_int (by simp [otherF, t]), hB1⟩
  have hgg : 0 ≤ gg ∧ gg < ss.length := by
    simpa [idxB] using t
  obtain ⟨k, rfl⟩ : ∃ k : Nat, gg = k := ⟨gg.toNat, by omega⟩
  have hlt : k < ss.length := by omega
  obtain ⟨g, off, rfl, hg, hc⟩ := hr' (by omega)
  have hbel := hB1
  clear hr2 hk0 hB0
  obtain ⟨p, hp⟩ : ∃ p, ss[k]? = some p := ⟨_, List.getElem?_eq_getElem hlt⟩
  have s0 := (hbel.cell (p := ⟨g, off + k * 5 + 0, none⟩) hg).trans (hc k p hp 0 (by omega))
  have s1 := (hbel.cell (p := ⟨g, off + k * 5 + 1, none⟩) hg).trans (hc k p hp 1 (by omega))
  have s2 := (hbel.cell (p := ⟨g, off + k * 5 + 2, none⟩) hg).trans (hc k p hp 2 (by omega))
  have s3 := (hbel.cell (p := ⟨g, off + k * 5 + 3, none⟩) hg).trans (hc k p hp 3 (by omega))
  have s4 := (hbel.cell (p := ⟨g, off + k * 5 + 4, none⟩) hg).trans (hc k p hp 4 (by omega))
  simp only [Segment.at_, Nat.add_zero] at s0 s1 s2 s3 s4
  have HC := Lib.hid hc
  have HR' := Lib.hid hr'
  have HP := Lib.hid hp
  clear hc hr' hp
  have HRES : Hid (otherF ps ss k pt = otherV p pt) := Lib.hid (by simp [otherF, hok, t, HP.out])
  clear hgg
  go_wp2_with (first | (go_at_call 54; refine (isIndex_any _ _ _).mono ?_; rintro e w' ⟨rfl, rfl⟩) | (go_at_call 58; refine (implEnd_any p _ _).mono ?_; rintro e w3 ⟨rfl, hb3⟩))
  go_ret
  exact ⟨ret_int HRES.out.symm, hB1.trans (hb3.mono hB1.size)⟩

set_option maxHeartbeats 2000000 in
theorem specOtherEnd_any (A A' : Option Addr) (c c' : Nat) (ps : List Point) (ss : List Segment) (gg pt : Int) (w : World) (hr : Rd w w.heap.size Point.at_ 2 A ps) (hr' : Rd w w.heap.size Segment.at_ 5 A' ss) (hwf : ∀ p ∈ ps, p.wf) (hwf' : ∀ p ∈ ss, p.wf) (hlen : ps.length ≤ 1048576) (hlen' : ss.length ≤ 1048576) (hcap : ss.length ≤ c') :
    Calls Try.prog 22 #[.agg #[.slice A ps.length c, .slice A' ss.length c'], .int .i64 gg, .int .i64 pt] w fun e w' => e = .returned (.int .i64 (otherF ps ss gg pt)) ∧ Below w.heap.size w w' := by
  have hr1 : ∀ o, Rd (w.alloc o) (w.alloc o).heap.size Point.at_ 2 A ps := fun o => (hr.alloc (Nat.le_refl _) o).more (by simp)
  have hr2 : ∀ o, Rd (w.alloc o) (w.alloc o).heap.size Segment.at_ 5 A' ss := fun o => (hr'.alloc (Nat.le_refl _) o).more (by simp)
  have hk0 := Blk.new w 31 #[.slice A ps.length c, .slice A' ss.length c']
  have hB0 : Below w.heap.size w (w.alloc (.cells #[.slice A ps.length c, .slice A' ss.length c'] 31)) := (Below.refl _ _).alloc (Nat.le_refl _) _
  go_enter Try.func22, Try.ntmps22
  go_wp2_with fail
  refine (specChartOk_any _ _ _ _ _ _ _ (hr1 _) (hr2 _) hwf hwf' hlen hlen' hcap).mono ?_
  rintro e w1 ⟨rfl, hb1⟩
  have hk1 := hk0.next hb1
  have hB1 := hB0.trans (hb1.mono hB0.size)
  have c0 := hk1.cell 0
  have c1 := hk1.cell 1
  cases hok : chartOk ps ss
  · go_wp2_with fail
    go_ret
    exact ⟨ret_int (by simp [otherF, hok]), hB1⟩
  have hs1 := hB1.size
  cases t : inB gg 0 ((ss.length : Int) - 1)
  · go_wp2_with (go_at_call 51; refine (l01In_any _ _ _ _).mono ?_; rintro e w' ⟨rfl, rfl⟩)
    go_ret
    exact ⟨ret_int (by simp [otherF, idxB_inB, t]), hB1⟩
  have hgg : 0 ≤ gg ∧ gg < ss.length := by
    have := inB_true t; omega
  obtain ⟨k, rfl⟩ : ∃ k : Nat, gg = k := ⟨gg.toNat, by omega⟩
  have hlt : k < ss.length := by omega
  obtain ⟨g, off, rfl, hg, hc⟩ := hr' (by omega)
  have hbel := hB1
  clear hr2 hk0 hB0
  obtain ⟨p, hp⟩ : ∃ p, ss[k]? = some p := ⟨_, List.getElem?_eq_getElem hlt⟩
  have s0 := (hbel.cell (p := ⟨g, off + k * 5 + 0, none⟩) hg).trans (hc k p hp 0 (by omega))
  have s1 := (hbel.cell (p := ⟨g, off + k * 5 + 1, none⟩) hg).trans (hc k p hp 1 (by omega))
  have s2 := (hbel.cell (p := ⟨g, off + k * 5 + 2, none⟩) hg).trans (hc k p hp 2 (by omega))
  have s3 := (hbel.cell (p := ⟨g, off + k * 5 + 3, none⟩) hg).trans (hc k p hp 3 (by omega))
  have s4 := (hbel.cell (p := ⟨g, off + k * 5 + 4, none⟩) hg).trans (hc k p hp 4 (by omega))
  simp only [Segment.at_, Nat.add_zero] at s0 s1 s2 s3 s4
  have HC := Lib.hid hc
  have HR' := Lib.hid hr'
  have HP := Lib.hid hp
  clear hc hr' hp
  have HRES : Hid (otherF ps ss k pt = otherV p pt) := Lib.hid (by simp [otherF, hok, idxB_inB, t, HP.out])
  clear hgg
  go_wp2_with (first | (go_at_call 51; refine (l01In_any _ _ _ _).mono ?_; rintro e w' ⟨rfl, rfl⟩) | (go_at_call 57; refine (specOther_any p _ _).mono ?_; rintro e w3 ⟨rfl, hb3⟩))
  go_ret
  exact ⟨ret_int HRES.out.symm, hB1.trans (hb3.mono hB1.size)⟩

end Go.Proofs.Ytjmfgncakegjaaa
