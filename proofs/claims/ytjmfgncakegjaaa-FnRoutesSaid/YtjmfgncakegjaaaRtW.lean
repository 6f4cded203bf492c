/-
  The contracts of RoutesBetween, the program's and the reference's.
-/
import Derived.Test.YtjmfgncakegjaaaRtS
import Derived.Test.YtjmfgncakegjaaaRtI
import Derived.Test.YtjmfgncakegjaaaRtR
import Derived.Test.YtjmfgncakegjaaaRouteO
namespace Go.Proofs.Ytjmfgncakegjaaa
open Go.RowKit

theorem Has.one (w : World) (x : Int) : Has (w.alloc (.cells #[.int .i64 x] 3)) w.heap.size 3 intAt 1 [x] := by
  obtain ⟨g, c, h1, _, h2⟩ := (own_one (B := 0) w x (Nat.zero_le _)).head
  cases h1
  exact h2
theorem ResRows.nil_ {w w' : World} {res : List (List Int)} (h : res = []) (hb : Below w.heap.size w w') : ResRows res w (.returned (.slice none 0 0)) w' := by
  subst h
  exact ⟨none, 0, rfl, RowsL.nil_, hb⟩
theorem ResRows.mk_ {w w' : World} {v : Value} {res res' : List (List Int)} (he : res = res') (h : OutR w' w.heap.size v res') (hb : Below w.heap.size w w') : ResRows res w (.returned v) w' := by
  subst he
  obtain ⟨A, c, rfl, hr⟩ := RowsL.of_out h
  exact ⟨A, c, rfl, hr, hb⟩
theorem Marks.none_ : Marks #[.bool false, .bool false, .bool false, .bool false, .bool false, .bool false, .bool false, .bool false] [] :=
  ⟨rfl, fun i hi => by
    match i, hi with
    | 0, _ | 1, _ | 2, _ | 3, _ | 4, _ | 5, _ | 6, _ | 7, _ => rfl⟩

set_option maxHeartbeats 4000000 in
set_option maxRecDepth 20000 in
theorem specRoutesBetween_any (A A' : Option Addr) (c c' : Nat) (ps : List Point) (ss : List Segment) (a b : Int) (w : World) (hr : Rd w w.heap.size Point.at_ 2 A ps) (hr' : Rd w w.heap.size Segment.at_ 5 A' ss) (hwf : ∀ p ∈ ps, p.wf) (hwf' : ∀ p ∈ ss, p.wf) (hlen : ps.length ≤ 1048576) (hlen' : ss.length ≤ 1048576) (hcap : ss.length ≤ c') :
    Calls Try.prog 35 #[.agg #[.slice A ps.length c, .slice A' ss.length c'], .int .i64 a, .int .i64 b] w (ResRows (routesB ps ss a b) w) := by
  have hr1 : ∀ o, Rd (w.alloc o) (w.alloc o).heap.size Point.at_ 2 A ps := fun o => (hr.alloc (Nat.le_refl _) o).more (by simp)
  have hr2 : ∀ o, Rd (w.alloc o) (w.alloc o).heap.size Segment.at_ 5 A' ss := fun o => (hr'.alloc (Nat.le_refl _) o).more (by simp)
  have hk0 := Blk.new w 31 #[.slice A ps.length c, .slice A' ss.length c']
  have hB0 : Below w.heap.size w (w.alloc (.cells #[.slice A ps.length c, .slice A' ss.length c'] 31)) := (Below.refl _ _).alloc (Nat.le_refl _) _
  have hp1 : IntKind.i64.wrap ((ps.length : Int) - 1) = (ps.length : Int) - 1 := IntWalk.i64_in _ (by omega)
  go_enter Try.func35, Try.ntmps35
  go_wp2_with fail
  refine (specChartOk_any _ _ _ _ _ _ _ (hr1 _) (hr2 _) hwf hwf' hlen hlen' hcap).mono ?_
  rintro e w1 ⟨rfl, hb1⟩
  have hk1 := hk0.next hb1
  have hB1 := hB0.trans (hb1.mono hB0.size)
  have c0 := hk1.cell 0
  have c1 := hk1.cell 1
  have hkl := hk1.lt
  cases hok : chartOk ps ss
  · go_wp2_with fail
    go_ret
    exact ResRows.nil_ (by simp [routesB, hok]) hB1
  cases ha : idxB a ps.length
  · have HN := Lib.hid (show routesB ps ss a b = [] by simp [routesB, ha])
    rw [idxB_inB] at ha
    go_wp2_with (go_at_call 51; refine (l01In_any _ _ _ _).mono ?_; rintro e w' ⟨rfl, rfl⟩)
    go_ret
    exact ResRows.nil_ HN.out hB1
  cases hb : idxB b ps.length
  · have HN := Lib.hid (show routesB ps ss a b = [] by simp [routesB, hb])
    rw [idxB_inB] at ha hb
    go_wp2_with (go_at_call 51; refine (l01In_any _ _ _ _).mono ?_; rintro e w' ⟨rfl, rfl⟩)
    go_ret
    exact ResRows.nil_ HN.out hB1
  have HY := Lib.hid (show routesB ps ss a b = rts ss b 8 [a] a [] by simp [routesB, ha, hb, hok])
  have hra : 0 ≤ a ∧ a < (ps.length : Int) := by simpa [idxB] using ha
  have hll := chartOk_len hok
  have HOK := Lib.hid hok
  have HB1 := Lib.hid hB1
  have HR' := Lib.hid hr'
  rw [idxB_inB] at ha hb
  clear hr1 hr2 hk0 hr hr' hok hB1 hB0
  go_wp2_with (go_at_call 51; refine (l01In_any _ _ _ _).mono ?_; rintro e w' ⟨rfl, rfl⟩)
  have hz1 := HB1.out.size
  have hs1 : (w1.alloc (.cells #[.int .i64 a] 3)).heap.size = w1.heap.size + 1 := by simp
  have hBW : Below w1.heap.size w1 ((w1.alloc (.cells #[.int .i64 a] 3)).alloc (.cells #[] 39)) := ((Below.refl _ _).alloc (Nat.le_refl _) _).alloc (by simp) _
  have hOut : ((w1.alloc (.cells #[.int .i64 a] 3)).alloc (.cells #[] 39)).ownsRow w.heap.size 39 1 (.slice (some ⟨w1.heap.size + 1, 0, none⟩) 0 0) 0 [] := by
    have h := World.ownsRow_lit (base := w.heap.size) (e := 39) (size := 1) (w1.alloc (.cells #[.int .i64 a] 3)) #[] 0 (by omega) (by decide) rfl
    rw [hs1] at h
    exact h
  have hBB := HB1.out.trans (hBW.mono hz1)
  have hPt := (Has.one w1 a).next ((Below.refl (w1.alloc (.cells #[.int .i64 a] 3)).heap.size _).alloc (Nat.le_refl _) (.cells #[] 39))
  have hcnt : (rts ss b 8 [a] a []).length ≤ 10000000 := rts_count (ss := ss) (to := b) hll.2 7 [a] a []
  refine (specWalk_any b ps.length ss hll.1 hll.2 (fun k s hs cur => otherV_in (chartOk_seg HOK.out hs) cur) A A' c c' w.heap.size 8 w1.heap.size 1 0 none [a] [] 0 a (.slice (some ⟨w1.heap.size + 1, 0, none⟩) 0 0) [] _ hBB.size (HR'.out.below hBB) hPt rfl rfl (.inl ⟨rfl, rfl⟩) (OutR.start hOut) (by simp) (by simpa using hra) rfl rfl (by simp only [List.length_nil]; omega)).mono ?_
  rintro e w2 ⟨u, rfl, h1, h2⟩
  have HRR := Lib.hid (ResRows.mk_ (w := w) HY.out h1 (hBB.trans h2.below))
  clear h1 h2 hBB hBW hOut hPt
  go_wp2_with fail
  go_ret
  exact HRR.out

set_option maxHeartbeats 4000000 in
set_option maxRecDepth 20000 in
theorem implRoutesBetween_any (A A' : Option Addr) (c c' : Nat) (ps : List Point) (ss : List Segment) (a b : Int) (w : World) (hr : Rd w w.heap.size Point.at_ 2 A ps) (hr' : Rd w w.heap.size Segment.at_ 5 A' ss) (hwf : ∀ p ∈ ps, p.wf) (hwf' : ∀ p ∈ ss, p.wf) (hlen : ps.length ≤ 1048576) (hlen' : ss.length ≤ 1048576) (hcap : ss.length ≤ c') :
    Calls Try.prog 36 #[.agg #[.slice A ps.length c, .slice A' ss.length c'], .int .i64 a, .int .i64 b] w (ResRows (routesB ps ss a b) w) := by
  have hr1 : ∀ o, Rd (w.alloc o) (w.alloc o).heap.size Point.at_ 2 A ps := fun o => (hr.alloc (Nat.le_refl _) o).more (by simp)
  have hr2 : ∀ o, Rd (w.alloc o) (w.alloc o).heap.size Segment.at_ 5 A' ss := fun o => (hr'.alloc (Nat.le_refl _) o).more (by simp)
  have hk0 := Blk.new w 31 #[.slice A ps.length c, .slice A' ss.length c']
  have hB0 : Below w.heap.size w (w.alloc (.cells #[.slice A ps.length c, .slice A' ss.length c'] 31)) := (Below.refl _ _).alloc (Nat.le_refl _) _
  go_enter Try.func36, Try.ntmps36
  go_wp2_with fail
  refine (implChartOk_any _ _ _ _ _ _ _ (hr1 _) (hr2 _) hwf hwf' hlen hlen' hcap).mono ?_
  rintro e w1 ⟨rfl, hb1⟩
  have hk1 := hk0.next hb1
  have hB1 := hB0.trans (hb1.mono hB0.size)
  have c0 := hk1.cell 0
  have c1 := hk1.cell 1
  have hkl := hk1.lt
  cases hok : chartOk ps ss
  · go_wp2_with fail
    go_ret
    exact ResRows.nil_ (by simp [routesB, hok]) hB1
  cases ha : idxB a ps.length
  · have HN := Lib.hid (show routesB ps ss a b = [] by simp [routesB, ha])
    go_wp2_with (go_at_call 54; refine (isIndex_any _ _ _).mono ?_; rintro e w' ⟨rfl, rfl⟩)
    go_ret
    exact ResRows.nil_ HN.out hB1
  cases hb : idxB b ps.length
  · have HN := Lib.hid (show routesB ps ss a b = [] by simp [routesB, hb])
    go_wp2_with (go_at_call 54; refine (isIndex_any _ _ _).mono ?_; rintro e w' ⟨rfl, rfl⟩)
    go_ret
    exact ResRows.nil_ HN.out hB1
  have HY := Lib.hid (show routesB ps ss a b = rts ss b 8 [a] a [] by simp [routesB, ha, hb, hok])
  have hra : 0 ≤ a ∧ a < (ps.length : Int) := by simpa [idxB] using ha
  obtain ⟨j, rfl⟩ : ∃ j : Nat, a = j := ⟨a.toNat, by omega⟩
  have hll := chartOk_len hok
  have HOK := Lib.hid hok
  have HB1 := Lib.hid hB1
  have HR' := Lib.hid hr'
  clear hr1 hr2 hk0 hr hr' hok hB1 hB0
  go_wp2_with (go_at_call 54; refine (isIndex_any _ _ _).mono ?_; rintro e w' ⟨rfl, rfl⟩)
  have hz1 := HB1.out.size
  have hs1 : (w1.alloc (.cells #[] 39)).heap.size = w1.heap.size + 1 := by simp
  have hBW : Below w1.heap.size w1 ((w1.alloc (.cells #[] 39)).alloc (.cells #[.slice (some ⟨w1.heap.size, 0, none⟩) 0 0] 49)) := ((Below.refl _ _).alloc (Nat.le_refl _) _).alloc (by simp) _
  have hOut : (w1.alloc (.cells #[] 39)).ownsRow w.heap.size 39 1 (.slice (some ⟨w1.heap.size, 0, none⟩) 0 0) 0 [] := World.ownsRow_lit w1 #[] 0 (by omega) (by decide) rfl
  have hO2 := (OutR.start hOut).next ((Below.refl _ _).alloc (Nat.le_refl _) (.cells #[.slice (some ⟨w1.heap.size, 0, none⟩) 0 0] 49))
  have hbo := Blk.new (w1.alloc (.cells #[] 39)) 49 #[.slice (some ⟨w1.heap.size, 0, none⟩) 0 0]
  rw [hs1] at hbo
  have hBB := HB1.out.trans (hBW.mono hz1)
  have hcnt : (rts ss b 8 [(j : Int)] j []).length ≤ 10000000 := rts_count (ss := ss) (to := b) hll.2 7 [(j : Int)] j []
  refine (implFrom_any b ps.length ss hll.1 hll.2 (fun k s hs cur => otherV_in (chartOk_seg HOK.out hs) cur) A A' c c' w.heap.size (w1.heap.size + 1) (by omega) 8 0 none [] [] j (.slice (some ⟨w1.heap.size, 0, none⟩) 0 0) false false false false false false false false [] _ hBB.size hbo (HR'.out.below hBB) (.inl ⟨rfl, rfl⟩) hO2 Marks.none_ (by simp) (by simpa using hra) rfl rfl (by simp only [List.length_nil, List.nil_append]; omega)).mono ?_
  rintro e w2 ⟨u, v', rfl, h1, h2, h3⟩
  have HRR := Lib.hid (ResRows.mk_ (w := w) HY.out h2 (hBB.trans h3.below))
  have q0 := h1.cell 0
  have hlb := h1.lt
  clear h1 h2 h3 hBB hBW hOut hO2 hbo
  go_wp2_with fail
  go_ret
  exact HRR.out

end Go.Proofs.Ytjmfgncakegjaaa
