/-
  The contracts of RouteOk, the program's and the reference's.
-/
import Derived.Test.YtjmfgncakegjaaaRouteS
namespace Go.Proofs.Ytjmfgncakegjaaa
open Go.RowKit

set_option maxHeartbeats 4000000 in
set_option maxRecDepth 20000 in
theorem implRouteOk_any (A A' R : Option Addr) (c c' d : Nat) (ps : List Point) (ss : List Segment) (f : Int) (rs : List Int) (w : World) (hr : Rd w w.heap.size Point.at_ 2 A ps) (hr' : Rd w w.heap.size Segment.at_ 5 A' ss) (hq : Rd w w.heap.size intAt 1 R rs) (hwf : ∀ p ∈ ps, p.wf) (hwf' : ∀ p ∈ ss, p.wf) (hlen : ps.length ≤ 1048576) (hlen' : ss.length ≤ 1048576) (hlq : rs.length ≤ 1048576) (hcap : ss.length ≤ c') :
    Calls Try.prog 29 #[.agg #[.slice A ps.length c, .slice A' ss.length c'], .int .i64 f, .slice R rs.length d] w fun e w' => e = .returned (.bool (routeOk ps ss f rs)) ∧ Below w.heap.size w w' := by
  have hr1 : ∀ o, Rd (w.alloc o) (w.alloc o).heap.size Point.at_ 2 A ps := fun o => (hr.alloc (Nat.le_refl _) o).more (by simp)
  have hr2 : ∀ o, Rd (w.alloc o) (w.alloc o).heap.size Segment.at_ 5 A' ss := fun o => (hr'.alloc (Nat.le_refl _) o).more (by simp)
  have hk0 := Blk.new w 31 #[.slice A ps.length c, .slice A' ss.length c']
  have hB0 : Below w.heap.size w (w.alloc (.cells #[.slice A ps.length c, .slice A' ss.length c'] 31)) := (Below.refl _ _).alloc (Nat.le_refl _) _
  go_enter Try.func29, Try.ntmps29
  go_wp2_with fail
  refine (implChartOk_any _ _ _ _ _ _ _ (hr1 _) (hr2 _) hwf hwf' hlen hlen' hcap).mono ?_
  rintro e w1 ⟨rfl, hb1⟩
  have hk1 := hk0.next hb1
  have hB1 := hB0.trans (hb1.mono hB0.size)
  have c0 := hk1.cell 0
  have c1 := hk1.cell 1
  cases hok : chartOk ps ss
  · go_wp2_with fail
    go_ret
    exact ⟨ret_bool (by simp [routeOk, hok]), hB1⟩
  have hr2' := (hr'.below hB1).more hB1.size
  have hq2 := (hq.below hB1).more hB1.size
  clear hr hr' hr1 hr2 hk0 hwf hwf'
  go_wp2_with (go_at_call 60; refine (implPoints_any A A' R c c' d ps ss f rs _ hr2' hq2 hok hlq).mono ?_; rintro e w2 ⟨A2, c2, rfl, _, hb2⟩)
  have hB2 := hB1.trans (hb2.mono hB1.size)
  go_ret
  exact ⟨ret_bool (by simp [routeOk, hok]), hB2⟩

set_option maxHeartbeats 4000000 in
set_option maxRecDepth 20000 in
theorem specRouteOk_any (A A' R : Option Addr) (c c' d : Nat) (ps : List Point) (ss : List Segment) (f : Int) (rs : List Int) (w : World) (hr : Rd w w.heap.size Point.at_ 2 A ps) (hr' : Rd w w.heap.size Segment.at_ 5 A' ss) (hq : Rd w w.heap.size intAt 1 R rs) (hwf : ∀ p ∈ ps, p.wf) (hwf' : ∀ p ∈ ss, p.wf) (hlen : ps.length ≤ 1048576) (hlen' : ss.length ≤ 1048576) (hlq : rs.length ≤ 1048576) (hcap : ss.length ≤ c') :
    Calls Try.prog 28 #[.agg #[.slice A ps.length c, .slice A' ss.length c'], .int .i64 f, .slice R rs.length d] w fun e w' => e = .returned (.bool (routeOk ps ss f rs)) ∧ Below w.heap.size w w' := by
  have hr1 : ∀ o, Rd (w.alloc o) (w.alloc o).heap.size Point.at_ 2 A ps := fun o => (hr.alloc (Nat.le_refl _) o).more (by simp)
  have hr2 : ∀ o, Rd (w.alloc o) (w.alloc o).heap.size Segment.at_ 5 A' ss := fun o => (hr'.alloc (Nat.le_refl _) o).more (by simp)
  have hk0 := Blk.new w 31 #[.slice A ps.length c, .slice A' ss.length c']
  have hB0 : Below w.heap.size w (w.alloc (.cells #[.slice A ps.length c, .slice A' ss.length c'] 31)) := (Below.refl _ _).alloc (Nat.le_refl _) _
  go_enter Try.func28, Try.ntmps28
  go_wp2_with fail
  refine (specChartOk_any _ _ _ _ _ _ _ (hr1 _) (hr2 _) hwf hwf' hlen hlen' hcap).mono ?_
  rintro e w1 ⟨rfl, hb1⟩
  have hk1 := hk0.next hb1
  have hB1 := hB0.trans (hb1.mono hB0.size)
  have c0 := hk1.cell 0
  have c1 := hk1.cell 1
  cases hok : chartOk ps ss
  · go_wp2_with fail
    go_ret
    exact ⟨ret_bool (by simp [routeOk, hok]), hB1⟩
  cases hf : inB f 0 ((ps.length : Int) - 1)
  · go_wp2_with (go_at_call 51; refine (l01In_any _ _ _ _).mono ?_; rintro e w' ⟨rfl, rfl⟩)
    go_ret
    exact ⟨ret_bool (by simp [routeOk, hok, pointsF, idxB_inB, hf]), hB1⟩
  have hf' : idxB f ps.length = true := by rw [idxB_inB]; exact hf
  have hr2' := (hr'.below hB1).more hB1.size
  have hq2 := (hq.below hB1).more hB1.size
  clear hr hr' hr1 hr2 hk0 hwf hwf'
  go_wp2_with (first | (go_at_call 51; refine (l01In_any _ _ _ _).mono ?_; rintro e w' ⟨rfl, rfl⟩) | (go_at_call 59; refine (specPoints_any A A' R c c' d ps ss f rs _ hr2' hq2 hok hf' hlq).mono ?_; rintro e w2 ⟨A2, c2, rfl, _, hb2⟩))
  have hB2 := hB1.trans (hb2.mono hB1.size)
  go_ret
  exact ⟨ret_bool (by simp [routeOk, hok]), hB2⟩

end Go.Proofs.Ytjmfgncakegjaaa
