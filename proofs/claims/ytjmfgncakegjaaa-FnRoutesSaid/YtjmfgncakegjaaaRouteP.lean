/-
  The contracts of RoutePoints, the program's and the reference's.
-/
import Derived.Test.YtjmfgncakegjaaaRouteO
import Derived.Test.YtjmfgncakegjaaaModelQ
namespace Go.Proofs.Ytjmfgncakegjaaa
open Go.RowKit

set_option maxHeartbeats 4000000 in
set_option maxRecDepth 20000 in
theorem implRoutePoints_any (A A' R : Option Addr) (c c' d : Nat) (ps : List Point) (ss : List Segment) (f : Int) (rs : List Int) (w : World) (hr : Rd w w.heap.size Point.at_ 2 A ps) (hr' : Rd w w.heap.size Segment.at_ 5 A' ss) (hq : Rd w w.heap.size intAt 1 R rs) (hwf : ∀ p ∈ ps, p.wf) (hwf' : ∀ p ∈ ss, p.wf) (hlen : ps.length ≤ 1048576) (hlen' : ss.length ≤ 1048576) (hlq : rs.length ≤ 1048576) (hcap : ss.length ≤ c') :
    Calls Try.prog 31 #[.agg #[.slice A ps.length c, .slice A' ss.length c'], .int .i64 f, .slice R rs.length d] w (ResSl 3 intAt 1 (routePts ps ss f rs) w) := by
  have hr1 : ∀ o, Rd (w.alloc o) (w.alloc o).heap.size Point.at_ 2 A ps := fun o => (hr.alloc (Nat.le_refl _) o).more (by simp)
  have hr2 : ∀ o, Rd (w.alloc o) (w.alloc o).heap.size Segment.at_ 5 A' ss := fun o => (hr'.alloc (Nat.le_refl _) o).more (by simp)
  have hk0 := Blk.new w 31 #[.slice A ps.length c, .slice A' ss.length c']
  have hB0 : Below w.heap.size w (w.alloc (.cells #[.slice A ps.length c, .slice A' ss.length c'] 31)) := (Below.refl _ _).alloc (Nat.le_refl _) _
  go_enter Try.func31, Try.ntmps31
  go_wp2_with fail
  refine (implChartOk_any _ _ _ _ _ _ _ (hr1 _) (hr2 _) hwf hwf' hlen hlen' hcap).mono ?_
  rintro e w1 ⟨rfl, hb1⟩
  have hk1 := hk0.next hb1
  have hB1 := hB0.trans (hb1.mono hB0.size)
  have c0 := hk1.cell 0
  have c1 := hk1.cell 1
  cases hok : chartOk ps ss
  · go_wp2_with fail
    go_ret
    exact ResSl.nil_ (by simp [routePts, hok]) hB1
  have hr2' := (hr'.below hB1).more hB1.size
  have hq2 := (hq.below hB1).more hB1.size
  clear hr hr' hr1 hr2 hk0 hwf hwf'
  go_wp2_with (go_at_call 60; refine (implPoints_any A A' R c c' d ps ss f rs _ hr2' hq2 hok hlq).mono ?_; rintro e w2 ⟨A2, c2, rfl, hsl, hb2⟩)
  have hB2 := hB1.trans (hb2.mono hB1.size)
  go_ret
  exact ResSl.mk_ (by rw [routePts, if_pos hok]) rfl (hsl.mono hB1.size (Nat.le_refl _)) hB2

set_option maxHeartbeats 4000000 in
set_option maxRecDepth 20000 in
theorem specRoutePoints_any (A A' R : Option Addr) (c c' d : Nat) (ps : List Point) (ss : List Segment) (f : Int) (rs : List Int) (w : World) (hr : Rd w w.heap.size Point.at_ 2 A ps) (hr' : Rd w w.heap.size Segment.at_ 5 A' ss) (hq : Rd w w.heap.size intAt 1 R rs) (hwf : ∀ p ∈ ps, p.wf) (hwf' : ∀ p ∈ ss, p.wf) (hlen : ps.length ≤ 1048576) (hlen' : ss.length ≤ 1048576) (hlq : rs.length ≤ 1048576) (hcap : ss.length ≤ c') :
    Calls Try.prog 30 #[.agg #[.slice A ps.length c, .slice A' ss.length c'], .int .i64 f, .slice R rs.length d] w (ResSl 3 intAt 1 (routePts ps ss f rs) w) := by
  have hr1 : ∀ o, Rd (w.alloc o) (w.alloc o).heap.size Point.at_ 2 A ps := fun o => (hr.alloc (Nat.le_refl _) o).more (by simp)
  have hr2 : ∀ o, Rd (w.alloc o) (w.alloc o).heap.size Segment.at_ 5 A' ss := fun o => (hr'.alloc (Nat.le_refl _) o).more (by simp)
  have hk0 := Blk.new w 31 #[.slice A ps.length c, .slice A' ss.length c']
  have hB0 : Below w.heap.size w (w.alloc (.cells #[.slice A ps.length c, .slice A' ss.length c'] 31)) := (Below.refl _ _).alloc (Nat.le_refl _) _
  go_enter Try.func30, Try.ntmps30
  go_wp2_with fail
  refine (specRouteOk_any _ _ _ _ _ _ _ _ _ _ _ (hr1 _) (hr2 _) ((hq.alloc (Nat.le_refl _) _).more (by simp)) hwf hwf' hlen hlen' hlq hcap).mono ?_
  rintro e w1 ⟨rfl, hb1⟩
  have hk1 := hk0.next hb1
  have hB1 := hB0.trans (hb1.mono hB0.size)
  have c0 := hk1.cell 0
  have c1 := hk1.cell 1
  cases ho : routeOk ps ss f rs
  · go_wp2_with fail
    go_ret
    refine ResSl.nil_ ?_ hB1
    unfold routePts
    split
    · rename_i hok
      rw [routeOk, hok, Bool.true_and] at ho
      cases h : pointsF ps.length ss f rs with
      | none => rfl
      | some l => rw [h] at ho; cases ho
    · rfl
  have hok : chartOk ps ss = true := by
    rw [routeOk, Bool.and_eq_true] at ho
    exact ho.1
  have hf : idxB f ps.length = true := by
    rw [routeOk, Bool.and_eq_true] at ho
    cases h : idxB f ps.length
    · rw [pointsF, h] at ho
      simp at ho
    · rfl
  have hr2' := (hr'.below hB1).more hB1.size
  have hq2 := (hq.below hB1).more hB1.size
  clear hr hr' hr1 hr2 hk0 hwf hwf'
  go_wp2_with (go_at_call 59; refine (specPoints_any A A' R c c' d ps ss f rs _ hr2' hq2 hok hf hlq).mono ?_; rintro e w2 ⟨A2, c2, rfl, hsl, hb2⟩)
  have hB2 := hB1.trans (hb2.mono hB1.size)
  go_ret
  exact ResSl.mk_ (by rw [routePts, if_pos hok]) rfl (hsl.mono hB1.size (Nat.le_refl _)) hB2

end Go.Proofs.Ytjmfgncakegjaaa
