/-
  The contract of l03Cut.
-/
import Derived.Test.YtmhiohijpnmcpaaSurApp
namespace Go.Proofs.Ytmhiohijpnmcpaa
open Go.RowKit

set_option maxHeartbeats 1000000 in
theorem l03Cut_any (s : Surge) (x y : Int) (w : World) :
    Calls Try.prog 65 #[.agg #[.int .i64 s.frm, .int .i64 s.low, .int .i64 s.high], .int .i64 x, .int .i64 y] w fun e w' => e = .returned (.agg #[.int .i64 s.frm, .int .i64 (max s.low x), .int .i64 (min s.high y)]) ∧ Below w.heap.size w w' := by
  have hB0 : ∀ o1 o2, Below w.heap.size w ((w.alloc o1).alloc o2) := fun o1 o2 => ((Below.refl _ _).alloc (Nat.le_refl _) _).alloc (by simp) _
  have HB0 := Lib.hid hB0
  have e0 : Hid (max s.low x = if s.low < x then x else s.low) := Lib.hid (by split <;> omega)
  have e1 : Hid (min s.high y = if y < s.high then y else s.high) := Lib.hid (by split <;> omega)
  clear hB0
  by_cases ta : s.low < x <;> by_cases tb : y < s.high
  all_goals
    go_enter Try.func65, Try.ntmps65
    go_wp2_with fail
    refine bodyPost_ret (v := .agg #[.int .i64 s.frm, .int .i64 (max s.low x), .int .i64 (min s.high y)]) ?_ rfl ?_
    · have e0 := e0.out
      have e1 := e1.out
      simp [results, Try.results65, go_sem, e0, e1, ta, tb] <;> (intros; omega)
    · exact ⟨rfl, HB0.out _ _⟩

end Go.Proofs.Ytmhiohijpnmcpaa
