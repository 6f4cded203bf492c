/-
  The contracts of the laws' helpers on Window and on slices of it: to, eq, sz, mark, held. Printed by a program of the claim's author.
-/
import Derived.Test.YtmhiohijpnmcpaaModelW
import Derived.Test.YtmhiohijpnmcpaaRows
import Derived.Test.YtmhiohijpnmcpaaSlc
namespace Go.Proofs.Ytmhiohijpnmcpaa
open Go.RowKit

set_option maxHeartbeats 400000 in
theorem eqWindow_same (x0 : Int) (x1 : Int) (w : World) :
    Calls Try.prog 77 #[.agg #[.int .i64 x0, .int .i64 x1], .agg #[.int .i64 x0, .int .i64 x1]] w
      fun e w' => e = .returned (.bool true) ∧ (w.alloc (.cells #[.int .i64 x0, .int .i64 x1] 83)).alloc (.cells #[.int .i64 x0, .int .i64 x1] 83) = w' := by
  go_enter Try.func77, Try.ntmps77
  go_wp2
  go_ret
  exact ⟨rfl, rfl⟩

set_option maxHeartbeats 2000000 in
theorem eqWindowS_same (A A' : Option Addr) (c c' : Nat) (ps : List Window) (w : World) (hr : Rd w w.heap.size Window.at_ 2 A ps) (hr' : Rd w w.heap.size Window.at_ 2 A' ps) (hlen : ps.length ≤ 1048576) :
    Calls Try.prog 35 #[.slice A ps.length c, .slice A' ps.length c'] w fun e w' => e = .returned (.bool true) ∧ Below w.heap.size w w' := by
  go_enter Try.func35, Try.ntmps35
  go_wp2_with fail
  go_loopw [5] (fun i wr => ∃ k : Nat, k ≤ ps.length ∧ i = .int .i64 k ∧ Below w.heap.size w wr) (fun i _ => ps.length - (intOf i).toNat)
  case atStart => exact ⟨0, Nat.zero_le _, rfl, Below.refl _ _⟩
  case round =>
    obtain ⟨k, hk, rfl, hbel⟩ := hrel
    by_cases hlt : k < ps.length
    · obtain ⟨g, off, rfl, hg, hc⟩ := hr (by omega)
      obtain ⟨g', off', rfl, hg', hc'⟩ := hr' (by omega)
      obtain ⟨p, hp⟩ : ∃ p, ps[k]? = some p := ⟨_, List.getElem?_eq_getElem hlt⟩
      have c0 := (hbel.cell (p := ⟨g, off + k * 2 + 0, none⟩) hg).trans (hc k p hp 0 (by omega))
      have c1 := (hbel.cell (p := ⟨g, off + k * 2 + 1, none⟩) hg).trans (hc k p hp 1 (by omega))
      have d0 := (hbel.cell (p := ⟨g', off' + k * 2 + 0, none⟩) hg').trans (hc' k p hp 0 (by omega))
      have d1 := (hbel.cell (p := ⟨g', off' + k * 2 + 1, none⟩) hg').trans (hc' k p hp 1 (by omega))
      simp only [Window.at_, Nat.add_zero] at c0 c1 d0 d1
      have hk0 : (0 : Int) ≤ (k : Int) := Int.natCast_nonneg _
      have hk1 : (k : Int) < (ps.length : Int) := by omega
      have hs := hbel.size
      have HC := Lib.hid hc
      have HR := Lib.hid hr
      have HC' := Lib.hid hc'
      have HR' := Lib.hid hr'
      clear hc hr hc' hr'
      go_wp2_with fail
      go_region_held3 (fun w' => w'.cell? ⟨g, off + k * 2, none⟩ = some (.int .i64 p.frm) ∧ w'.cell? ⟨g, off + k * 2 + 1, none⟩ = some (.int .i64 p.to_) ∧ w'.cell? ⟨g', off' + k * 2, none⟩ = some (.int .i64 p.frm) ∧ w'.cell? ⟨g', off' + k * 2 + 1, none⟩ = some (.int .i64 p.to_)) (go_keep)
        (first | (go_at_call 77; refine (eqWindow_same _ _ _).mono ?_; rintro e w' ⟨rfl, rfl⟩))
      go_wp2_with fail
      go_roundw
      case rel =>
        refine ⟨k + 1, by omega, by go_num, ?_⟩
        exact ((hbel.drew.alloc (by simpa using hs) _).alloc (by simp; omega) _)
      case measure => simp [intOf]; omega
    · have hk' : k = ps.length := by omega
      subst hk'
      go_wp2_with fail
      go_ret
      exact ⟨rfl, hbel⟩

def markWindowL (k : Int) (n : Nat) : List Window := (List.range n).map fun i : Nat => ⟨k + 2 * (i : Int), k + 2 * (i : Int) + 1⟩
theorem markWindowL_length (k : Int) (n : Nat) : (markWindowL k n).length = n := by simp [markWindowL]
theorem markWindowL_at {k : Int} {n j : Nat} (hj : j < n) : (markWindowL k n)[j]? = some ⟨k + 2 * (j : Int), k + 2 * (j : Int) + 1⟩ := by
  simp [markWindowL, hj]

set_option maxHeartbeats 2000000 in
theorem markWindowS_any (A : Option Addr) (c lo hi : Nat) (ps : List Window) (k : Int) (w : World) (hsl : Sl w lo hi A 83 Window.at_ 2 ps) (hlen : ps.length ≤ 1048576) (hk0 : 0 ≤ k) (hk1 : k ≤ 4194304) :
    Calls Try.prog 36 #[.slice A ps.length c, .int .i64 k] w fun e w' => e = .returned (.int .i64 (k + 2 * (ps.length : Int))) ∧ Sl w' lo hi A 83 Window.at_ 2 (markWindowL k ps.length) ∧ Out lo hi w w' := by
  obtain ⟨ms, hms⟩ : ∃ ms, ms = markWindowL k ps.length := ⟨_, rfl⟩
  have hml : ms.length = ps.length := by rw [hms, markWindowL_length]
  have HMS := Lib.hid hms
  have hst := MarkInv.start (ms := ms) hsl hml
  rw [← hms]
  clear hms
  go_enter Try.func36, Try.ntmps36
  go_wp2_with fail
  go_loopw [1, 5] (fun q i wr => ∃ j : Nat, j ≤ ps.length ∧ i = .int .i64 j ∧ q = .int .i64 (k + 2 * (j : Int)) ∧ MarkInv w wr A 83 Window.at_ 2 ms j) (fun _ i _ => ps.length - (intOf i).toNat)
  case atStart => exact ⟨0, Nat.zero_le _, rfl, by simp, hst⟩
  case round =>
    obtain ⟨j, hj, rfl, rfl, hinv⟩ := hrel
    by_cases hlt : j < ps.length
    · obtain ⟨g, cs, rfl, hblk, hfill, hgr⟩ := hinv.some_ (by rw [hml]; omega)
      have HP := Lib.hid ((show ms[j]? = some ⟨k + 2 * (j : Int), k + 2 * (j : Int) + 1⟩ by rw [HMS.out]; exact markWindowL_at hlt))
      obtain ⟨z0, e0⟩ := hfill.room (by rw [hml]; exact hlt) 0 (by omega)
      obtain ⟨z1, e1⟩ := hfill.room (by rw [hml]; exact hlt) 1 (by omega)
      have d0 := (hblk.cell (j * 2 + 0)).trans e0
      have d1 := (hblk.cell (j * 2 + 1)).trans e1
      have f0 := hblk.frozen (j * 2)
      have f1 := hblk.frozen (j * 2 + 1)
      simp only [Nat.add_zero] at d0
      have HML := Lib.hid hml
      have HS := Lib.hid hsl
      have HT := Lib.hid hst
      have HI := Lib.hid hinv
      clear e0 e1 hml hsl hst hinv
      go_wp2_with fail
      go_roundw
      case rel =>
        refine ⟨j + 1, by omega, by go_num, by go_num, .inr ⟨g, _, rfl, ((hblk.set_ _ _).set_ _ _), hfill.set_ HP.out [.int .i64 (k + 2 * (j : Int)), .int .i64 (k + 2 * (j : Int) + 1)] rfl ?_, (grown_set (grown_set hgr _ _) _ _)⟩⟩
        intro q hq
        match q, hq with
        | 0, _ => rfl
        | 1, _ => rfl
      case measure => simp [intOf]; omega
    · have hk' : j = ps.length := by omega
      subst hk'
      go_wp2_with fail
      go_ret
      exact ⟨rfl, hinv.done hsl hml, hinv.out hsl⟩

set_option maxHeartbeats 2000000 in
theorem heldWindowS_any (A : Option Addr) (c n : Nat) (k : Int) (w : World) (hr : Rd w w.heap.size Window.at_ 2 A (markWindowL k n)) (hlen : n ≤ 1048576) (hk0 : 0 ≤ k) (hk1 : k ≤ 4194304) :
    Calls Try.prog 37 #[.slice A n c, .int .i64 k] w fun e w' => e = .returned (.int .i64 (k + 2 * (n : Int))) ∧ w = w' := by
  go_enter Try.func37, Try.ntmps37
  go_wp2_with fail
  go_loop [1, 5] (fun q i => ∃ j : Nat, j ≤ n ∧ i = .int .i64 j ∧ q = .int .i64 (k + 2 * (j : Int))) (fun _ i => n - (intOf i).toNat)
  case atStart => exact ⟨0, Nat.zero_le _, rfl, by simp⟩
  case round =>
    obtain ⟨j, hj, rfl, rfl⟩ := hrel
    by_cases hlt : j < n
    · obtain ⟨g, off, rfl, hg, hc⟩ := hr (by rw [markWindowL_length]; omega)
      have c0 := hc j _ (markWindowL_at hlt) 0 (by omega)
      have c1 := hc j _ (markWindowL_at hlt) 1 (by omega)
      simp only [Window.at_, Nat.add_zero] at c0 c1
      have HC := Lib.hid hc
      have HR := Lib.hid hr
      clear hc hr
      go_wp2_with fail
      go_round
      case rel => exact ⟨j + 1, by omega, by go_num, by go_num⟩
      case measure => simp [intOf]; omega
    · have hk' : j = n := by omega
      subst hk'
      go_wp2_with fail
      go_ret
      exact ⟨rfl, rfl⟩

end Go.Proofs.Ytmhiohijpnmcpaa
