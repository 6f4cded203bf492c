/-
  The contract of InBand, the reference's. Printed by a program of the claim's author.
-/
import Derived.Test.YtmhiohijpnmcpaaForeT
import Derived.Test.YtmhiohijpnmcpaaGuard
namespace Go.Proofs.Ytmhiohijpnmcpaa
open Go.RowKit

set_option maxHeartbeats 4000000 in
theorem specInBand_any (m : Int) (A A' : Option Addr) (c c' : Nat) (ps : List Part) (ss : List Surge) (t lev : Int) (w : World) (hr : Rd w w.heap.size Part.at_ 3 A ps) (hr' : Rd w w.heap.size Surge.at_ 3 A' ss) (hwf : ∀ p ∈ ps, p.wf) (hlen : ps.length ≤ 1048576) (hlen' : ss.length ≤ 1048576) :
    Calls Try.prog 25 #[.agg #[.int .i64 m, .slice A ps.length c, .slice A' ss.length c'], .int .i64 t, .int .i64 lev] w fun e w' => e = .returned (.bool (bandB m ps ss t lev)) ∧ Below w.heap.size w w' := by
  have hr1 : ∀ o, Rd (w.alloc o) (w.alloc o).heap.size Part.at_ 3 A ps := fun o => (hr.alloc (Nat.le_refl _) o).more (by simp)
  have hr2 : ∀ o, Rd (w.alloc o) (w.alloc o).heap.size Surge.at_ 3 A' ss := fun o => (hr'.alloc (Nat.le_refl _) o).more (by simp)
  have hk0 := Blk.new w 35 #[.int .i64 m, .slice A ps.length c, .slice A' ss.length c']
  have hB0 : Below w.heap.size w (w.alloc (.cells #[.int .i64 m, .slice A ps.length c, .slice A' ss.length c'] 35)) := (Below.refl _ _).alloc (Nat.le_refl _) _
  have hcs := fun W h h' => specSurgeAt_any m A A' c c' ps ss t W h h' hwf hlen hlen'
  have hcl := fun W h h' => specLowAt_any m A A' c c' ps ss t W h h' hwf hlen hlen'
  have hch := fun W h h' => specHighAt_any m A A' c c' ps ss t W h h' hwf hlen hlen'
  cases hC : surgeC m ps ss t
  · have HRES : Hid (bandB m ps ss t lev = false) := Lib.hid (by simp [bandB, hC])
    rw [hC] at hcs
    go_enter Try.func25, Try.ntmps25
    go_wp2_with fail
    refine (hcs _ (hr1 _) (hr2 _)).mono ?_
    rintro e w1 ⟨rfl, hb1⟩
    have hB1 := hB0.trans (hb1.mono hB0.size)
    have hk1 := hk0.next hb1
    have c0 := hk1.cell 0
    have c1 := hk1.cell 1
    have c2 := hk1.cell 2
    clear hcl hch hcs hr hr' hr1 hr2
    go_wp2_with fail
    refine wp_region_held_drew (S := (fun w' => w'.cell? ⟨w.heap.size, 0, none⟩ = some (.int .i64 m) ∧ w'.cell? ⟨w.heap.size, 1, none⟩ = some (.slice A ps.length c) ∧ w'.cell? ⟨w.heap.size, 2, none⟩ = some (.slice A' ss.length c'))) (by kernel_rfl) ?_ (fun hHeld => ?_)
    · go_keep
    refine take_yes (i := 0) 17 (v := ?_) rfl rfl (by kernel_rfl) (by kernel_rfl) (by kernel_rfl) (fun _ _ _ h => h) (by rfl) ?_ (by assumption) ?_
    rotate_left
    · intro w hSw
      try dsimp only at hSw
      go_simp
      all_goals with_reducible rfl
    try simp only [Act.put, List.setIfInBounds_toArray, List.set_cons_zero, List.set_cons_succ]
    refine take_yes (i := 1) 18 (v := ?_) rfl rfl (by kernel_rfl) (by kernel_rfl) (by kernel_rfl) (fun _ _ _ h => h) (by rfl) ?_ (by assumption) ?_
    rotate_left
    · intro w hSw
      try dsimp only at hSw
      go_simp
      all_goals with_reducible rfl
    try simp only [Act.put, List.setIfInBounds_toArray, List.set_cons_zero, List.set_cons_succ]
    refine take_no (i := 2) 19 rfl rfl (by kernel_rfl) (by kernel_rfl) (by kernel_rfl) (fun _ _ _ h => h) (by rfl) (by assumption) ?_
    try simp only [Act.put, List.setIfInBounds_toArray, List.set_cons_zero, List.set_cons_succ]
    refine take_no (i := 3) 20 rfl rfl (by kernel_rfl) (by kernel_rfl) (by kernel_rfl) (fun _ _ _ h => h) (by rfl) (by assumption) ?_
    try simp only [Act.put, List.setIfInBounds_toArray, List.set_cons_zero, List.set_cons_succ]
    refine take_no (i := 4) 21 rfl rfl (by kernel_rfl) (by kernel_rfl) (by kernel_rfl) (fun _ _ _ h => h) (by rfl) (by assumption) ?_
    try simp only [Act.put, List.setIfInBounds_toArray, List.set_cons_zero, List.set_cons_succ]
    refine take_no (i := 6) 23 rfl rfl (by kernel_rfl) (by kernel_rfl) (by kernel_rfl) (fun _ _ _ h => h) (by rfl) (by assumption) ?_
    try simp only [Act.put, List.setIfInBounds_toArray, List.set_cons_zero, List.set_cons_succ]
    refine take_no (i := 7) 24 rfl rfl (by kernel_rfl) (by kernel_rfl) (by kernel_rfl) (fun _ _ _ h => h) (by rfl) (by assumption) ?_
    try simp only [Act.put, List.setIfInBounds_toArray, List.set_cons_zero, List.set_cons_succ]
    refine take_no (i := 5) 22 rfl rfl (by kernel_rfl) (by kernel_rfl) (by kernel_rfl) (fun _ _ _ h => h) (by rfl) (by assumption) ?_
    try simp only [Act.put, List.setIfInBounds_toArray, List.set_cons_zero, List.set_cons_succ]
    refine take_no (i := 8) 25 rfl rfl (by kernel_rfl) (by kernel_rfl) (by kernel_rfl) (fun _ _ _ h => h) (by rfl) (by assumption) ?_
    try simp only [Act.put, List.setIfInBounds_toArray, List.set_cons_zero, List.set_cons_succ]
    refine take_no (i := 9) 26 rfl rfl (by kernel_rfl) (by kernel_rfl) (by kernel_rfl) (fun _ _ _ h => h) (by rfl) (by assumption) ?_
    try simp only [Act.put, List.setIfInBounds_toArray, List.set_cons_zero, List.set_cons_succ]
    refine take_yes (i := 10) 27 (v := ?_) rfl rfl (by kernel_rfl) (by kernel_rfl) (by kernel_rfl) (fun _ _ _ h => h) (by rfl) ?_ (by assumption) ?_
    rotate_left
    · intro w hSw
      try dsimp only at hSw
      go_simp
      all_goals with_reducible rfl
    try simp only [Act.put, List.setIfInBounds_toArray, List.set_cons_zero, List.set_cons_succ]
    refine take_yes (i := 11) 6 (v := ?_) rfl rfl (by kernel_rfl) (by kernel_rfl) (by kernel_rfl) (fun _ _ _ h => h) (by rfl) ?_ (by assumption) ?_
    rotate_left
    · intro w hSw
      try dsimp only at hSw
      go_simp
      all_goals with_reducible rfl
    try simp only [Act.put, List.setIfInBounds_toArray, List.set_cons_zero, List.set_cons_succ]
    refine wpAnyH_done (by kernel_rfl) ?_ _
    go_wp2_with fail
    go_ret
    exact ⟨ret_bool HRES.out.symm, hB1.drew⟩
  have HRES : Hid (bandB m ps ss t lev = inB lev (lowF m ps ss t) (highF m ps ss t)) := Lib.hid (by simp [bandB, hC])
  rw [hC] at hcs
  go_enter Try.func25, Try.ntmps25
  go_wp2_with fail
  refine (hcs _ (hr1 _) (hr2 _)).mono ?_
  rintro e w1 ⟨rfl, hb1⟩
  have hB1 := hB0.trans (hb1.mono hB0.size)
  have hk1 := hk0.next hb1
  have c0 := hk1.cell 0
  have c1 := hk1.cell 1
  have c2 := hk1.cell 2
  have hla : w.heap.size < w1.heap.size := hk1.lt
  have rdp : Rd w1.drew w1.drew.heap.size Part.at_ 3 A ps := (hr.below hB1).more hB1.size
  have rds : Rd w1.drew w1.drew.heap.size Surge.at_ 3 A' ss := (hr'.below hB1).more hB1.size
  have hB1d := hB1.drew
  clear hcs hr hr' hr1 hr2 hk0 hB0 hb1 hB1 hwf
  go_wp2_with fail
  go_region_held3 (fun w' => w'.cell? ⟨w.heap.size, 0, none⟩ = some (.int .i64 m) ∧ w'.cell? ⟨w.heap.size, 1, none⟩ = some (.slice A ps.length c) ∧ w'.cell? ⟨w.heap.size, 2, none⟩ = some (.slice A' ss.length c')) (go_keep)
    (first
      | (go_at_call 49; refine (l01In_any _ _ _ _).mono ?_; rintro e w' ⟨rfl, rfl⟩)
      | (go_at_call 23; refine (hch _ ?_ ?_).mono ?_; exact (rdp.below hb3).more hb3.size; exact (rds.below hb3).more hb3.size; rintro e w4 ⟨rfl, hb4⟩; have hcc4 : ∀ b o, b < w3.heap.size → w4.cell? ⟨b, o, none⟩ = w3.cell? ⟨b, o, none⟩ := (bcell hb4).1; have hlA4 : w.heap.size < w4.heap.size := Nat.lt_of_lt_of_le hlA3 hb4.size)
      | (go_at_call 21; refine (hcl _ ?_ ?_).mono ?_; exact rdp; exact rds; rintro e w3 ⟨rfl, hb3⟩; have hcc3 : ∀ b o, b < w1.heap.size → w3.cell? ⟨b, o, none⟩ = w1.cell? ⟨b, o, none⟩ := (bcell hb3).1; have hlA3 : w.heap.size < w3.heap.size := Nat.lt_of_lt_of_le hla hb3.size))
  go_wp2_with fail
  go_ret
  have hB3 := hB1d.trans (hb3.mono hB1d.size)
  exact ⟨ret_bool HRES.out.symm, hB3.trans (hb4.mono hB3.size)⟩

end Go.Proofs.Ytmhiohijpnmcpaa
