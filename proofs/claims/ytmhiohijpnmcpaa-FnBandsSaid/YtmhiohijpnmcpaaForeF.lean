/-
  The contracts of ForecastOk, the program's and the reference's. Printed by a program of the claim's author.
-/
import Derived.Test.YtmhiohijpnmcpaaForeL
import Derived.Test.YtmhiohijpnmcpaaSurge1
import Derived.Test.YtmhiohijpnmcpaaGuard
namespace Go.Proofs.Ytmhiohijpnmcpaa
open Go.RowKit

set_option maxHeartbeats 4000000 in
theorem implForecastOk_any (m : Int) (A A' : Option Addr) (c c' : Nat) (ps : List Part) (ss : List Surge) (w : World) (hr : Rd w w.heap.size Part.at_ 3 A ps) (hr' : Rd w w.heap.size Surge.at_ 3 A' ss) (hwf : ∀ p ∈ ps, p.wf) (hlen : ps.length ≤ 1048576) (hlen' : ss.length ≤ 1048576) :
    Calls Try.prog 17 #[.agg #[.int .i64 m, .slice A ps.length c, .slice A' ss.length c']] w fun e w' => e = .returned (.bool (foreOk m ps ss)) ∧ Below w.heap.size w w' := by
  have hr1 : ∀ o, Rd (w.alloc o) (w.alloc o).heap.size Part.at_ 3 A ps := fun o => (hr.alloc (Nat.le_refl _) o).more (by simp)
  have hr2 : ∀ o, Rd (w.alloc o) (w.alloc o).heap.size Surge.at_ 3 A' ss := fun o => (hr'.alloc (Nat.le_refl _) o).more (by simp)
  have hk0 := Blk.new w 35 #[.int .i64 m, .slice A ps.length c, .slice A' ss.length c']
  have hB0 : Below w.heap.size w (w.alloc (.cells #[.int .i64 m, .slice A ps.length c, .slice A' ss.length c'] 35)) := (Below.refl _ _).alloc (Nat.le_refl _) _
  go_enter Try.func17, Try.ntmps17
  go_wp2_with fail
  refine (implTideOk_any _ _ _ _ _ (hr1 _) hwf hlen).mono ?_
  rintro e w1 ⟨rfl, hb1⟩
  have hk1 := hk0.next hb1
  have hB1 := hB0.trans (hb1.mono hB0.size)
  have c2 := hk1.cell 2
  clear hr1 hr2 hk0 hB0 hb1 hr hwf
  cases hok : tideOk m ps
  · go_wp2_with fail
    go_ret
    exact ⟨ret_bool (by simp [foreOk, hok]), hB1⟩
  cases hn : inB ss.length 1 6
  · go_wp2_with (go_at_call 54; refine (within_any _ _ _ _).mono ?_; rintro e w' ⟨rfl, rfl⟩)
    go_ret
    exact ⟨ret_bool (by simp [foreOk, hn]), hB1⟩
  have hn1 := inB_true hn
  obtain ⟨g, off, rfl, hg, hc⟩ := hr' (by omega)
  obtain ⟨z, hz⟩ : ∃ z, ss[0]? = some z := ⟨_, List.getElem?_eq_getElem (by omega)⟩
  have z0 := (hB1.cell (p := ⟨g, off + 0 * 3 + 0, none⟩) hg).trans (hc 0 z hz 0 (by omega))
  simp only [Surge.at_, Nat.add_zero, Nat.zero_mul] at z0
  have HZ := Lib.hid hz
  have HR' := Lib.hid hr'
  have HC := Lib.hid hc
  clear hr' hc hz
  cases hzz : (z.frm == 0)
  · have hzn : (z.frm != 0) = true := by simp [bne, hzz]
    have HF : Hid (zeroB ss = false) := Lib.hid (by simp [zeroB, HZ.out]; simpa using hzz)
    go_wp2_with (go_at_call 54; refine (within_any _ _ _ _).mono ?_; rintro e w' ⟨rfl, rfl⟩)
    go_ret
    exact ⟨ret_bool (by simp [foreOk, HF.out]), hB1⟩
  have hzn : (z.frm != 0) = false := by simp [bne, hzz]
  have HZT : Hid (zeroB ss = true) := Lib.hid (by simp [zeroB, HZ.out]; simpa using hzz)
  go_wp2_with (go_at_call 54; refine (within_any _ _ _ _).mono ?_; rintro e w' ⟨rfl, rfl⟩)
  clear c2 z0 hzz hzn
  go_loopw [27] (fun i wr => ∃ k : Nat, k ≤ ss.length ∧ i = .int .i64 k ∧ allI (srgF ss) 0 ss = allI (srgF ss) k (ss.drop k) ∧ Blk wr w.heap.size 35 #[.int .i64 m, .slice A ps.length c, .slice (some ⟨g, off, none⟩) ss.length c'] ∧ Below w.heap.size w wr) (fun i _ => ss.length - (intOf i).toNat)
  case atStart => exact ⟨0, Nat.zero_le _, rfl, rfl, hk1, hB1⟩
  case round =>
    clear hk1 hB1
    obtain ⟨k, hk, rfl, hno, hkr, hbel⟩ := hrel
    have hs := hbel.size
    have HN := Lib.hid hno
    clear hno
    by_cases hlt : k < ss.length
    · have hc := HC.out
      have hr' := HR'.out
      obtain ⟨p, hp⟩ : ∃ p, ss[k]? = some p := ⟨_, List.getElem?_eq_getElem hlt⟩
      have c0 := (hbel.cell (p := ⟨g, off + k * 3 + 0, none⟩) hg).trans (hc k p hp 0 (by omega))
      have c1 := (hbel.cell (p := ⟨g, off + k * 3 + 1, none⟩) hg).trans (hc k p hp 1 (by omega))
      have c2 := (hbel.cell (p := ⟨g, off + k * 3 + 2, none⟩) hg).trans (hc k p hp 2 (by omega))
      simp only [Surge.at_, Nat.add_zero] at c0 c1 c2
      have HC := Lib.hid hc
      have HR' := Lib.hid hr'
      have HP := Lib.hid hp
      clear hc hr' hp
      have hB2 : Below w.heap.size w (wr.alloc (.cells #[.int .i64 p.frm, .int .i64 p.low, .int .i64 p.high] 66)) := hbel.alloc hs _
      have hbn := hkr.alloc (.cells #[.int .i64 p.frm, .int .i64 p.low, .int .i64 p.high] 66)
      have hqn := Blk.new wr 66 #[.int .i64 p.frm, .int .i64 p.low, .int .i64 p.high]
      obtain ⟨wa, hwa⟩ : ∃ wa, wa = wr.alloc (.cells #[.int .i64 p.frm, .int .i64 p.low, .int .i64 p.high] 66) := ⟨_, rfl⟩
      rw [← hwa] at hB2 hbn hqn
      have hla : w.heap.size < wa.heap.size := hbn.lt
      have hlb : wr.heap.size < wa.heap.size := hqn.lt
      have hlg : g < wa.heap.size := by omega
      have s0 := hqn.cell 0
      have s1 := hqn.cell 1
      have s2 := hqn.cell 2
      have b2 := hbn.cell 2
      have HWA := Lib.hid hwa
      have HBN := Lib.hid hbn.drew
      have hB2d := hB2.drew
      clear hwa hkr hbn hqn hbel
      have hk0 : (0 : Int) ≤ (k : Int) := Int.natCast_nonneg _
      have hk1 : (k : Int) < (ss.length : Int) := by omega
      have hcs := implSurgeOk_any p
      cases t1 : surgeOk p
      all_goals rw [t1] at hcs
      · have HF := Lib.hid (allI_bad HN.out HP.out (by simp [srgF, t1]))
        go_wp2_with fail
        rw [← HWA.out]
        refine wp_region_held_drew (S := (fun w' => w'.cell? ⟨wr.heap.size, 0, none⟩ = some (.int .i64 p.frm) ∧ w'.cell? ⟨wr.heap.size, 1, none⟩ = some (.int .i64 p.low) ∧ w'.cell? ⟨wr.heap.size, 2, none⟩ = some (.int .i64 p.high) ∧ w'.cell? ⟨w.heap.size, 2, none⟩ = some (.slice (some ⟨g, off, none⟩) ss.length c'))) (by kernel_rfl) ?_ (fun hHeld => ?_)
        · go_keep
        refine take_yes (i := 0) 32 (v := ?_) rfl rfl (by kernel_rfl) (by kernel_rfl) (by kernel_rfl) (fun _ _ _ h => h) (by rfl) ?_ (by assumption) ?_
        rotate_left
        · intro w hSw
          try dsimp only at hSw
          go_simp
          all_goals with_reducible rfl
        try simp only [Act.put, List.setIfInBounds_toArray, List.set_cons_zero, List.set_cons_succ]
        refine wpAnyH_ready (rs := [1]) (by kernel_rfl) (by simp) ?_
        refine AllReadyH.cons rfl (fun K hK => ?_) AllReadyH.nil
        go_simp
        go_at_call 55; refine (hcs _).mono ?_; rintro e w3 ⟨rfl, hb3⟩; have hcc3 : ∀ b o, b < wa.heap.size → w3.cell? ⟨b, o, none⟩ = wa.cell? ⟨b, o, none⟩ := (bcell hb3).1
        go_wp2_with fail
        refine hK.out _ _ ?_ (fun hHeld => ?_)
        · go_keep
        clear hK K
        refine take_yes (i := 2) 34 (v := ?_) rfl rfl (by kernel_rfl) (by kernel_rfl) (by kernel_rfl) (fun _ _ _ h => h) (by rfl) ?_ (by assumption) ?_
        rotate_left
        · intro w hSw
          try dsimp only at hSw
          go_simp
          all_goals with_reducible rfl
        try simp only [Act.put, List.setIfInBounds_toArray, List.set_cons_zero, List.set_cons_succ]
        refine take_yes (i := 3) 35 (v := ?_) rfl rfl (by kernel_rfl) (by kernel_rfl) (by kernel_rfl) (fun _ _ _ h => h) (by rfl) ?_ (by assumption) ?_
        rotate_left
        · intro w hSw
          try dsimp only at hSw
          go_simp
          all_goals with_reducible rfl
        try simp only [Act.put, List.setIfInBounds_toArray, List.set_cons_zero, List.set_cons_succ]
        refine take_no (i := 4) 36 rfl rfl (by kernel_rfl) (by kernel_rfl) (by kernel_rfl) (fun _ _ _ h => h) (by rfl) (by assumption) ?_
        try simp only [Act.put, List.setIfInBounds_toArray, List.set_cons_zero, List.set_cons_succ]
        refine take_no (i := 5) 37 rfl rfl (by kernel_rfl) (by kernel_rfl) (by kernel_rfl) (fun _ _ _ h => h) (by rfl) (by assumption) ?_
        try simp only [Act.put, List.setIfInBounds_toArray, List.set_cons_zero, List.set_cons_succ]
        refine take_no (i := 6) 38 rfl rfl (by kernel_rfl) (by kernel_rfl) (by kernel_rfl) (fun _ _ _ h => h) (by rfl) (by assumption) ?_
        try simp only [Act.put, List.setIfInBounds_toArray, List.set_cons_zero, List.set_cons_succ]
        refine take_no (i := 7) 39 rfl rfl (by kernel_rfl) (by kernel_rfl) (by kernel_rfl) (fun _ _ _ h => h) (by rfl) (by assumption) ?_
        try simp only [Act.put, List.setIfInBounds_toArray, List.set_cons_zero, List.set_cons_succ]
        refine take_no (i := 8) 40 rfl rfl (by kernel_rfl) (by kernel_rfl) (by kernel_rfl) (fun _ _ _ h => h) (by rfl) (by assumption) ?_
        try simp only [Act.put, List.setIfInBounds_toArray, List.set_cons_zero, List.set_cons_succ]
        refine take_no (i := 9) 41 rfl rfl (by kernel_rfl) (by kernel_rfl) (by kernel_rfl) (fun _ _ _ h => h) (by rfl) (by assumption) ?_
        try simp only [Act.put, List.setIfInBounds_toArray, List.set_cons_zero, List.set_cons_succ]
        refine take_no (i := 10) 42 rfl rfl (by kernel_rfl) (by kernel_rfl) (by kernel_rfl) (fun _ _ _ h => h) (by rfl) (by assumption) ?_
        try simp only [Act.put, List.setIfInBounds_toArray, List.set_cons_zero, List.set_cons_succ]
        refine take_no (i := 11) 43 rfl rfl (by kernel_rfl) (by kernel_rfl) (by kernel_rfl) (fun _ _ _ h => h) (by rfl) (by assumption) ?_
        try simp only [Act.put, List.setIfInBounds_toArray, List.set_cons_zero, List.set_cons_succ]
        refine take_no (i := 12) 44 rfl rfl (by kernel_rfl) (by kernel_rfl) (by kernel_rfl) (fun _ _ _ h => h) (by rfl) (by assumption) ?_
        try simp only [Act.put, List.setIfInBounds_toArray, List.set_cons_zero, List.set_cons_succ]
        refine take_no (i := 13) 45 rfl rfl (by kernel_rfl) (by kernel_rfl) (by kernel_rfl) (fun _ _ _ h => h) (by rfl) (by assumption) ?_
        try simp only [Act.put, List.setIfInBounds_toArray, List.set_cons_zero, List.set_cons_succ]
        refine take_no (i := 14) 46 rfl rfl (by kernel_rfl) (by kernel_rfl) (by kernel_rfl) (fun _ _ _ h => h) (by rfl) (by assumption) ?_
        try simp only [Act.put, List.setIfInBounds_toArray, List.set_cons_zero, List.set_cons_succ]
        refine take_no (i := 15) 47 rfl rfl (by kernel_rfl) (by kernel_rfl) (by kernel_rfl) (fun _ _ _ h => h) (by rfl) (by assumption) ?_
        try simp only [Act.put, List.setIfInBounds_toArray, List.set_cons_zero, List.set_cons_succ]
        refine take_no (i := 16) 48 rfl rfl (by kernel_rfl) (by kernel_rfl) (by kernel_rfl) (fun _ _ _ h => h) (by rfl) (by assumption) ?_
        try simp only [Act.put, List.setIfInBounds_toArray, List.set_cons_zero, List.set_cons_succ]
        refine take_no (i := 17) 49 rfl rfl (by kernel_rfl) (by kernel_rfl) (by kernel_rfl) (fun _ _ _ h => h) (by rfl) (by assumption) ?_
        try simp only [Act.put, List.setIfInBounds_toArray, List.set_cons_zero, List.set_cons_succ]
        refine take_yes (i := 18) 50 (v := ?_) rfl rfl (by kernel_rfl) (by kernel_rfl) (by kernel_rfl) (fun _ _ _ h => h) (by rfl) ?_ (by assumption) ?_
        rotate_left
        · intro w hSw
          try dsimp only at hSw
          go_simp
          all_goals with_reducible rfl
        try simp only [Act.put, List.setIfInBounds_toArray, List.set_cons_zero, List.set_cons_succ]
        refine wpAnyH_done (by kernel_rfl) ?_ _
        go_wp2_with fail
        go_ret
        exact ⟨ret_bool (by simp [foreOk, HF.out]), hB2d.trans (hb3.mono hB2d.size)⟩
      by_cases hkz : k = 0
      · have HX := Lib.hid (allI_next HN.out HP.out (by simp [srgF, t1, hkz]))
        have d4 : decide ((0 : Int) < (k : Int)) = false := by simp; omega
        have d5 : decide (0 < k) = false := by simp; omega
        clear hkz
        go_wp2_with fail
        rw [← HWA.out]
        refine wp_region_held_drew (S := (fun w' => w'.cell? ⟨wr.heap.size, 0, none⟩ = some (.int .i64 p.frm) ∧ w'.cell? ⟨wr.heap.size, 1, none⟩ = some (.int .i64 p.low) ∧ w'.cell? ⟨wr.heap.size, 2, none⟩ = some (.int .i64 p.high) ∧ w'.cell? ⟨w.heap.size, 2, none⟩ = some (.slice (some ⟨g, off, none⟩) ss.length c'))) (by kernel_rfl) ?_ (fun hHeld => ?_)
        · go_keep
        refine take_yes (i := 0) 32 (v := ?_) rfl rfl (by kernel_rfl) (by kernel_rfl) (by kernel_rfl) (fun _ _ _ h => h) (by rfl) ?_ (by assumption) ?_
        rotate_left
        · intro w hSw
          try dsimp only at hSw
          go_simp
          all_goals with_reducible rfl
        try simp only [Act.put, List.setIfInBounds_toArray, List.set_cons_zero, List.set_cons_succ]
        refine wpAnyH_ready (rs := [1]) (by kernel_rfl) (by simp) ?_
        refine AllReadyH.cons rfl (fun K hK => ?_) AllReadyH.nil
        go_simp
        go_at_call 55; refine (hcs _).mono ?_; rintro e w3 ⟨rfl, hb3⟩; have hcc3 : ∀ b o, b < wa.heap.size → w3.cell? ⟨b, o, none⟩ = wa.cell? ⟨b, o, none⟩ := (bcell hb3).1
        go_wp2_with fail
        refine hK.out _ _ ?_ (fun hHeld => ?_)
        · go_keep
        clear hK K
        refine take_yes (i := 2) 34 (v := ?_) rfl rfl (by kernel_rfl) (by kernel_rfl) (by kernel_rfl) (fun _ _ _ h => h) (by rfl) ?_ (by assumption) ?_
        rotate_left
        · intro w hSw
          try dsimp only at hSw
          go_simp
          all_goals with_reducible rfl
        try simp only [Act.put, List.setIfInBounds_toArray, List.set_cons_zero, List.set_cons_succ]
        refine take_yes (i := 3) 35 (v := ?_) rfl rfl (by kernel_rfl) (by kernel_rfl) (by kernel_rfl) (fun _ _ _ h => h) (by rfl) ?_ (by assumption) ?_
        rotate_left
        · intro w hSw
          try dsimp only at hSw
          go_simp
          all_goals with_reducible rfl
        try simp only [Act.put, List.setIfInBounds_toArray, List.set_cons_zero, List.set_cons_succ]
        refine take_yes (i := 4) 36 (v := ?_) rfl rfl (by kernel_rfl) (by kernel_rfl) (by kernel_rfl) (fun _ _ _ h => h) (by rfl) ?_ (by assumption) ?_
        rotate_left
        · intro w hSw
          try dsimp only at hSw
          go_simp
          all_goals with_reducible rfl
        try simp only [Act.put, List.setIfInBounds_toArray, List.set_cons_zero, List.set_cons_succ]
        refine take_yes (i := 5) 37 (v := ?_) rfl rfl (by kernel_rfl) (by kernel_rfl) (by kernel_rfl) (fun _ _ _ h => h) (by rfl) ?_ (by assumption) ?_
        rotate_left
        · intro w hSw
          try dsimp only at hSw
          go_simp
          all_goals with_reducible rfl
        try simp only [Act.put, List.setIfInBounds_toArray, List.set_cons_zero, List.set_cons_succ]
        refine take_yes (i := 6) 38 (v := ?_) rfl rfl (by kernel_rfl) (by kernel_rfl) (by kernel_rfl) (fun _ _ _ h => h) (by rfl) ?_ (by assumption) ?_
        rotate_left
        · intro w hSw
          try dsimp only at hSw
          go_simp
          all_goals with_reducible rfl
        try simp only [Act.put, List.setIfInBounds_toArray, List.set_cons_zero, List.set_cons_succ]
        refine take_no (i := 7) 39 rfl rfl (by kernel_rfl) (by kernel_rfl) (by kernel_rfl) (fun _ _ _ h => h) (by rfl) (by assumption) ?_
        try simp only [Act.put, List.setIfInBounds_toArray, List.set_cons_zero, List.set_cons_succ]
        refine take_no (i := 8) 40 rfl rfl (by kernel_rfl) (by kernel_rfl) (by kernel_rfl) (fun _ _ _ h => h) (by rfl) (by assumption) ?_
        try simp only [Act.put, List.setIfInBounds_toArray, List.set_cons_zero, List.set_cons_succ]
        refine take_no (i := 9) 41 rfl rfl (by kernel_rfl) (by kernel_rfl) (by kernel_rfl) (fun _ _ _ h => h) (by rfl) (by assumption) ?_
        try simp only [Act.put, List.setIfInBounds_toArray, List.set_cons_zero, List.set_cons_succ]
        refine take_no (i := 10) 42 rfl rfl (by kernel_rfl) (by kernel_rfl) (by kernel_rfl) (fun _ _ _ h => h) (by rfl) (by assumption) ?_
        try simp only [Act.put, List.setIfInBounds_toArray, List.set_cons_zero, List.set_cons_succ]
        refine take_no (i := 11) 43 rfl rfl (by kernel_rfl) (by kernel_rfl) (by kernel_rfl) (fun _ _ _ h => h) (by rfl) (by assumption) ?_
        try simp only [Act.put, List.setIfInBounds_toArray, List.set_cons_zero, List.set_cons_succ]
        refine take_no (i := 12) 44 rfl rfl (by kernel_rfl) (by kernel_rfl) (by kernel_rfl) (fun _ _ _ h => h) (by rfl) (by assumption) ?_
        try simp only [Act.put, List.setIfInBounds_toArray, List.set_cons_zero, List.set_cons_succ]
        refine take_no (i := 13) 45 rfl rfl (by kernel_rfl) (by kernel_rfl) (by kernel_rfl) (fun _ _ _ h => h) (by rfl) (by assumption) ?_
        try simp only [Act.put, List.setIfInBounds_toArray, List.set_cons_zero, List.set_cons_succ]
        refine take_no (i := 14) 46 rfl rfl (by kernel_rfl) (by kernel_rfl) (by kernel_rfl) (fun _ _ _ h => h) (by rfl) (by assumption) ?_
        try simp only [Act.put, List.setIfInBounds_toArray, List.set_cons_zero, List.set_cons_succ]
        refine take_no (i := 15) 47 rfl rfl (by kernel_rfl) (by kernel_rfl) (by kernel_rfl) (fun _ _ _ h => h) (by rfl) (by assumption) ?_
        try simp only [Act.put, List.setIfInBounds_toArray, List.set_cons_zero, List.set_cons_succ]
        refine take_no (i := 16) 48 rfl rfl (by kernel_rfl) (by kernel_rfl) (by kernel_rfl) (fun _ _ _ h => h) (by rfl) (by assumption) ?_
        try simp only [Act.put, List.setIfInBounds_toArray, List.set_cons_zero, List.set_cons_succ]
        refine take_yes (i := 17) 49 (v := ?_) rfl rfl (by kernel_rfl) (by kernel_rfl) (by kernel_rfl) (fun _ _ _ h => h) (by rfl) ?_ (by assumption) ?_
        rotate_left
        · intro w hSw
          try dsimp only at hSw
          go_simp
          all_goals with_reducible rfl
        try simp only [Act.put, List.setIfInBounds_toArray, List.set_cons_zero, List.set_cons_succ]
        refine take_yes (i := 18) 50 (v := ?_) rfl rfl (by kernel_rfl) (by kernel_rfl) (by kernel_rfl) (fun _ _ _ h => h) (by rfl) ?_ (by assumption) ?_
        rotate_left
        · intro w hSw
          try dsimp only at hSw
          go_simp
          all_goals with_reducible rfl
        try simp only [Act.put, List.setIfInBounds_toArray, List.set_cons_zero, List.set_cons_succ]
        refine wpAnyH_done (by kernel_rfl) ?_ _
        go_wp2_with fail
        go_roundw
        case rel => exact ⟨k + 1, by omega, by go_num, HX.out, HBN.out.next hb3, hB2d.trans (hb3.mono hB2d.size)⟩
        case measure => simp [intOf]; omega
      obtain ⟨q, hq⟩ : ∃ q, ss[k - 1]? = some q := ⟨_, List.getElem?_eq_getElem (by omega)⟩
      have hk8 : (1 : Int) ≤ (k : Int) := by omega
      have hk4 : (k : Int) - 1 < (ss.length : Int) := by omega
      have hk5 : (0 : Int) < (k : Int) := by omega
      have hk7 : 0 < k := by omega
      have d6 : decide (0 < k) = true := by simp; omega
      have d8 : decide ((0 : Int) < (k : Int)) = true := by simp; omega
      have e0 := (hB2.cell (p := ⟨g, off + (k - 1) * 3 + 0, none⟩) hg).trans (HC.out (k - 1) q hq 0 (by omega))
      simp only [Surge.at_, Nat.add_zero] at e0
      have HQ := Lib.hid hq
      clear hq hB2
      have w1 : IntKind.i64.wrap ((k : Int) - 1) = (k : Int) - 1 := IntWalk.i64_in _ (by omega)
      have w2 : ((k : Int) - 1).toNat = k - 1 := by omega
      by_cases t2 : q.frm < p.frm
      · have HX := Lib.hid (allI_next HN.out HP.out (by simp [srgF, t1, HQ.out, t2]))
        have d7 : decide (p.frm ≤ q.frm) = false := by simp; omega
        clear hkz
        go_wp2_with fail
        rw [← HWA.out]
        first
          | go_region_held3 (fun w' => w'.cell? ⟨wr.heap.size, 0, none⟩ = some (.int .i64 p.frm) ∧ w'.cell? ⟨wr.heap.size, 1, none⟩ = some (.int .i64 p.low) ∧ w'.cell? ⟨wr.heap.size, 2, none⟩ = some (.int .i64 p.high) ∧ w'.cell? ⟨w.heap.size, 2, none⟩ = some (.slice (some ⟨g, off, none⟩) ss.length c') ∧ w'.cell? ⟨g, off + (k - 1) * 3, none⟩ = some (.int .i64 q.frm)) (go_keep) ((go_at_call 55; refine (hcs _).mono ?_; rintro e w3 ⟨rfl, hb3⟩; have hcc3 : ∀ b o, b < wa.heap.size → w3.cell? ⟨b, o, none⟩ = wa.cell? ⟨b, o, none⟩ := (bcell hb3).1))
          | fail
        clear w1 w2
        go_wp2_with fail
        go_roundw
        case rel => exact ⟨k + 1, by omega, by go_num, HX.out, HBN.out.next hb3, hB2d.trans (hb3.mono hB2d.size)⟩
        case measure => simp [intOf]; omega
      · have HX := Lib.hid (allI_bad HN.out HP.out (by simp [srgF, HQ.out, t2, hkz]))
        have d7 : decide (p.frm ≤ q.frm) = true := by simp; omega
        clear hkz
        go_wp2_with fail
        rw [← HWA.out]
        first
          | go_region_held3 (fun w' => w'.cell? ⟨wr.heap.size, 0, none⟩ = some (.int .i64 p.frm) ∧ w'.cell? ⟨wr.heap.size, 1, none⟩ = some (.int .i64 p.low) ∧ w'.cell? ⟨wr.heap.size, 2, none⟩ = some (.int .i64 p.high) ∧ w'.cell? ⟨w.heap.size, 2, none⟩ = some (.slice (some ⟨g, off, none⟩) ss.length c') ∧ w'.cell? ⟨g, off + (k - 1) * 3, none⟩ = some (.int .i64 q.frm)) (go_keep) ((go_at_call 55; refine (hcs _).mono ?_; rintro e w3 ⟨rfl, hb3⟩; have hcc3 : ∀ b o, b < wa.heap.size → w3.cell? ⟨b, o, none⟩ = wa.cell? ⟨b, o, none⟩ := (bcell hb3).1))
          | fail
        clear w1 w2
        go_wp2_with fail
        go_ret
        exact ⟨ret_bool (by simp [foreOk, HX.out]), hB2d.trans (hb3.mono hB2d.size)⟩
    · have hk' : k = ss.length := by omega
      subst hk'
      have HX := Lib.hid (allI_done HN.out)
      go_wp2_with fail
      go_ret
      exact ⟨ret_bool (by simp only [foreOk, hok, hn, HZT.out, HX.out, Bool.and_true]), hbel⟩

end Go.Proofs.Ytmhiohijpnmcpaa
