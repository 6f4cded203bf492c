/-
  FnExactReviseBand: for all arguments the program's ReviseBand and the reference's give one answer, in memory of its own, and the arguments are left alone. No condition.
-/
import Derived.Test.YtmhiohijpnmcpaaRevI
import Derived.Test.YtmhiohijpnmcpaaRevS
import Derived.Test.YtmhiohijpnmcpaaMarkG
import Derived.Test.YtmhiohijpnmcpaaOpenF
namespace Go.Proofs.Ytmhiohijpnmcpaa
open Go.ChangeShapes Go.WideShapes Go.ChangeAt Go.RowKit

theorem revP_le4 (m : Int) (ps : List Part) (ss : List Surge) (t x y : Int) : (revP m ps ss t x y).length ≤ 4 := by
  unfold revP revC surgeC
  split
  · rename_i h
    simp only [Bool.and_eq_true] at h
    exact tideOk_len (foreOk_tide h.1.1)
  · exact Nat.zero_le _

set_option maxHeartbeats 16000000 in
theorem fnExactReviseBand_walk {v0 v1 v2 v3 : Value} {x0 : Forecast} {t x y : Int} (w : World) (h0 : IsForecast w v0 x0) (h1 : IsInt w v1 t) (h2 : IsInt w v2 x) (h3 : IsInt w v3 y) :
    Calls Try.prog 8 #[v0, v1, v2, v3] w fun e w' => e = .returned (.bool true) ∧ Below w.heap.size w w' := by
  obtain ⟨A, c, B, d, rfl, ⟨hr0, hml0, hwf0⟩, ⟨hr1, hml1, _⟩⟩ := h0
  obtain ⟨m, ps, ss⟩ := x0
  dsimp only at hr0 hml0 hwf0 hr1 hml1
  unfold maxLen at hml0 hml1
  obtain ⟨rfl, _⟩ := h1
  obtain ⟨rfl, _⟩ := h2
  obtain ⟨rfl, _⟩ := h3
  have hk_a := Blk.new w 27 #[.int .i64 m, .slice A ps.length c, .slice B ss.length d]
  have hB0 : Below w.heap.size w (w.alloc (.cells #[.int .i64 m, .slice A ps.length c, .slice B ss.length d] 27)) := (Below.refl _ _).alloc (Nat.le_refl _) _
  go_enter Try.func8, Try.ntmps8
  go_wp2_with fail
  refine (szForecast_any _ _ _ _ _ _ _ _ (by omega) (by omega) (by omega) (by omega) _).mono ?_
  rintro e w1 ⟨r0, rfl, hr01, hr02, hb1⟩
  have hB_w1 := hB0.trans (hb1.mono hB0.size)
  have hz_w1 := hb1.size
  have ka_w1 := hk_a.next hb1
  have hkl := ka_w1.lt
  by_cases hneg0 : r0 < 0
  · go_wp2_with fail
    go_ret
    exact ⟨rfl, hB_w1⟩
  have hlen0 : ps.length ≤ 1048576 := by omega
  have hlen1 : ss.length ≤ 1048576 := by omega
  have hP4 := revP_le4 m ps ss t x y
  have hS6 := revS_len m ps ss t x y
  have HS : Hid (∀ (A A2 : Option Addr) (c c2 : Nat) (W : World), Rd W W.heap.size Part.at_ 3 A ps → Rd W W.heap.size Surge.at_ 3 A2 ss → Calls Try.prog 27 #[.agg #[.int .i64 m, .slice A ps.length c, .slice A2 ss.length c2], .int .i64 t, .int .i64 x, .int .i64 y] W (ResRev m ps ss t x y W)) := Lib.hid fun A A2 c c2 W h1 h2 => specReviseBand_any _ _ _ _ _ _ _ _ _ _ _ h1 h2 hwf0 hlen0 hlen1
  have HI : Hid (∀ (A A2 : Option Addr) (c c2 : Nat) (W : World), Rd W W.heap.size Part.at_ 3 A ps → Rd W W.heap.size Surge.at_ 3 A2 ss → ss.length ≤ c2 → Calls Try.prog 28 #[.agg #[.int .i64 m, .slice A ps.length c, .slice A2 ss.length c2], .int .i64 t, .int .i64 x, .int .i64 y] W (ResRev m ps ss t x y W)) := Lib.hid fun A A2 c c2 W h1 h2 h3 => implReviseBand_any _ _ _ _ _ _ _ _ _ _ _ h1 h2 hwf0 hlen0 hlen1 h3
  unfold ResRev at HS HI
  generalize revM m ps ss t x y = M at HS HI hP4 hS6
  generalize revP m ps ss t x y = PP at HS HI hP4 hS6
  generalize revS m ps ss t x y = SS at HS HI hP4 hS6
  generalize revC m ps ss t x y = bc at HS HI hP4 hS6
  clear hwf0
  have q_ka_0_w1 := ka_w1.cell 0
  have q_ka_1_w1 := ka_w1.cell 1
  have q_ka_2_w1 := ka_w1.cell 2
  go_wp2_with fail
  refine (toForecast_any _ _ _ _ _ _ _ _ ((hr0.below hB_w1).more hB_w1.size) ((hr1.below hB_w1).more hB_w1.size) hlen0 hlen1).mono ?_
  rintro e w2 ⟨As, cs, Bs, ds, rfl, hcaps, hs0, hs1, hb2⟩
  have hB_w2 := hB_w1.trans (hb2.mono hB_w1.size)
  have hz_w2 := hb2.size
  have ka_w2 := ka_w1.next hb2
  go_wp2_with fail
  refine (HS.out _ _ _ _ _ hs0.rd hs1.rd).mono ?_
  rintro e w3 ⟨Aw, cw, Bw, dw, rfl, hw0, hw1, hb3⟩
  have hB_w3 := hB_w2.trans (hb3.mono hB_w2.size)
  have hz_w3 := hb3.size
  have ka_w3 := ka_w2.next hb3
  obtain ⟨wd, hwd⟩ : ∃ wd, wd = w3.alloc (.cells #[.int .i64 M, .slice Aw PP.length cw, .slice Bw SS.length dw] 35) := ⟨_, rfl⟩
  have hb_wd : Below w3.heap.size w3 wd := by rw [hwd]; exact (Below.refl _ _).alloc (Nat.le_refl _) _
  have hk_kw : Blk wd w3.heap.size 35 #[.int .i64 M, .slice Aw PP.length cw, .slice Bw SS.length dw] := by rw [hwd]; exact Blk.new _ _ _
  have hlt_kw := hk_kw.lt
  have hB_wd := hB_w3.trans (hb_wd.mono hB_w3.size)
  have hz_wd := hb_wd.size
  have ka_wd := ka_w3.next hb_wd
  have w0_wd := hw0.next hb_wd
  have w1_wd := hw1.next hb_wd
  have H_wd := Lib.hid hwd
  clear hwd
  have e_wd : ∀ o, (w3.alloc o).cell? ⟨w.heap.size, 0, none⟩ = some (.int .i64 m) := fun o => (ka_w3.alloc o).cell 0
  have e_wd1 : ∀ o, (w3.alloc o).cell? ⟨w.heap.size, 1, none⟩ = some (.slice A ps.length c) := fun o => (ka_w3.alloc o).cell 1
  have e_wd2 : ∀ o, (w3.alloc o).cell? ⟨w.heap.size, 2, none⟩ = some (.slice B ss.length d) := fun o => (ka_w3.alloc o).cell 2
  go_wp2_with fail
  rw [← H_wd.out]
  clear e_wd e_wd1 e_wd2
  refine (toForecast_any _ _ _ _ _ _ _ _ ((hr0.below hB_wd).more hB_wd.size) ((hr1.below hB_wd).more hB_wd.size) hlen0 hlen1).mono ?_
  rintro e w4 ⟨Ax, cx, Bx, dx, rfl, hcapx, hx0, hx1, hb4⟩
  have hB_w4 := hB_wd.trans (hb4.mono hB_wd.size)
  have hz_w4 := hb4.size
  have ka_w4 := ka_wd.next hb4
  have w0_w4 := w0_wd.next hb4
  have w1_w4 := w1_wd.next hb4
  have kw_w4 := hk_kw.next hb4
  obtain ⟨we, hwe⟩ : ∃ we, we = w4.alloc (.cells #[.int .i64 m, .slice Ax ps.length cx, .slice Bx ss.length dx] 35) := ⟨_, rfl⟩
  have hb_we : Below w4.heap.size w4 we := by rw [hwe]; exact (Below.refl _ _).alloc (Nat.le_refl _) _
  have hk_kx : Blk we w4.heap.size 35 #[.int .i64 m, .slice Ax ps.length cx, .slice Bx ss.length dx] := by rw [hwe]; exact Blk.new _ _ _
  have hlt_kx := hk_kx.lt
  have hB_we := hB_w4.trans (hb_we.mono hB_w4.size)
  have hz_we := hb_we.size
  have ka_we := ka_w4.next hb_we
  have w0_we := w0_w4.next hb_we
  have w1_we := w1_w4.next hb_we
  have kw_we := kw_w4.next hb_we
  have x0_we := hx0.next hb_we
  have x1_we := hx1.next hb_we
  have H_we := Lib.hid hwe
  clear hwe
  go_wp2_with fail
  rw [← H_we.out]
  refine (HI.out _ _ _ _ _ x0_we.rd x1_we.rd hcapx).mono ?_
  rintro e w5 ⟨Ag, cg, Bg, dg, rfl, hg0, hg1, hb5⟩
  have hB_w5 := hB_we.trans (hb5.mono hB_we.size)
  have hz_w5 := hb5.size
  have ka_w5 := ka_we.next hb5
  have w0_w5 := w0_we.next hb5
  have w1_w5 := w1_we.next hb5
  have kw_w5 := kw_we.next hb5
  have x0_w5 := x0_we.next hb5
  have x1_w5 := x1_we.next hb5
  have kx_w5 := hk_kx.next hb5
  obtain ⟨wf, hwf⟩ : ∃ wf, wf = w5.alloc (.cells #[.int .i64 M, .slice Ag PP.length cg, .slice Bg SS.length dg] 35) := ⟨_, rfl⟩
  have hb_wf : Below w5.heap.size w5 wf := by rw [hwf]; exact (Below.refl _ _).alloc (Nat.le_refl _) _
  have hk_kg : Blk wf w5.heap.size 35 #[.int .i64 M, .slice Ag PP.length cg, .slice Bg SS.length dg] := by rw [hwf]; exact Blk.new _ _ _
  have hlt_kg := hk_kg.lt
  have hB_wf := hB_w5.trans (hb_wf.mono hB_w5.size)
  have hz_wf := hb_wf.size
  have ka_wf := ka_w5.next hb_wf
  have w0_wf := w0_w5.next hb_wf
  have w1_wf := w1_w5.next hb_wf
  have kw_wf := kw_w5.next hb_wf
  have x0_wf := x0_w5.next hb_wf
  have x1_wf := x1_w5.next hb_wf
  have kx_wf := kx_w5.next hb_wf
  have g0_wf := hg0.next hb_wf
  have g1_wf := hg1.next hb_wf
  have H_wf := Lib.hid hwf
  clear hwf
  have e_0 : ∀ o, (w5.alloc o).cell? ⟨w3.heap.size, 0, none⟩ = some (.int .i64 M) := fun o => (kw_w5.alloc o).cell 0
  have e_1 : ∀ o, (w5.alloc o).cell? ⟨w3.heap.size, 1, none⟩ = some (.slice Aw PP.length cw) := fun o => (kw_w5.alloc o).cell 1
  have e_2 : ∀ o, (w5.alloc o).cell? ⟨w3.heap.size, 2, none⟩ = some (.slice Bw SS.length dw) := fun o => (kw_w5.alloc o).cell 2
  go_wp2_with fail
  rw [← H_wf.out]
  clear e_0 e_1 e_2
  refine (eqForecast_same _ _ _ _ _ _ _ _ _ _ _ _ g0_wf.rd g1_wf.rd w0_wf.rd w1_wf.rd (by omega) (by omega)).mono ?_
  rintro e w6 ⟨rfl, hb6⟩
  have hB_w6 := hB_wf.trans (hb6.mono hB_wf.size)
  have hz_w6 := hb6.size
  have ka_w6 := ka_wf.next hb6
  have w0_w6 := w0_wf.next hb6
  have w1_w6 := w1_wf.next hb6
  have kw_w6 := kw_wf.next hb6
  have x0_w6 := x0_wf.next hb6
  have x1_w6 := x1_wf.next hb6
  have kx_w6 := kx_wf.next hb6
  have g0_w6 := g0_wf.next hb6
  have g1_w6 := g1_wf.next hb6
  have kg_w6 := hk_kg.next hb6
  have q_ka_0_w6 := ka_w6.cell 0
  have q_ka_1_w6 := ka_w6.cell 1
  have q_ka_2_w6 := ka_w6.cell 2
  have q_kx_0_w6 := kx_w6.cell 0
  have q_kx_1_w6 := kx_w6.cell 1
  have q_kx_2_w6 := kx_w6.cell 2
  have hla : w.heap.size < w6.heap.size := ka_w6.lt
  have hlx : w4.heap.size < w6.heap.size := kx_w6.lt
  have hxd0 : Sl w6.drew _ _ _ _ _ _ _ := x0_w6
  have hxd1 : Sl w6.drew _ _ _ _ _ _ _ := x1_w6
  have hrd0 : Rd w6.drew w6.drew.heap.size Part.at_ 3 A ps := ((hr0.below hB_w6).more hB_w6.size)
  have hrd1 : Rd w6.drew w6.drew.heap.size Surge.at_ 3 B ss := ((hr1.below hB_w6).more hB_w6.size)
  go_wp2_with fail
  go_region_held3 (fun w' => w'.cell? ⟨w4.heap.size, 0, none⟩ = some (.int .i64 m) ∧ w'.cell? ⟨w4.heap.size, 1, none⟩ = some (.slice Ax ps.length cx) ∧ w'.cell? ⟨w4.heap.size, 2, none⟩ = some (.slice Bx ss.length dx) ∧ w'.cell? ⟨w.heap.size, 0, none⟩ = some (.int .i64 m) ∧ w'.cell? ⟨w.heap.size, 1, none⟩ = some (.slice A ps.length c) ∧ w'.cell? ⟨w.heap.size, 2, none⟩ = some (.slice B ss.length d)) (go_keep)
    (first
      | (go_at_call 16; refine (toForecast_any _ _ _ _ _ _ _ _ hrd0 hrd1 hlen0 hlen1).mono ?_; rintro e w7 ⟨Ay, cy, By, dy, rfl, hcapy, hy0, hy1, hb7⟩; have hcc7 : ∀ b o, b < w6.heap.size → w7.cell? ⟨b, o, none⟩ = w6.cell? ⟨b, o, none⟩ := (bcell hb7).1; have hlA7 : w.heap.size < w7.heap.size := Nat.lt_of_lt_of_le hla hb7.size; have hlB7 : w4.heap.size < w7.heap.size := Nat.lt_of_lt_of_le hlx hb7.size)
      | (go_at_call 18; refine (eqForecast_same _ _ _ _ _ _ _ _ _ _ _ _ ?_ ?_ ?_ ?_ hlen0 hlen1).mono ?_; exact (hxd0.next hb7).rd; exact (hxd1.next hb7).rd; exact hy0.rd; exact hy1.rd; rintro e w8 ⟨rfl, hb8⟩; have hcc8 : ∀ b o, b < w7.heap.size → w8.cell? ⟨b, o, none⟩ = w7.cell? ⟨b, o, none⟩ := (bcell hb8).1))
  have hzd : w6.drew.heap.size = w6.heap.size := rfl
  have ka_d : Blk w6.drew _ _ _ := ka_w6
  have w0_d : Sl w6.drew _ _ _ _ _ _ _ := w0_w6
  have w1_d : Sl w6.drew _ _ _ _ _ _ _ := w1_w6
  have kw_d : Blk w6.drew _ _ _ := kw_w6
  have x0_d : Sl w6.drew _ _ _ _ _ _ _ := x0_w6
  have x1_d : Sl w6.drew _ _ _ _ _ _ _ := x1_w6
  have kx_d : Blk w6.drew _ _ _ := kx_w6
  have g0_d : Sl w6.drew _ _ _ _ _ _ _ := g0_w6
  have g1_d : Sl w6.drew _ _ _ _ _ _ _ := g1_w6
  have kg_d : Blk w6.drew _ _ _ := kg_w6
  have hB_d := hB_w6.drew
  have hB_w7 := hB_d.trans (hb7.mono hB_d.size)
  have hz_w7 := hb7.size
  have ka_w7 := ka_d.next hb7
  have w0_w7 := w0_d.next hb7
  have w1_w7 := w1_d.next hb7
  have kw_w7 := kw_d.next hb7
  have x0_w7 := x0_d.next hb7
  have x1_w7 := x1_d.next hb7
  have kx_w7 := kx_d.next hb7
  have g0_w7 := g0_d.next hb7
  have g1_w7 := g1_d.next hb7
  have kg_w7 := kg_d.next hb7
  have hB_w8 := hB_w7.trans (hb8.mono hB_w7.size)
  have hz_w8 := hb8.size
  have ka_w8 := ka_w7.next hb8
  have w0_w8 := w0_w7.next hb8
  have w1_w8 := w1_w7.next hb8
  have kw_w8 := kw_w7.next hb8
  have x0_w8 := x0_w7.next hb8
  have x1_w8 := x1_w7.next hb8
  have kx_w8 := kx_w7.next hb8
  have g0_w8 := g0_w7.next hb8
  have g1_w8 := g1_w7.next hb8
  have kg_w8 := kg_w7.next hb8
  have q_kx_0_w8 := kx_w8.cell 0
  have q_kx_1_w8 := kx_w8.cell 1
  have q_kx_2_w8 := kx_w8.cell 2
  go_wp2_with fail
  refine (markForecast_weak _ _ _ _ _ _ _ _ _ _ x0_w8 x1_w8 hlen0 hlen1).mono ?_
  rintro e w9 ⟨rm, rfl, hrm0, hrm1, hb9⟩
  have hB_w9 := hB_w8.trans (hb9.below hB_wd.size hB_w8.size)
  have hz_w9 := hb9.size
  have ka_w9 := ka_w8.out hb9 (.inl (by omega))
  have w0_w9 := w0_w8.out hb9 (.inl (by omega))
  have w1_w9 := w1_w8.out hb9 (.inl (by omega))
  have kw_w9 := kw_w8.out hb9 (.inl (by omega))
  have kx_w9 := kx_w8.out hb9 (.inr (by omega))
  have g0_w9 := g0_w8.out hb9 (.inr (by omega))
  have g1_w9 := g1_w8.out hb9 (.inr (by omega))
  have kg_w9 := kg_w8.out hb9 (.inr (by omega))
  have q_kg_0_w9 := kg_w9.cell 0
  have q_kg_1_w9 := kg_w9.cell 1
  have q_kg_2_w9 := kg_w9.cell 2
  have q_kw_0_w9 := kw_w9.cell 0
  have q_kw_1_w9 := kw_w9.cell 1
  have q_kw_2_w9 := kw_w9.cell 2
  have hrm2 : ¬ rm < 0 := by omega
  go_wp2_with fail
  refine (eqForecast_same _ _ _ _ _ _ _ _ _ _ _ _ g0_w9.rd g1_w9.rd w0_w9.rd w1_w9.rd (by omega) (by omega)).mono ?_
  rintro e w10 ⟨rfl, hb10⟩
  have hB_w10 := hB_w9.trans (hb10.mono hB_w9.size)
  have hz_w10 := hb10.size
  have ka_w10 := ka_w9.next hb10
  have w0_w10 := w0_w9.next hb10
  have w1_w10 := w1_w9.next hb10
  have kw_w10 := kw_w9.next hb10
  have kx_w10 := kx_w9.next hb10
  have g0_w10 := g0_w9.next hb10
  have g1_w10 := g1_w9.next hb10
  have kg_w10 := kg_w9.next hb10
  have q_kg_0_w10 := kg_w10.cell 0
  have q_kg_1_w10 := kg_w10.cell 1
  have q_kg_2_w10 := kg_w10.cell 2
  go_wp2_with fail
  refine (markForecast_any _ _ _ _ _ _ _ _ _ _ (by omega) g0_w10 g1_w10 (by omega) (by omega)).mono ?_
  rintro e w11 ⟨rfl, hm0, hm1, hb11⟩
  have hB_w11 := hB_w10.trans (hb11.below hB_we.size hB_w10.size)
  have hz_w11 := hb11.size
  have ka_w11 := ka_w10.out hb11 (.inl (by omega))
  have w0_w11 := w0_w10.out hb11 (.inl (by omega))
  have w1_w11 := w1_w10.out hb11 (.inl (by omega))
  have kw_w11 := kw_w10.out hb11 (.inl (by omega))
  have kg_w11 := kg_w10.out hb11 (.inr (by omega))
  have q_kg_0_w11 := kg_w11.cell 0
  have q_kg_1_w11 := kg_w11.cell 1
  have q_kg_2_w11 := kg_w11.cell 2
  have hq1 : ¬ 1 + 3 * (PP.length : Int) + 3 * (SS.length : Int) < 0 := by omega
  go_wp2_with fail
  refine (heldForecast_any _ _ _ _ _ _ _ _ hm0.rd hm1.rd (by omega) (by omega)).mono ?_
  rintro e w12 ⟨rfl, hb12⟩
  have hB_w12 := hB_w11.trans (hb12.mono hB_w11.size)
  have hz_w12 := hb12.size
  have ka_w12 := ka_w11.next hb12
  have w0_w12 := w0_w11.next hb12
  have w1_w12 := w1_w11.next hb12
  have kw_w12 := kw_w11.next hb12
  have kg_w12 := kg_w11.next hb12
  have m0_w12 := hm0.next hb12
  have m1_w12 := hm1.next hb12
  have q_ka_0_w12 := ka_w12.cell 0
  have q_ka_1_w12 := ka_w12.cell 1
  have q_ka_2_w12 := ka_w12.cell 2
  go_wp2_with fail
  refine (toForecast_any _ _ _ _ _ _ _ _ ((hr0.below hB_w12).more hB_w12.size) ((hr1.below hB_w12).more hB_w12.size) hlen0 hlen1).mono ?_
  rintro e w13 ⟨Az, cz, Bz, dz, rfl, hcapz, hz0, hz1, hb13⟩
  have hB_w13 := hB_w12.trans (hb13.mono hB_w12.size)
  have hz_w13 := hb13.size
  have ka_w13 := ka_w12.next hb13
  have w0_w13 := w0_w12.next hb13
  have w1_w13 := w1_w12.next hb13
  have kw_w13 := kw_w12.next hb13
  have kg_w13 := kg_w12.next hb13
  have m0_w13 := m0_w12.next hb13
  have m1_w13 := m1_w12.next hb13
  go_wp2_with fail
  refine (HI.out _ _ _ _ _ hz0.rd hz1.rd hcapz).mono ?_
  rintro e w14 ⟨Ah, ch, Bh, dh, rfl, hh0, hh1, hb14⟩
  have hB_w14 := hB_w13.trans (hb14.mono hB_w13.size)
  have hz_w14 := hb14.size
  have ka_w14 := ka_w13.next hb14
  have w0_w14 := w0_w13.next hb14
  have w1_w14 := w1_w13.next hb14
  have kw_w14 := kw_w13.next hb14
  have kg_w14 := kg_w13.next hb14
  have m0_w14 := m0_w13.next hb14
  have m1_w14 := m1_w13.next hb14
  obtain ⟨wg, hwg⟩ : ∃ wg, wg = w14.alloc (.cells #[.int .i64 M, .slice Ah PP.length ch, .slice Bh SS.length dh] 35) := ⟨_, rfl⟩
  have hb_wg : Below w14.heap.size w14 wg := by rw [hwg]; exact (Below.refl _ _).alloc (Nat.le_refl _) _
  have hk_kh : Blk wg w14.heap.size 35 #[.int .i64 M, .slice Ah PP.length ch, .slice Bh SS.length dh] := by rw [hwg]; exact Blk.new _ _ _
  have hlt_kh := hk_kh.lt
  have hB_wg := hB_w14.trans (hb_wg.mono hB_w14.size)
  have hz_wg := hb_wg.size
  have ka_wg := ka_w14.next hb_wg
  have w0_wg := w0_w14.next hb_wg
  have w1_wg := w1_w14.next hb_wg
  have kw_wg := kw_w14.next hb_wg
  have kg_wg := kg_w14.next hb_wg
  have m0_wg := m0_w14.next hb_wg
  have m1_wg := m1_w14.next hb_wg
  have h0_wg := hh0.next hb_wg
  have h1_wg := hh1.next hb_wg
  have H_wg := Lib.hid hwg
  clear hwg
  have e_0 : ∀ o, (w14.alloc o).cell? ⟨w3.heap.size, 0, none⟩ = some (.int .i64 M) := fun o => (kw_w14.alloc o).cell 0
  have e_1 : ∀ o, (w14.alloc o).cell? ⟨w3.heap.size, 1, none⟩ = some (.slice Aw PP.length cw) := fun o => (kw_w14.alloc o).cell 1
  have e_2 : ∀ o, (w14.alloc o).cell? ⟨w3.heap.size, 2, none⟩ = some (.slice Bw SS.length dw) := fun o => (kw_w14.alloc o).cell 2
  go_wp2_with fail
  rw [← H_wg.out]
  clear e_0 e_1 e_2
  refine (eqForecast_same _ _ _ _ _ _ _ _ _ _ _ _ h0_wg.rd h1_wg.rd w0_wg.rd w1_wg.rd (by omega) (by omega)).mono ?_
  rintro e w15 ⟨rfl, hb15⟩
  have hB_w15 := hB_wg.trans (hb15.mono hB_wg.size)
  have hz_w15 := hb15.size
  have ka_w15 := ka_wg.next hb15
  have w0_w15 := w0_wg.next hb15
  have w1_w15 := w1_wg.next hb15
  have kw_w15 := kw_wg.next hb15
  have kg_w15 := kg_wg.next hb15
  have m0_w15 := m0_wg.next hb15
  have m1_w15 := m1_wg.next hb15
  have h0_w15 := h0_wg.next hb15
  have h1_w15 := h1_wg.next hb15
  have kh_w15 := hk_kh.next hb15
  have q_kg_0_w15 := kg_w15.cell 0
  have q_kg_1_w15 := kg_w15.cell 1
  have q_kg_2_w15 := kg_w15.cell 2
  go_wp2_with fail
  refine (heldForecast_any _ _ _ _ _ _ _ _ m0_w15.rd m1_w15.rd (by omega) (by omega)).mono ?_
  rintro e w16 ⟨rfl, hb16⟩
  have hB_w16 := hB_w15.trans (hb16.mono hB_w15.size)
  have hz_w16 := hb16.size
  have ka_w16 := ka_w15.next hb16
  have w0_w16 := w0_w15.next hb16
  have w1_w16 := w1_w15.next hb16
  have kw_w16 := kw_w15.next hb16
  have kg_w16 := kg_w15.next hb16
  have m0_w16 := m0_w15.next hb16
  have m1_w16 := m1_w15.next hb16
  have h0_w16 := h0_w15.next hb16
  have h1_w16 := h1_w15.next hb16
  have kh_w16 := kh_w15.next hb16
  go_wp2_with fail
  go_ret
  exact ⟨rfl, hB_w16⟩

set_option maxRecDepth 100000 in
theorem fnExactReviseBand_lifted (os : Os) (started : os.Started) (H : Type) (enc : TypeId × Value → H) :
    ReturnsInHanded {} Try.checked os 8 .any (Rows.fnExactReviseBandSpec.pre6 enc Try.prog Try.f8 Rows.fnExactReviseBandRow.domain false) (Rows.fnExactReviseBandSpec.post enc Try.prog Try.f8 false true false false) := by
  refine returnsInHanded_of_change (C := Try.checked) own_ started (by kernel_rfl) Try.func8
    (ChangeSpec.witness6 (enc := enc) (C := Try.checked) false ⟨#[], #[.agg #[.int .i64 0, .slice none 0 0, .slice none 0 0], .int .i64 0, .int .i64 0, .int .i64 0], []⟩ 8 (by kernel_rfl) (by kernel_rfl) (by kernel_rfl) (by kernel_rfl)) ?_
  intro W base args ds gs before hval0 hW hcnd _
  have hval : ∀ (j : Nat) t v, Try.f8.params[j]? = some t → args[j]? = some v → Value.okWide Try.prog W .any base t v := hval0
  have hW' := hW
  obtain ⟨p, q, hA0, hV, rfl, hfz, hnd⟩ := hW
  have hA : DataW.TrodAll enc Try.prog W 0 (fun _ => true) true Try.f8.params.toList args.toList ds p := hA0
  rw [Try.params8] at hA hval
  obtain ⟨v0, v1, v2, v3, d0, d1, d2, d3, p0, p1, p2, p3, rfl, rfl, rfl, h0, h1, h2, h3⟩ := trodAll_four hA
  obtain ⟨rfl, rfl⟩ := trodVars_none hV
  obtain ⟨x0, hx0⟩ := open_Forecast Try.underlying27 (by kernel_rfl) rfl (by kernel_rfl) rfl (by kernel_rfl) rfl rfl Try.underlying24 rfl (by kernel_rfl) rfl (by kernel_rfl) Try.underlying3 rfl Try.underlying22 Try.underlying109 (by kernel_rfl) (by kernel_rfl) Try.underlying3 Try.underlying3 Try.underlying3 Try.underlying25 Try.underlying95 (by kernel_rfl) (by kernel_rfl) Try.underlying3 Try.underlying3 Try.underlying3 (hval 0 27 v0 rfl rfl) h0
  obtain ⟨x1, hx1⟩ := open_Int Try.underlying3 (hval 1 3 v1 rfl rfl) h1
  obtain ⟨x2, hx2⟩ := open_Int Try.underlying3 (hval 2 3 v2 rfl rfl) h2
  obtain ⟨x3, hx3⟩ := open_Int Try.underlying3 (hval 3 3 v3 rfl rfl) h3
  refine (fnExactReviseBand_walk W hx0 hx1 hx2 hx3).mono fun e W' ⟨he, hb⟩ => ?_
  subst he
  exact ⟨_, rfl, law_post laidOut_ (by kernel_rfl) rfl (by kernel_rfl) Try.underlying4 hW' rfl hb⟩

theorem fnExactReviseBand_holds : Rows.FnExactReviseBandSaid :=
  OpenClaim.holds_of_wide 8 Try.f8 rfl rfl rfl rfl rfl rfl rfl ⟨rfl, rfl, rfl, rfl, rfl⟩ rfl rfl rfl rfl rfl (by kernel_rfl) Try.func8 (by kernel_rfl)
    (of_decide_eq_true (by kernel_rfl)) (by unfold Func.isWrapper; rw [if_neg (of_decide_eq_false (by kernel_rfl))]; exact ⟨rfl, rfl⟩)
    (fun os started H enc _ => fnExactReviseBand_lifted os started H enc)
#print axioms fnExactReviseBand_holds

end Go.Proofs.Ytmhiohijpnmcpaa
