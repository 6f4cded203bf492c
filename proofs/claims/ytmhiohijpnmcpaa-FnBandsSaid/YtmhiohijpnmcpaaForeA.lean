/-
  The contracts of SurgeAt, LowAt, HighAt and InBand, the program's.
-/
import Derived.Test.YtmhiohijpnmcpaaForeF
import Derived.Test.YtmhiohijpnmcpaaForeS
namespace Go.Proofs.Ytmhiohijpnmcpaa
open Go.RowKit

set_option maxHeartbeats 4000000 in
theorem implSurgeAt_any (m : Int) (A A' : Option Addr) (c c' : Nat) (ps : List Part) (ss : List Surge) (t : Int) (w : World) (hr : Rd w w.heap.size Part.at_ 3 A ps) (hr' : Rd w w.heap.size Surge.at_ 3 A' ss) (hwf : ∀ p ∈ ps, p.wf) (hlen : ps.length ≤ 1048576) (hlen' : ss.length ≤ 1048576) :
    Calls Try.prog 20 #[.agg #[.int .i64 m, .slice A ps.length c, .slice A' ss.length c'], .int .i64 t] w fun e w' => e = .returned (.tuple #[.int .i64 (lowS m ps ss t), .int .i64 (highS m ps ss t), .bool (surgeC m ps ss t)]) ∧ Below w.heap.size w w' := by
  have hr1 : ∀ o, Rd (w.alloc o) (w.alloc o).heap.size Part.at_ 3 A ps := fun o => (hr.alloc (Nat.le_refl _) o).more (by simp)
  have hr2 : ∀ o, Rd (w.alloc o) (w.alloc o).heap.size Surge.at_ 3 A' ss := fun o => (hr'.alloc (Nat.le_refl _) o).more (by simp)
  have hk0 := Blk.new w 35 #[.int .i64 m, .slice A ps.length c, .slice A' ss.length c']
  have hB0 : Below w.heap.size w (w.alloc (.cells #[.int .i64 m, .slice A ps.length c, .slice A' ss.length c'] 35)) := (Below.refl _ _).alloc (Nat.le_refl _) _
  go_enter Try.func20, Try.ntmps20
  go_wp2_with fail
  refine (implForecastOk_any _ _ _ _ _ _ _ _ (hr1 _) (hr2 _) hwf hlen hlen').mono ?_
  rintro e w1 ⟨rfl, hb1⟩
  have hk1 := hk0.next hb1
  have hB1 := hB0.trans (hb1.mono hB0.size)
  have c0 := hk1.cell 0
  have c1 := hk1.cell 1
  have c2 := hk1.cell 2
  cases hok : foreOk m ps ss
  · go_wp2_with fail
    go_ret3
    exact ⟨by simp [lowS, highS, surgeC, hok], hB1⟩
  cases ht : inB t 0 2880
  · go_wp2_with (go_at_call 59; refine (isMinute_any _ _).mono ?_; rintro e w' ⟨rfl, rfl⟩)
    go_ret3
    exact ⟨by simp [lowS, highS, surgeC, ht], hB1⟩
  have hC : surgeC m ps ss t = true := by simp [surgeC, hok, ht]
  have hl := foreOk_len hok
  have hix := surgeIx_lt t hl.1 (Nat.le_refl _)
  obtain ⟨k, hk⟩ : ∃ k, k = surgeIx ss t ss.length := ⟨_, rfl⟩
  rw [← hk] at hix
  obtain ⟨g, off, rfl, hg, hc⟩ := hr' (by omega)
  have hlt := hix
  have hbel := hB1
  obtain ⟨p, hp⟩ : ∃ p, ss[k]? = some p := ⟨_, List.getElem?_eq_getElem hlt⟩
  have s0 := (hbel.cell (p := ⟨g, off + k * 3 + 0, none⟩) hg).trans (hc k p hp 0 (by omega))
  have s1 := (hbel.cell (p := ⟨g, off + k * 3 + 1, none⟩) hg).trans (hc k p hp 1 (by omega))
  have s2 := (hbel.cell (p := ⟨g, off + k * 3 + 2, none⟩) hg).trans (hc k p hp 2 (by omega))
  simp only [Surge.at_, Nat.add_zero] at s0 s1 s2
  have HV : Hid (surgeV ss t = p) := Lib.hid (surgeV_at hk.symm hp)
  have HK := Lib.hid hk
  have HR2 := Lib.hid ((hr'.below hB1).more hB1.size)
  have hcs : ∀ W : World, Rd W W.heap.size Surge.at_ 3 (some ⟨g, off, none⟩) ss → Calls Try.prog 60 #[.agg #[.int .i64 m, .slice A ps.length c, .slice (some ⟨g, off, none⟩) ss.length c'], .int .i64 t] W fun e w' => e = .returned (.int .i64 (k : Int)) ∧ Below W.heap.size W w' := fun W h => by
    rw [hk]
    exact implSurge_any _ _ _ _ _ _ _ _ _ h hlen'
  have hrw : Rd w1 w1.heap.size Surge.at_ 3 (some ⟨g, off, none⟩) ss := (hr'.below hB1).more hB1.size
  have rd1 : Rd w1.drew w1.drew.heap.size Surge.at_ 3 (some ⟨g, off, none⟩) ss := hrw
  have rd2 : ∀ o, Rd (w1.drew.alloc o) (w1.drew.alloc o).heap.size Surge.at_ 3 (some ⟨g, off, none⟩) ss := fun o => (rd1.alloc (Nat.le_refl _) o).more (by simp)
  have hla : w.heap.size < w1.heap.size := hk1.lt
  have hlb : w.heap.size < w1.heap.size + 1 := by omega
  have hlg : g < w1.heap.size := by omega
  have hne1 : ¬ w.heap.size = w1.heap.size := by omega
  have hne2 : ¬ w1.heap.size = w.heap.size := by omega
  have hne3 : ¬ g = w1.heap.size := by omega
  have hne4 : ¬ w1.heap.size = g := by omega
  have hlh : g < w1.heap.size + 1 := by omega
  have hk0 : (0 : Int) ≤ (k : Int) := Int.natCast_nonneg _
  have hk2 : (k : Int) < (ss.length : Int) := by omega
  have hB1d : Below w.heap.size w w1.drew := hB1.drew
  clear hk hr1 hr2 hr hr' hp hc hk0 hB0 hb1 hwf HR2
  go_wp2_with (go_at_call 59; refine (isMinute_any _ _).mono ?_; rintro e w' ⟨rfl, rfl⟩)
  go_region_held3 (fun w' => w'.cell? ⟨w.heap.size, 0, none⟩ = some (.int .i64 m) ∧ w'.cell? ⟨w.heap.size, 1, none⟩ = some (.slice A ps.length c) ∧ w'.cell? ⟨w.heap.size, 2, none⟩ = some (.slice (some ⟨g, off, none⟩) ss.length c') ∧ w'.cell? ⟨g, off + k * 3, none⟩ = some (.int .i64 p.frm) ∧ w'.cell? ⟨g, off + k * 3 + 1, none⟩ = some (.int .i64 p.low) ∧ w'.cell? ⟨g, off + k * 3 + 2, none⟩ = some (.int .i64 p.high)) (go_keep)
    ((go_at_call 60; refine (hcs _ ?_).mono ?_; (first | exact rd1 | exact rd2 _); rintro e w3 ⟨rfl, hb3⟩; have hcc3 : ∀ b o, b < w1.heap.size → w3.cell? ⟨b, o, none⟩ = w1.cell? ⟨b, o, none⟩ := (by first | exact (bcell hb3).1 | exact fun b o h => ((bcell hb3).1 b o (by simp; omega)).trans (World.cell?_alloc_lt _ _ _ h)); try have hnk : Blk w3 w1.heap.size 66 #[.int .i64 0, .int .i64 0, .int .i64 0] := (Blk.new w1.drew _ _).next hb3; try have hn0 := hnk.cell 0; try have hn1 := hnk.cell 1; try have hn2 := hnk.cell 2; try have hf0 := hnk.frozen 0; try have hf1 := hnk.frozen 1; try have hf2 := hnk.frozen 2))
  · go_wp2_with fail
    go_quiet (fail)
    go_wp2
    go_ret3
    have hB3 := hB1d.trans (hb3.mono hB1d.size)
    exact ⟨by simp [lowS, highS, hC, HV.out], (hB3.alloc hB3.size _).drewN _⟩
  · go_wp2_with fail
    go_quiet (fail)
    go_wp2
    go_ret3
    have hB3 := (hB1d.alloc hB1d.size _).trans (hb3.mono (by simp; omega))
    refine ⟨by simp [lowS, highS, hC, HV.out], ?_⟩
    exact (((hB3.setCell (by show w.heap.size ≤ w1.heap.size; omega) _).setCell (by show w.heap.size ≤ w1.heap.size; omega) _).setCell (by show w.heap.size ≤ w1.heap.size; omega) _).drewN _

end Go.Proofs.Ytmhiohijpnmcpaa
