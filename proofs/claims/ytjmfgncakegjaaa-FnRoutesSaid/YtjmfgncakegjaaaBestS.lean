/-
  The contract of BestRoute, the reference's.
-/
import Derived.Test.YtjmfgncakegjaaaRtW
import Derived.Test.YtjmfgncakegjaaaModelBs
import Derived.Test.YtjmfgncakegjaaaChartM
namespace Go.Proofs.Ytjmfgncakegjaaa
open Go.RowKit

theorem bestL_le (ps : List Point) (ss : List Segment) (a b : Int) : (listOf (bestF (minsF ps ss) (routesB ps ss a b))).length ≤ 8 := by
  cases h : bestF (minsF ps ss) (routesB ps ss a b) with
  | none => exact Nat.zero_le _
  | some l => exact routesB_short (bestF_mem h)

set_option maxHeartbeats 4000000 in
set_option maxRecDepth 20000 in
theorem specBestRoute_any (A A' : Option Addr) (c c' : Nat) (ps : List Point) (ss : List Segment) (a b : Int) (w : World) (hr : Rd w w.heap.size Point.at_ 2 A ps) (hr' : Rd w w.heap.size Segment.at_ 5 A' ss) (hwf : ∀ p ∈ ps, p.wf) (hwf' : ∀ p ∈ ss, p.wf) (hlen : ps.length ≤ 1048576) (hlen' : ss.length ≤ 1048576) (hcap : ss.length ≤ c') :
    Calls Try.prog 40 #[.agg #[.slice A ps.length c, .slice A' ss.length c'], .int .i64 a, .int .i64 b] w (ResP 3 (bestF (minsF ps ss) (routesB ps ss a b)) w) := by
  obtain ⟨wa, hwa⟩ : ∃ wa, wa = w.alloc (.cells #[.slice A ps.length c, .slice A' ss.length c'] 31) := ⟨_, rfl⟩
  have hk0 : Blk wa w.heap.size 31 #[.slice A ps.length c, .slice A' ss.length c'] := by rw [hwa]; exact Blk.new _ _ _
  have hB0 : Below w.heap.size w wa := by rw [hwa]; exact (Below.refl _ _).alloc (Nat.le_refl _) _
  have hra := (hr.below hB0).more hB0.size
  have hra' := (hr'.below hB0).more hB0.size
  have hrl : (routesB ps ss a b).length ≤ 10000000 := routesB_count fun h => (chartOk_len h).2
  have hsh : ∀ l ∈ routesB ps ss a b, l.length ≤ 8 := fun l h => routesB_short h
  have hbw : Below wa.heap.size wa (wa.alloc (.cells #[] 3)) := (Below.refl _ _).alloc (Nat.le_refl _) _
  have hcr := specRoutesBetween_any A A' c c' ps ss a b (wa.alloc (.cells #[] 3)) ((hra.below hbw).more hbw.size) ((hra'.below hbw).more hbw.size) hwf hwf' hlen hlen' hcap
  have c0 := (hk0.next hbw).cell 0
  have c1 := (hk0.next hbw).cell 1
  have HWA := Lib.hid hwa
  obtain ⟨res, hres⟩ : ∃ res, res = routesB ps ss a b := ⟨_, rfl⟩
  rw [← hres] at hrl hsh hcr ⊢
  clear hwa
  go_enter Try.func40, Try.ntmps40
  go_wp2_with fail
  rw [← HWA.out]
  refine hcr.mono ?_
  rintro e w1 ⟨A1, c1x, rfl, hrows, hb1⟩
  have hk1 := (hk0.next hbw).next hb1
  have hB1 := (hB0.trans (hbw.mono hB0.size)).trans (hb1.mono (Nat.le_trans hB0.size hbw.size))
  have hz1 := hB0.size
  have hz2 := hb1.size
  have hz3 := hbw.size
  have HRES := Lib.hid hres
  clear hcr hk0 hB0 hb1 hra hra' hres hbw c0 c1
  obtain ⟨f, hf⟩ : ∃ f, f = minsF ps ss := ⟨_, rfl⟩
  have HR := Lib.hid hr
  have HR' := Lib.hid hr'
  have HROW := Lib.hid hrows
  have HK1 := Lib.hid hk1
  have HB1 := Lib.hid hB1
  have HSH := Lib.hid hsh
  have HF := Lib.hid hf
  have hlw : w.heap.size < w1.heap.size := hk1.lt
  clear hr hr' hrows hk1 hB1 hsh hf
  go_wp2_with fail
  go_loopw [8, 9, 18] (fun u fd i wr => ∃ k : Nat, k ≤ res.length ∧ i = .int .i64 k ∧ ((bestP f none res k = none ∧ fd = .bool false) ∨ ∃ (bs : List Int) (g d : Nat), fd = .bool true ∧ u = .slice (some ⟨g, 0, none⟩) bs.length d ∧ bestP f none res k = some bs ∧ bs.length ≤ 8 ∧ w.heap.size ≤ g ∧ Has wr g 3 intAt 1 bs) ∧ Below w1.heap.size w1 wr) (fun _ _ i _ => res.length - (intOf i).toNat)
  case atStart => exact ⟨0, Nat.zero_le _, rfl, .inl ⟨bestP_zero, rfl⟩, Below.refl _ _⟩
  case round =>
    obtain ⟨k, hk, rfl, hcase, hbel⟩ := hrel
    by_cases hlt : k < res.length
    · obtain ⟨r, hrk⟩ : ∃ r, res[k]? = some r := ⟨_, List.getElem?_eq_getElem hlt⟩
      obtain ⟨go, g1, d1, rfl, _, _, hgo', q1, k3, k4, hh1⟩ := (HROW.out.next hbel).at_ hrk
      have hr8 := HSH.out r (List.mem_of_getElem? hrk)
      have hk0 : (0 : Int) ≤ (k : Int) := Int.natCast_nonneg _
      have hk1 : (k : Int) < (res.length : Int) := by omega
      have hz4 := hbel.size
      have hgw1 : w.heap.size ≤ g1 := by simp at k3; omega
      clear k3
      rcases hcase with ⟨hbst, rfl⟩ | ⟨bs, g, d, rfl, rfl, hbst, hb8, hgw, hhb⟩
      · have hN := Lib.hid (bestP_none hrk hbst)
        have HRK := Lib.hid hrk
        have HH1 := Lib.hid hh1
        have HBEL := Lib.hid hbel
        clear hrk hh1 hbel hbst
        go_wp2_with fail
        go_quiet (fail)
        go_wp2_with fail
        go_roundw
        case rel => exact ⟨k + 1, by omega, by go_num, .inr ⟨r, g1, d1, rfl, rfl, hN.out, hr8, hgw1, HH1.out⟩, HBEL.out.drewN _⟩
        case measure => simp [intOf]; omega
      have HBST := Lib.hid hbst
      have hkr := HK1.out.next hbel
      have hBr := HB1.out.trans (hbel.mono (by omega))
      have hrr := (HR.out.below hBr).more hBr.size
      have hrr' := (HR'.out.below hBr).more hBr.size
      have hc1 : ∀ W, Below wr.heap.size wr W → Calls Try.prog 24 #[.agg #[.slice A ps.length c, .slice A' ss.length c'], .slice (some ⟨g1, 0, none⟩) r.length d1] W fun e w' => e = .returned (.int .i64 (f r)) ∧ Below W.heap.size W w' := fun W hW => by
        rw [HF.out]
        exact specRouteMinutes_any A A' (some ⟨g1, 0, none⟩) c c' d1 ps ss r W ((hrr.below hW).more hW.size) ((hrr'.below hW).more hW.size) (hh1.next hW).rd hwf hwf' hlen hlen' (by omega) hcap
      have hc2 : ∀ W, Below wr.heap.size wr W → Calls Try.prog 24 #[.agg #[.slice A ps.length c, .slice A' ss.length c'], .slice (some ⟨g, 0, none⟩) bs.length d] W fun e w' => e = .returned (.int .i64 (f bs)) ∧ Below W.heap.size W w' := fun W hW => by
        rw [HF.out]
        exact specRouteMinutes_any A A' (some ⟨g, 0, none⟩) c c' d ps ss bs W ((hrr.below hW).more hW.size) ((hrr'.below hW).more hW.size) (hhb.next hW).rd hwf hwf' hlen hlen' (by omega) hcap
      obtain ⟨x, hx⟩ : ∃ x, x = f r := ⟨_, rfl⟩
      obtain ⟨y, hy⟩ : ∃ y, y = f bs := ⟨_, rfl⟩
      rw [← hx] at hc1
      rw [← hy] at hc2
      have hd0 : Below wr.heap.size wr wr.drew := (Below.refl _ _).drew
      have c0 := hkr.cell 0
      have c1' := hkr.cell 1
      have hla := hkr.lt
      have HX := Lib.hid hx
      have HY := Lib.hid hy
      have HRK := Lib.hid hrk
      have HH1 := Lib.hid hh1
      have HHB := Lib.hid hhb
      have HBEL := Lib.hid hbel
      clear hx hy hrk hh1 hhb hbel hkr hBr hrr hrr' hbst
      by_cases hq : x < y
      · have hN := Lib.hid (bestP_yes HRK.out HBST.out (by rw [← HX.out, ← HY.out]; exact hq))
        have hqd : decide (x < y) = true := decide_eq_true hq
        go_wp2_with fail
        go_region_held3 (fun w' => w'.cell? ⟨w.heap.size, 0, none⟩ = some (.slice A ps.length c) ∧ w'.cell? ⟨w.heap.size, 1, none⟩ = some (.slice A' ss.length c')) (go_keep)
          (first
            | (go_at_call 24; refine (hc2 _ (hd0.trans (hbA.mono hd0.size))).mono ?_; rintro e w3 ⟨rfl, hbB⟩; have hccB : ∀ b o, b < wA.heap.size → w3.cell? ⟨b, o, none⟩ = wA.cell? ⟨b, o, none⟩ := (bcell hbB).1)
            | (go_at_call 24; refine (hc1 _ hd0).mono ?_; rintro e wA ⟨rfl, hbA⟩; have hccA : ∀ b o, b < wr.heap.size → wA.cell? ⟨b, o, none⟩ = wr.cell? ⟨b, o, none⟩ := (bcell hbA).1; have hlA : w.heap.size < wA.heap.size := Nat.lt_of_lt_of_le hla hbA.size))
        have hAll : Below wr.heap.size wr w3 := (hd0.trans (hbA.mono hd0.size)).trans (hbB.mono (hd0.trans (hbA.mono hd0.size)).size)
        go_wp2_with fail
        go_roundw
        case rel => exact ⟨k + 1, by omega, by go_num, .inr ⟨r, g1, d1, rfl, rfl, hN.out, hr8, hgw1, HH1.out.next hAll⟩, HBEL.out.trans (hAll.mono hz4)⟩
        case measure => simp [intOf]; omega
      · have hN := Lib.hid (bestP_no HRK.out HBST.out (by rw [← HX.out, ← HY.out]; exact hq))
        have hqd : decide (x < y) = false := decide_eq_false hq
        go_wp2_with fail
        go_region_held3 (fun w' => w'.cell? ⟨w.heap.size, 0, none⟩ = some (.slice A ps.length c) ∧ w'.cell? ⟨w.heap.size, 1, none⟩ = some (.slice A' ss.length c')) (go_keep)
          (first
            | (go_at_call 24; refine (hc2 _ (hd0.trans (hbA.mono hd0.size))).mono ?_; rintro e w3 ⟨rfl, hbB⟩; have hccB : ∀ b o, b < wA.heap.size → w3.cell? ⟨b, o, none⟩ = wA.cell? ⟨b, o, none⟩ := (bcell hbB).1)
            | (go_at_call 24; refine (hc1 _ hd0).mono ?_; rintro e wA ⟨rfl, hbA⟩; have hccA : ∀ b o, b < wr.heap.size → wA.cell? ⟨b, o, none⟩ = wr.cell? ⟨b, o, none⟩ := (bcell hbA).1; have hlA : w.heap.size < wA.heap.size := Nat.lt_of_lt_of_le hla hbA.size))
        have hAll : Below wr.heap.size wr w3 := (hd0.trans (hbA.mono hd0.size)).trans (hbB.mono (hd0.trans (hbA.mono hd0.size)).size)
        go_wp2_with fail
        go_roundw
        case rel => exact ⟨k + 1, by omega, by go_num, .inr ⟨bs, g, d, rfl, rfl, hN.out, hb8, hgw, HHB.out.next hAll⟩, HBEL.out.trans (hAll.mono hz4)⟩
        case measure => simp [intOf]; omega
    · have hk' : k = res.length := by omega
      subst hk'
      have hBr := HB1.out.trans (hbel.mono (by omega))
      rcases hcase with ⟨hbst, rfl⟩ | ⟨bs, g, d, rfl, rfl, hbst, hb8, hgw, hhb⟩
      · have HX := Lib.hid (show bestF f res = none by rw [← bestP_all]; exact hbst)
        clear hbst
        go_wp2_with fail
        go_ret2
        exact ResP.none_ (by rw [← HF.out]; exact HX.out) hBr
      · have HX := Lib.hid (show bestF f res = some bs by rw [← bestP_all]; exact hbst)
        clear hbst
        go_wp2_with fail
        go_ret2
        exact ResP.some_ (by rw [← HF.out]; exact HX.out) rfl (.inr ⟨g, rfl, hgw, hhb.lt, hhb⟩) hBr

end Go.Proofs.Ytjmfgncakegjaaa
