/-
  The contract of BestRoute, the program's.
-/
import Derived.Test.YtjmfgncakegjaaaRtW
import Derived.Test.YtjmfgncakegjaaaModelBs
import Derived.Test.YtjmfgncakegjaaaChartM
namespace Go.Proofs.Ytjmfgncakegjaaa
open Go.RowKit

set_option maxHeartbeats 4000000 in
set_option maxRecDepth 20000 in
theorem implBestRoute_any (A A' : Option Addr) (c c' : Nat) (ps : List Point) (ss : List Segment) (a b : Int) (w : World) (hr : Rd w w.heap.size Point.at_ 2 A ps) (hr' : Rd w w.heap.size Segment.at_ 5 A' ss) (hwf : ∀ p ∈ ps, p.wf) (hwf' : ∀ p ∈ ss, p.wf) (hlen : ps.length ≤ 1048576) (hlen' : ss.length ≤ 1048576) (hcap : ss.length ≤ c') :
    Calls Try.prog 41 #[.agg #[.slice A ps.length c, .slice A' ss.length c'], .int .i64 a, .int .i64 b] w (ResP 3 (bestF (minsF ps ss) (routesB ps ss a b)) w) := by
  obtain ⟨wa, hwa⟩ : ∃ wa, wa = w.alloc (.cells #[.slice A ps.length c, .slice A' ss.length c'] 31) := ⟨_, rfl⟩
  have hk0 : Blk wa w.heap.size 31 #[.slice A ps.length c, .slice A' ss.length c'] := by rw [hwa]; exact Blk.new _ _ _
  have hB0 : Below w.heap.size w wa := by rw [hwa]; exact (Below.refl _ _).alloc (Nat.le_refl _) _
  have hra := (hr.below hB0).more hB0.size
  have hra' := (hr'.below hB0).more hB0.size
  have hrl : (routesB ps ss a b).length ≤ 10000000 := routesB_count fun h => (chartOk_len h).2
  have hsh : ∀ l ∈ routesB ps ss a b, l.length ≤ 8 := fun l h => routesB_short h
  have hcr := implRoutesBetween_any A A' c c' ps ss a b wa hra hra' hwf hwf' hlen hlen' hcap
  have HWA := Lib.hid hwa
  obtain ⟨res, hres⟩ : ∃ res, res = routesB ps ss a b := ⟨_, rfl⟩
  rw [← hres] at hrl hsh hcr ⊢
  clear hwa
  go_enter Try.func41, Try.ntmps41
  go_wp2_with fail
  rw [← HWA.out]
  refine hcr.mono ?_
  rintro e w1 ⟨A1, c1, rfl, hrows, hb1⟩
  have hk1 := hk0.next hb1
  have hB1 := hB0.trans (hb1.mono hB0.size)
  have hz1 := hB0.size
  have hz2 := hb1.size
  have HRES := Lib.hid hres
  clear hcr hk0 hB0 hb1 hra hra' hres
  by_cases h0 : res.length = 0
  · have hn : res = [] := List.eq_nil_of_length_eq_zero h0
    subst hn
    go_wp2_with fail
    go_ret2
    exact ResP.none_ rfl hB1
  have hne : ((res.length : Int) == 0) = false := by
    simp
    intro h
    exact h0 (by rw [h]; rfl)
  have hlt0 : (0 : Int) < (res.length : Int) := by omega
  have hltn : 0 < res.length := by omega
  obtain ⟨r0, hr0⟩ : ∃ r0, res[0]? = some r0 := ⟨_, List.getElem?_eq_getElem hltn⟩
  obtain ⟨go, g0, d0, rfl, _, _, hgo, q0, k1, k2, hh0⟩ := hrows.at_ hr0
  obtain ⟨f, hf⟩ : ∃ f, f = minsF ps ss := ⟨_, rfl⟩
  have HR := Lib.hid hr
  have HR' := Lib.hid hr'
  have HR0 := Lib.hid hr0
  have HH0 := Lib.hid hh0
  have HROW := Lib.hid hrows
  have HK1 := Lib.hid hk1
  have HB1 := Lib.hid hB1
  have HSH := Lib.hid hsh
  have HF := Lib.hid hf
  have hlw : w.heap.size < w1.heap.size := hk1.lt
  clear hr hr' hr0 hh0 hrows hk1 hB1 hsh hf
  go_wp2_with fail
  go_loopw [9, 24] (fun u i wr => ∃ (k : Nat) (bs : List Int) (g d : Nat), k ≤ res.length ∧ i = .int .i64 k ∧ u = .slice (some ⟨g, 0, none⟩) bs.length d ∧ bestP f (some r0) res k = some bs ∧ bs.length ≤ 8 ∧ w.heap.size ≤ g ∧ Has wr g 3 intAt 1 bs ∧ Below w1.heap.size w1 wr) (fun _ i _ => res.length - (intOf i).toNat)
  case atStart => exact ⟨0, r0, g0, d0, Nat.zero_le _, rfl, rfl, bestP_zero, HSH.out _ (List.mem_of_getElem? HR0.out), by omega, HH0.out, Below.refl _ _⟩
  case round =>
    clear q0
    obtain ⟨k, bs, g, d, hk, rfl, rfl, hbst, hb8, hgw, hhb, hbel⟩ := hrel
    have HBST := Lib.hid hbst
    clear hbst
    by_cases hlt : k < res.length
    · obtain ⟨r, hrk⟩ : ∃ r, res[k]? = some r := ⟨_, List.getElem?_eq_getElem hlt⟩
      obtain ⟨go', g1, d1, e, _, _, hgo', q1, k3, k4, hh1⟩ := (HROW.out.next hbel).at_ hrk
      cases e
      have hr8 := HSH.out r (List.mem_of_getElem? hrk)
      have hk0 : (0 : Int) ≤ (k : Int) := Int.natCast_nonneg _
      have hk1 : (k : Int) < (res.length : Int) := by omega
      have hkr := HK1.out.next hbel
      have hz3 := hbel.size
      have hBr := HB1.out.trans (hbel.mono (by omega))
      have hrr := (HR.out.below hBr).more hBr.size
      have hrr' := (HR'.out.below hBr).more hBr.size
      have hc1 : ∀ W, Below wr.heap.size wr W → Calls Try.prog 26 #[.agg #[.slice A ps.length c, .slice A' ss.length c'], .slice (some ⟨g1, 0, none⟩) r.length d1] W fun e w' => e = .returned (.int .i64 (f r)) ∧ Below W.heap.size W w' := fun W hW => by
        rw [HF.out]
        exact implRouteMinutes_any A A' (some ⟨g1, 0, none⟩) c c' d1 ps ss r W ((hrr.below hW).more hW.size) ((hrr'.below hW).more hW.size) (hh1.next hW).rd hwf hwf' hlen hlen' (by omega) hcap
      have hc2 : ∀ W, Below wr.heap.size wr W → Calls Try.prog 26 #[.agg #[.slice A ps.length c, .slice A' ss.length c'], .slice (some ⟨g, 0, none⟩) bs.length d] W fun e w' => e = .returned (.int .i64 (f bs)) ∧ Below W.heap.size W w' := fun W hW => by
        rw [HF.out]
        exact implRouteMinutes_any A A' (some ⟨g, 0, none⟩) c c' d ps ss bs W ((hrr.below hW).more hW.size) ((hrr'.below hW).more hW.size) (hhb.next hW).rd hwf hwf' hlen hlen' (by omega) hcap
      obtain ⟨x, hx⟩ : ∃ x, x = f r := ⟨_, rfl⟩
      obtain ⟨y, hy⟩ : ∃ y, y = f bs := ⟨_, rfl⟩
      rw [← hx] at hc1
      rw [← hy] at hc2
      have hd0 : Below wr.heap.size wr wr.drew := (Below.refl _ _).drew
      have c0 := hkr.cell 0
      have c1' := hkr.cell 1
      have hla := hkr.lt
      have HX := Lib.hid hx
      have HY := Lib.hid hy
      have HRK := Lib.hid hrk
      have HH1 := Lib.hid hh1
      have HHB := Lib.hid hhb
      have HBEL := Lib.hid hbel
      clear hx hy hrk hh1 hhb hbel hkr hBr hrr hrr'
      by_cases hq : x < y
      · have hN := Lib.hid (bestP_yes HRK.out HBST.out (by rw [← HX.out, ← HY.out]; exact hq))
        have hqd : decide (x < y) = true := decide_eq_true hq
        go_wp2_with fail
        go_region_held3 (fun w' => w'.cell? ⟨w.heap.size, 0, none⟩ = some (.slice A ps.length c) ∧ w'.cell? ⟨w.heap.size, 1, none⟩ = some (.slice A' ss.length c')) (go_keep)
          (first
            | (go_at_call 26; refine (hc2 _ (hd0.trans (hbA.mono hd0.size))).mono ?_; rintro e w3 ⟨rfl, hbB⟩; have hccB : ∀ b o, b < wA.heap.size → w3.cell? ⟨b, o, none⟩ = wA.cell? ⟨b, o, none⟩ := (bcell hbB).1)
            | (go_at_call 26; refine (hc1 _ hd0).mono ?_; rintro e wA ⟨rfl, hbA⟩; have hccA : ∀ b o, b < wr.heap.size → wA.cell? ⟨b, o, none⟩ = wr.cell? ⟨b, o, none⟩ := (bcell hbA).1; have hlA : w.heap.size < wA.heap.size := Nat.lt_of_lt_of_le hla hbA.size))
        have hAll : Below wr.heap.size wr w3 := (hd0.trans (hbA.mono hd0.size)).trans (hbB.mono (hd0.trans (hbA.mono hd0.size)).size)
        go_wp2_with fail
        go_roundw
        case rel => exact ⟨k + 1, r, g1, d1, by omega, by go_num, rfl, hN.out, hr8, by omega, HH1.out.next hAll, HBEL.out.trans (hAll.mono hz3)⟩
        case measure => simp [intOf]; omega
      · have hN := Lib.hid (bestP_no HRK.out HBST.out (by rw [← HX.out, ← HY.out]; exact hq))
        have hqd : decide (x < y) = false := decide_eq_false hq
        go_wp2_with fail
        go_region_held3 (fun w' => w'.cell? ⟨w.heap.size, 0, none⟩ = some (.slice A ps.length c) ∧ w'.cell? ⟨w.heap.size, 1, none⟩ = some (.slice A' ss.length c')) (go_keep)
          (first
            | (go_at_call 26; refine (hc2 _ (hd0.trans (hbA.mono hd0.size))).mono ?_; rintro e w3 ⟨rfl, hbB⟩; have hccB : ∀ b o, b < wA.heap.size → w3.cell? ⟨b, o, none⟩ = wA.cell? ⟨b, o, none⟩ := (bcell hbB).1)
            | (go_at_call 26; refine (hc1 _ hd0).mono ?_; rintro e wA ⟨rfl, hbA⟩; have hccA : ∀ b o, b < wr.heap.size → wA.cell? ⟨b, o, none⟩ = wr.cell? ⟨b, o, none⟩ := (bcell hbA).1; have hlA : w.heap.size < wA.heap.size := Nat.lt_of_lt_of_le hla hbA.size))
        have hAll : Below wr.heap.size wr w3 := (hd0.trans (hbA.mono hd0.size)).trans (hbB.mono (hd0.trans (hbA.mono hd0.size)).size)
        go_wp2_with fail
        go_roundw
        case rel => exact ⟨k + 1, bs, g, d, by omega, by go_num, rfl, hN.out, hb8, hgw, HHB.out.next hAll, HBEL.out.trans (hAll.mono hz3)⟩
        case measure => simp [intOf]; omega
    · have hk' : k = res.length := by omega
      subst hk'
      have HX := Lib.hid (show bestF f res = some bs by rw [← bestP_first HR0.out]; exact HBST.out)
      have hBr := HB1.out.trans (hbel.mono (by omega))
      go_wp2_with fail
      go_ret2
      exact ResP.some_ (by rw [← HF.out]; exact HX.out) rfl (.inr ⟨g, rfl, hgw, hhb.lt, hhb⟩) hBr

end Go.Proofs.Ytjmfgncakegjaaa
