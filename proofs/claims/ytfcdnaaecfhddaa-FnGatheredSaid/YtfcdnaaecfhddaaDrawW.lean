/-
  The contracts of the draws of windows: numbers below a bound above 256, l04Draw, MakeWindows, MakePieces.
-/
import Derived.Test.YtfcdnaaecfhddaaCur
import Derived.Test.YtfcdnaaecfhddaaWinApp
import Derived.Test.YtfcdnaaecfhddaaModelW
namespace Go.Proofs.Ytfcdnaaecfhddaa
open Go.RowKit

theorem grown_below {w a b : World} {g : Nat} (h : w.grownBy a (some g)) (k : Below w.heap.size a b) : w.grownBy b (some g) :=
  ⟨k.os.trans h.os, k.tape.trans h.tape, k.output.trans h.output, Nat.le_trans h.size k.size, fun i hi hn => (k.block i hi).trans (h.block i hi hn)⟩
theorem ownsRow_grown {w w' : World} {base g size n : Nat} {e : TypeId} {v : Value} {xs : List Value} (h : w.ownsRow base e size v n xs) (hb : w.grownBy w' (some g)) (hg : g < base) : w'.ownsRow base e size v n xs :=
  ⟨h.1, h.2.imp id fun ⟨q, cap, cur, hv, hq, hc, rest⟩ => ⟨q, cap, cur, hv, hq, (hb.block q (Array.getElem?_eq_some_iff.1 hc).1 (fun e => by injection e with e; omega)).trans hc, rest⟩⟩
theorem Cur.below {w w' : World} {B g n c : Nat} {A : Option Addr} (h : Cur w g A n c) (hb : Below B w w') (hg : g < B) : Cur w' g A n c := by
  obtain ⟨i, x, hi, hk⟩ := h
  exact ⟨i, x, hi, hk.below hb hg⟩
theorem winsB_snoc {p : Window} : ∀ (ps : List Window) (lo : Int), winsB lo ps = true → (∀ q ∈ ps, q.to_ + 2 ≤ p.frm) → lo ≤ p.frm → p.frm ≤ p.to_ → p.to_ ≤ 2880 → winsB lo (ps ++ [p]) = true
  | [], lo, _, _, h1, h2, h3 => by simp [winsB, h1, h2, h3]
  | q :: ps, lo, h, ha, h1, h2, h3 => by
    simp [winsB] at h
    have hq := ha q (List.mem_cons_self ..)
    have := winsB_snoc ps (q.to_ + 2) h.2.2.2 (fun r hr => ha r (List.mem_cons_of_mem _ hr)) hq h2 h3
    rw [List.cons_append, winsB, this]
    simp [h.1, h.2.1, h.2.2.1]

set_option maxHeartbeats 4000000 in
/-- n above 256. -/
theorem l01Big_any (g : Nat) (n : Int) (A : Option Addr) (c : Nat) (zs : List Int) (w : World) (hc : Cur w g A zs.length c) (hr : Rd w g byteAt 1 A zs) (hlen : zs.length ≤ 1048576) (hb : ∀ z ∈ zs, 0 ≤ z ∧ z ≤ 255) (hn : 257 ≤ n ∧ n ≤ 65536) :
    Calls Try.prog 50 #[.pointer (some ⟨g, 0, none⟩), .int .i64 n] w (NumPost (n - 1) g A zs.length c w) := by
  go_enter Try.func50, Try.ntmps50
  have hn1 := hn.1
  have hn2 := hn.2
  have RR : ∀ W, w.grownBy W (some g) → Rd W g byteAt 1 A zs := fun W h => hr.keep fun p hp => World.cell?_of_block (h.block p.block (by
    obtain ⟨i, x, _, hk⟩ := hc
    have := hk.lt
    omega) (fun e => by injection e with e; omega))
  have HRR := Lib.hid RR
  clear RR
  go_wp2_with fail
  refine (l01Byte_any _ _ _ _ _ hc hr hlen hb).mono ?_
  rintro e w1 ⟨x, rfl, hx1, hx2, hc1, hg1⟩
  go_wp2_with fail
  refine (l01Byte_any _ _ _ _ _ hc1 (HRR.out _ hg1) hlen hb).mono ?_
  rintro e w2 ⟨y, rfl, hy1, hy2, hc2, hg2'⟩
  have hg2 := hg1.trans hg2'
  go_wp2_with fail
  refine (l01Byte_any _ _ _ _ _ hc2 (HRR.out _ hg2) hlen hb).mono ?_
  rintro e w3 ⟨z, rfl, hz1, hz2, hc3, hg3'⟩
  have hg3 := hg2.trans hg3'
  go_wp2_with fail
  refine (l01Byte_any _ _ _ _ _ hc3 (HRR.out _ hg3) hlen hb).mono ?_
  rintro e w4 ⟨u, rfl, hu1, hu2, hc4, hg4'⟩
  have hg4 := hg3.trans hg4'
  obtain ⟨s, hs⟩ : ∃ s, s = x * 16777216 + y * 65536 + z * 256 + u := ⟨_, rfl⟩
  have hs0 : 0 ≤ s := by omega
  have e1 : IntKind.i64.wrap (x * 16777216) = x * 16777216 := IntWalk.i64_in _ (by omega)
  have e2 : IntKind.i64.wrap (y * 65536) = y * 65536 := IntWalk.i64_in _ (by omega)
  have e3 : IntKind.i64.wrap (z * 256) = z * 256 := IntWalk.i64_in _ (by omega)
  have e4 : IntKind.i64.wrap (x * 16777216 + y * 65536) = x * 16777216 + y * 65536 := IntWalk.i64_in _ (by omega)
  have e5 : IntKind.i64.wrap (x * 16777216 + y * 65536 + z * 256) = x * 16777216 + y * 65536 + z * 256 := IntWalk.i64_in _ (by omega)
  have e6 : IntKind.i64.wrap (x * 16777216 + y * 65536 + z * 256 + u) = x * 16777216 + y * 65536 + z * 256 + u := IntWalk.i64_in _ (by omega)
  have HS := Lib.hid hs
  have e7 : IntKind.i64.wrap ((x * 16777216 + y * 65536 + z * 256 + u).tmod n) = (x * 16777216 + y * 65536 + z * 256 + u).tmod n := IntWalk.i64_in _ (by rw [← HS.out, Int.tmod_eq_emod_of_nonneg hs0]; have := Int.emod_nonneg s (show n ≠ 0 by omega); have := Int.emod_lt_of_pos s (show 0 < n by omega); omega)
  clear hs
  go_wp2_with fail
  go_ret
  refine ⟨_, rfl, ?_, ?_, hc4, hg4⟩
  · rw [← HS.out]
    exact Int.emod_nonneg s (show n ≠ 0 by omega)
  · rw [← HS.out]
    have := Int.emod_lt_of_pos s (show 0 < n by omega)
    omega

/-- Windows as they are drawn. -/
def Drawn (ps : List Window) (at_ : Int) : Prop := windowsOk ps = true ∧ (∀ p ∈ ps, 0 ≤ p.frm ∧ p.frm ≤ p.to_ ∧ p.to_ + 2 ≤ at_) ∧ 0 ≤ at_ ∧ at_ ≤ 59 + 500 * (ps.length : Int)
theorem Drawn.snoc {ps : List Window} {at_ x y : Int} (h : Drawn ps at_) (hx : 0 ≤ x ∧ x ≤ 299) (hy : 0 ≤ y ∧ y ≤ 199) (hl : ps.length ≤ 2) : Drawn (ps ++ [⟨at_, at_ + x⟩]) (at_ + x + 2 + y) := by
  obtain ⟨h1, h2, h3, h4⟩ := h
  refine ⟨winsB_snoc ps 0 h1 (fun q hq => (h2 q hq).2.2) h3 (by dsimp only; omega) (by dsimp only; omega), fun q hq => ?_, by omega, by simp; omega⟩
  rcases List.mem_append.1 hq with hq | hq
  · have := h2 q hq
    omega
  · simp at hq
    subst hq
    dsimp only
    omega
/-- A call that hands back drawn windows in new memory and turns block g alone besides. -/
def DrawPost (g : Nat) (w : World) (e : Ending) (w' : World) : Prop :=
  ∃ (ps : List Window) (A : Option Addr) (c : Nat) (at_ : Int), e = .returned (.slice A ps.length c) ∧ Sl w' w.heap.size w'.heap.size A 41 Window.at_ 2 ps ∧ w.grownBy w' (some g) ∧ Drawn ps at_ ∧ ps.length ≤ 3

set_option maxRecDepth 20000 in
set_option maxHeartbeats 4000000 in
theorem l04Draw_any (g : Nat) (A : Option Addr) (c : Nat) (zs : List Int) (w : World) (hc : Cur w g A zs.length c) (hr : Rd w g byteAt 1 A zs) (hlen : zs.length ≤ 1048576) (hb : ∀ z ∈ zs, 0 ≤ z ∧ z ≤ 255) :
    Calls Try.prog 46 #[.pointer (some ⟨g, 0, none⟩)] w (DrawPost g w) := by
  have hgl : g < w.heap.size := by
    obtain ⟨i, x, _, hk⟩ := hc
    exact hk.lt
  have HRR : Hid (∀ W, w.grownBy W (some g) → Rd W g byteAt 1 A zs) := Lib.hid fun W h => hr.keep fun p hp => World.cell?_of_block (h.block p.block (by omega) (fun e => by injection e with e; omega))
  obtain ⟨wa, hwa⟩ : ∃ wa, wa = w.alloc (.cells #[] 41) := ⟨_, rfl⟩
  have hBa : Below w.heap.size w wa := by rw [hwa]; exact (Below.refl _ _).alloc (Nat.le_refl _) _
  have hga : w.grownBy wa (some g) := grown_below (World.grownBy.refl w _) hBa
  have hca := hc.below hBa hgl
  have hown : wa.ownsRow w.heap.size 41 2 (.slice (some ⟨w.heap.size, 0, none⟩) 0 0) 0 [] := by rw [hwa]; exact World.ownsRow_lit w #[] 0 (by omega) (by simp [maxLen]) rfl
  have HWA := Lib.hid hwa
  have HRA := Lib.hid (HRR.out _ hga)
  clear hr hwa hc
  go_enter Try.func46, Try.ntmps46
  go_wp2_with fail
  rw [← HWA.out]
  refine (l01Below_any _ 60 _ _ _ _ hca HRA.out hlen hb (by omega)).mono ?_
  rintro e w1 ⟨x, rfl, hx1, hx2, hc1, hg1'⟩
  have hg1 := hga.trans hg1'
  have hown1 := ownsRow_grown hown hg1' hgl
  have HR1 := Lib.hid (HRR.out _ hg1)
  clear hca hown
  go_wp2_with fail
  refine (l01Below_any _ 4 _ _ _ _ hc1 HR1.out hlen hb (by omega)).mono ?_
  rintro e w2 ⟨n, rfl, hn1, hn2, hc2, hg2'⟩
  have hg2 := hg1.trans hg2'
  have hown2 := ownsRow_grown hown1 hg2' hgl
  clear hc1 hown1 HRA HR1
  have HO2 := Lib.hid hown2
  have HC2 := Lib.hid hc2
  have HG2 := Lib.hid hg2
  clear hown2 hc2 hg2
  go_wp2_with fail
  go_loopw [3, 4, 5] (fun v a i wr => ∃ (k : Int) (acc : List Window) (at_ : Int), 0 ≤ k ∧ i = .int .i64 k ∧ a = .int .i64 at_ ∧ (acc.length : Int) + k ≤ 3 ∧ Drawn acc at_ ∧ wr.ownsRow w.heap.size 41 2 v acc.length (flat Window.at_ 2 acc) ∧ Cur wr g A zs.length c ∧ w.grownBy wr (some g)) (fun _ _ i _ => (intOf i).toNat)
  case atStart => exact ⟨n, [], x, hn1, rfl, rfl, by simp; omega, ⟨rfl, (fun p h => by cases h), hx1, by simp; omega⟩, HO2.out, HC2.out, HG2.out⟩
  case round =>
    obtain ⟨k, acc, at_, hk0, rfl, rfl, hkl, hdr, hown, hcur, hgr⟩ := hrel
    have hs := hgr.size
    by_cases hlt : 0 < k
    · have hal : acc.length ≤ 2 := by omega
      have hat1 := hdr.2.2.1
      have hat2 := hdr.2.2.2
      have HDR := Lib.hid hdr
      have HRW := Lib.hid (HRR.out _ hgr)
      clear hdr
      go_wp2_with fail
      refine (l01Big_any _ 300 _ _ _ _ hcur HRW.out hlen hb (by omega)).mono ?_
      rintro e w3 ⟨y, rfl, hy1, hy2, hc3, hg3'⟩
      have hg3 := hgr.trans hg3'
      have hz3 := hg3.size
      have HO3 := Lib.hid (ownsRow_grown hown hg3' hgl)
      have HC3 := Lib.hid hc3
      have e1 : IntKind.i64.wrap (at_ + y) = at_ + y := IntWalk.i64_in _ (by omega)
      clear hown hcur hc3
      go_wp2_with (at_builtin; refine wpAppendWindow rfl _ _ rfl w.heap.size _ acc rfl ((HO3.out.alloc _).alloc _) (w3.heap.size + 1) rfl _ _ (Blk.new' _ _ (by simp)) (by omega) (by simp; omega) ?_)
      intro v' w4 hv' hb4 hgrow _
      have hbn : Below w.heap.size w3 w4 := (((Below.refl _ _).alloc hz3 _).alloc (by simp; omega) _).trans hb4
      have hg4 := grown_below hg3 hbn
      have hbx : Blk w4 w3.heap.size 41 #[.int .i64 at_, .int .i64 (at_ + y)] := ((Blk.new w3 _ _).alloc _).grown hgrow (fun e => absurd (HO3.out.lt _ e.symm).2 (Nat.lt_irrefl _))
      have hc4 := HC3.out.below hbn hgl
      have hv1 := hbx.cell 1
      have hlx := hbx.lt
      have HV4 := Lib.hid hv'
      have HR4 := Lib.hid (HRR.out _ hg4)
      have e2 : IntKind.i64.wrap (at_ + y + 2) = at_ + y + 2 := IntWalk.i64_in _ (by omega)
      have HE3 : Hid (∀ z : Int, 0 ≤ z → z ≤ 199 → IntKind.i64.wrap (at_ + y + 2 + z) = at_ + y + 2 + z) := Lib.hid fun z h1 h2 => IntWalk.i64_in _ (by omega)
      have hcd : Cur w4.drew g A zs.length c := hc4
      have hrd : Rd w4.drew g byteAt 1 A zs := HR4.out
      have HCL := Lib.hid (l01Below_any g 200 A c zs w4.drew hcd hrd hlen hb (by omega))
      clear hv' hb4 hgrow hc4 hcd hrd e1
      go_wp2_with fail
      go_region_held3 (fun w' => w'.cell? ⟨w3.heap.size, 1, none⟩ = some (.int .i64 (at_ + y))) (go_keep)
        ((go_at_call 50; refine HCL.out.mono ?_; rintro e w5 ⟨z, rfl, hz1, hz2, hc5, hg5'⟩; have hv5 := (((show Blk w4.drew _ _ _ from hbx).grown hg5' (fun e => by injection e with e; omega)).cell 1); have e3 := HE3.out z hz1 (by omega)))
      have hg5 : w.grownBy w5 (some g) := (show w.grownBy w4.drew (some g) from ⟨hg4.os, hg4.tape, hg4.output, hg4.size, hg4.block⟩).trans hg5'
      have HO5 := Lib.hid (ownsRow_grown (show w4.drew.ownsRow _ _ _ _ _ _ from HV4.out) hg5' hgl)
      have hz2' : z ≤ 199 := by omega
      go_wp2_with fail
      go_roundw
      case rel => exact ⟨k - 1, acc ++ [⟨at_, at_ + y⟩], at_ + y + 2 + z, by omega, by go_num, rfl, by simp; omega, HDR.out.snoc ⟨hy1, by omega⟩ ⟨hz1, hz2'⟩ hal, by first | exact HO5.out | (rw [List.length_append]; exact HO5.out), hc5, hg5⟩
      case measure => simp [intOf]; omega
    · obtain ⟨A2, c2, rfl, hsl⟩ := Sl.of_own hown
      clear hown
      go_wp2_with fail
      go_ret
      exact ⟨acc, A2, c2, at_, rfl, hsl, hgr, hdr, by omega⟩

set_option maxHeartbeats 2000000 in
theorem MakeWindows_any (A : Option Addr) (c n : Nat) (zs : List Int) (w : World) (hr : Rd w w.heap.size byteAt 1 A zs) (hlen : zs.length ≤ 1048576) (hb : ∀ z ∈ zs, 0 ≤ z ∧ z ≤ 255) (hn : n ≤ 1048576) :
    Calls Try.prog 34 #[.slice A zs.length c, .int .i64 n] w fun e w' => ∃ (ps : List Window) (A' : Option Addr) (c' : Nat) (at_ : Int), e = .returned (.slice A' ps.length c') ∧ Sl w' w.heap.size w'.heap.size A' 41 Window.at_ 2 ps ∧ Below w.heap.size w w' ∧ Drawn ps at_ ∧ ps.length ≤ 3 := by
  go_enter Try.func34, Try.ntmps34
  go_wp2_with fail
  refine (l28New_any _ _ _ _ _ hr hlen hb hn).mono ?_
  rintro e w1 ⟨g, rfl, hg, hc1, hb1⟩
  go_wp2_with fail
  refine (l04Draw_any g _ _ _ _ hc1 ((hr.below hb1).more hg) hlen hb).mono ?_
  rintro e w2 ⟨ps, A2, c2, at_, rfl, hsl, hg2, hdr, hl⟩
  have hb2 : Below w.heap.size w w2 := hb1.grown hg2 hb1.size (fun k e => by injection e with e; omega)
  have hz1 := hb1.size
  go_wp2_with fail
  go_ret
  exact ⟨ps, A2, c2, at_, rfl, hsl.mono hz1 (Nat.le_refl _), hb2, hdr, hl⟩

end Go.Proofs.Ytfcdnaaecfhddaa
