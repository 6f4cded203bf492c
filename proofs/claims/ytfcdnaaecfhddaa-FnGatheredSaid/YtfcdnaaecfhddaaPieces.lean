/-
  The contract of the draw of pieces.
-/
import Derived.Test.YtfcdnaaecfhddaaDrawW
namespace Go.Proofs.Ytfcdnaaecfhddaa
open Go.RowKit

/-- Pieces as they are drawn. -/
def Pieces (ps : List Window) : Prop := ∀ p ∈ ps, 0 ≤ p.frm ∧ p.frm ≤ 899 ∧ p.frm - 20 ≤ p.to_ ∧ p.to_ ≤ p.frm + 279

set_option maxRecDepth 20000 in
set_option maxHeartbeats 4000000 in
theorem MakePieces_any (A : Option Addr) (c : Nat) (zs : List Int) (w : World) (hr : Rd w w.heap.size byteAt 1 A zs) (hlen : zs.length ≤ 1048576) (hb : ∀ z ∈ zs, 0 ≤ z ∧ z ≤ 255) :
    Calls Try.prog 36 #[.slice A zs.length c] w fun e w' => ∃ (ps : List Window) (A' : Option Addr) (c' : Nat), e = .returned (.slice A' ps.length c') ∧ Sl w' w.heap.size w'.heap.size A' 41 Window.at_ 2 ps ∧ Below w.heap.size w w' ∧ Pieces ps ∧ ps.length ≤ 4 := by
  go_enter Try.func36, Try.ntmps36
  go_wp2_with fail
  refine (l01New_any _ _ _ _ hr hlen hb).mono ?_
  rintro e w0 ⟨g, rfl, hg, hc0, hb0⟩
  have hz0 := hb0.size
  have hgl : g < w0.heap.size := by
    obtain ⟨i, x, _, hk⟩ := hc0
    exact hk.lt
  have HRR : Hid (∀ W, w0.grownBy W (some g) → Rd W g byteAt 1 A zs) := Lib.hid fun W h => ((hr.below hb0).more hg).keep fun p hp => World.cell?_of_block (h.block p.block (by omega) (fun e => by injection e with e; omega))
  obtain ⟨wa, hwa⟩ : ∃ wa, wa = w0.alloc (.cells #[] 41) := ⟨_, rfl⟩
  have hBa : Below w0.heap.size w0 wa := by rw [hwa]; exact (Below.refl _ _).alloc (Nat.le_refl _) _
  have hga : w0.grownBy wa (some g) := grown_below (World.grownBy.refl w0 _) hBa
  have hca := hc0.below hBa hgl
  have hown : wa.ownsRow w0.heap.size 41 2 (.slice (some ⟨w0.heap.size, 0, none⟩) 0 0) 0 [] := by rw [hwa]; exact World.ownsRow_lit w0 #[] 0 (by omega) (by simp [maxLen]) rfl
  have HWA := Lib.hid hwa
  have HRA := Lib.hid (HRR.out _ hga)
  clear hr hwa hc0
  go_wp2_with fail
  rw [← HWA.out]
  refine (l01Below_any _ 5 _ _ _ _ hca HRA.out hlen hb (by omega)).mono ?_
  rintro e w2 ⟨n, rfl, hn1, hn2, hc2, hg2'⟩
  have HG2 := Lib.hid (hga.trans hg2')
  have HO2 := Lib.hid (ownsRow_grown hown hg2' hgl)
  have HC2 := Lib.hid hc2
  clear hca hown hc2 hg2'
  go_wp2_with fail
  go_loopw [4, 5] (fun v i wr => ∃ (k : Int) (acc : List Window), 0 ≤ k ∧ i = .int .i64 k ∧ (acc.length : Int) + k ≤ 4 ∧ Pieces acc ∧ wr.ownsRow w0.heap.size 41 2 v acc.length (flat Window.at_ 2 acc) ∧ Cur wr g A zs.length c ∧ w0.grownBy wr (some g)) (fun _ i _ => (intOf i).toNat)
  case atStart => exact ⟨n, [], hn1, rfl, by simp; omega, (fun p h => by cases h), HO2.out, HC2.out, HG2.out⟩
  case round =>
    obtain ⟨k, acc, hk0, rfl, hkl, hdr, hown, hcur, hgr⟩ := hrel
    have hs := hgr.size
    by_cases hlt : 0 < k
    · have hal : acc.length ≤ 3 := by omega
      have HDR := Lib.hid hdr
      have HRW := Lib.hid (HRR.out _ hgr)
      clear hdr
      go_wp2_with fail
      refine (l01Big_any _ 900 _ _ _ _ hcur HRW.out hlen hb (by omega)).mono ?_
      rintro e w3 ⟨a, rfl, ha1, ha2, hc3, hg3'⟩
      have hg3 := hgr.trans hg3'
      have HO3 := Lib.hid (ownsRow_grown hown hg3' hgl)
      have HRW3 := Lib.hid (HRR.out _ hg3)
      clear hown hcur
      go_wp2_with fail
      refine (l01Big_any _ 300 _ _ _ _ hc3 HRW3.out hlen hb (by omega)).mono ?_
      rintro e w4 ⟨y, rfl, hy1, hy2, hc4, hg4'⟩
      have hg4 := hg3.trans hg4'
      have hz4 := hg4.size
      have HO4 := Lib.hid (ownsRow_grown HO3.out hg4' hgl)
      have HC4 := Lib.hid hc4
      have e1 : IntKind.i64.wrap (a + y) = a + y := IntWalk.i64_in _ (by omega)
      have e2 : IntKind.i64.wrap (a + y - 20) = a + y - 20 := IntWalk.i64_in _ (by omega)
      clear hc3 hc4
      go_wp2_with (at_builtin; refine wpAppendWindow rfl _ _ rfl w0.heap.size _ acc rfl (HO4.out.alloc _) w4.heap.size rfl _ _ (Blk.new' _ _ (by simp)) (by omega) (by simp; omega) ?_)
      intro v' w5 hv' hb5 _ _
      have hbn : Below w0.heap.size w4 w5 := ((Below.refl _ _).alloc hz4 _).trans hb5
      have hg5 := grown_below hg4 hbn
      have hc5 := HC4.out.below hbn hgl
      have HV5 := Lib.hid hv'
      clear hv' hb5
      go_wp2_with fail
      go_roundw
      case rel => exact ⟨k - 1, acc ++ [⟨a, a + y - 20⟩], by omega, by go_num, by simp; omega, fun p hp => by
        rcases List.mem_append.1 hp with hp | hp
        · exact HDR.out p hp
        · simp at hp
          subst hp
          dsimp only
          omega, by first | exact HV5.out | (rw [List.length_append]; exact HV5.out), hc5, hg5⟩
      case measure => simp [intOf]; omega
    · obtain ⟨A2, c2, rfl, hsl⟩ := Sl.of_own hown
      have hb2 : Below w.heap.size w wr := hb0.grown hgr hz0 (fun k e => by injection e with e; omega)
      clear hown
      go_wp2_with fail
      go_ret
      exact ⟨acc, A2, ⟨c2, rfl⟩, hsl.mono hz0 (Nat.le_refl _), hb2, hdr, by omega⟩

end Go.Proofs.Ytfcdnaaecfhddaa
