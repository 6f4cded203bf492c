/-
  The contracts of SplitLines, the program's and the reference's.
-/
import Derived.Test.YtfdmkbdcabedoaaDoorSplit
import Derived.Test.YtfdmkbdcabedoaaDoorModelN
namespace Go.Proofs.YtfdmkbdcabedoaaDoor
open Go.RowKit

theorem empty_no {x : ByteArray} (h : x ≠ none_) : x.toList.isEmpty = false := by
  cases hh : x.toList.isEmpty
  · rfl
  · rw [ByteArray.toList_eq] at hh
    obtain ⟨⟨l⟩⟩ := x
    cases l with
    | nil => exact absurd rfl h
    | cons _ _ => simp at hh

set_option maxHeartbeats 4000000 in
theorem implSplitLines_any (s : ByteArray) (w : World) (hs : s.size ≤ 1048576) :
    Calls Tryd.prog 15 #[.string s] w (ResSl 9 strAt 1 (linesV s) w) := by
  go_enter Tryd.func15, Tryd.ntmps15
  go_wp2_with fail
  refine (implSplitAnyC_any s newl _ hs (by decide)).mono ?_
  rintro e w1 ⟨A, c, rfl, hcp, hsl, hb1⟩
  have hne := splitL_ne s newl s.size 0 0
  obtain ⟨ps, hps⟩ : ∃ ps, ps = splitV s newl := ⟨_, rfl⟩
  have hne' : 1 ≤ ps.length := by rw [hps]; exact hne
  have hle : ps.length ≤ 1048577 := by have := splitV_len s newl; rw [hps]; omega
  have HF : Hid (linesV s = cutLast ps) := Lib.hid (by rw [hps]; rfl)
  rw [← hps] at hcp hsl ⊢
  clear hps hne
  obtain ⟨n, hn⟩ : ∃ n, ps.length = n + 1 := ⟨ps.length - 1, by omega⟩
  obtain ⟨x, hx⟩ : ∃ x, ps[n]? = some x := ⟨_, List.getElem?_eq_getElem (by omega)⟩
  obtain ⟨g, off, rfl, hg, hc⟩ := hsl.rd (by omega)
  have c0 := hc n x hx 0 (by omega)
  simp only [strAt, Nat.add_zero, Nat.mul_one] at c0
  have HC := Lib.hid hc
  have hx2 : ps[ps.length - 1]? = some x := by rw [hn]; exact hx
  have v1 : IntKind.i64.wrap ((ps.length : Int) - 1) = (n : Int) := by rw [IntWalk.i64_in _ (by omega)]; omega
  have v2 : (ps.length : Int) - 1 = (n : Int) := by omega
  have hn0 : (0 : Int) ≤ (n : Int) := Int.natCast_nonneg _
  have hn1 : (n : Int) < (ps.length : Int) := by omega
  have hn2 : (n : Int) ≤ (c : Int) := by omega
  have HX2 := Lib.hid hx2
  have HS := Lib.hid hsl
  have HN := Lib.hid hn
  clear hc hx hx2 hsl hn
  by_cases t : x = none_
  · have t1 : x.toList.isEmpty = true := by rw [t, ByteArray.toList_eq]; rfl
    have HT := Lib.hid t
    clear t
    go_wp2_with fail
    go_ret
    exact ResSl.mk_ (ps := ps.dropLast) (by rw [HF.out, cutLast, if_pos (by rw [HX2.out, HT.out])]) (by rw [List.length_dropLast, HN.out]; rfl) HS.out.dropLast hb1
  · have t1 : x.toList.isEmpty = false := empty_no t
    have HT := Lib.hid t
    clear t
    go_wp2_with fail
    go_ret
    exact ResSl.mk_ (ps := ps) (by rw [HF.out, cutLast, if_neg (by rw [HX2.out]; exact fun h => HT.out (Option.some.inj h))]) rfl HS.out hb1


end Go.Proofs.YtfdmkbdcabedoaaDoor
