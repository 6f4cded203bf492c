/-
  The contract of l04Of, the reference's: the windows of marked minutes.
-/
import Derived.Test.YtfcdnaaecfhddaaWinApp
import Derived.Test.YtfcdnaaecfhddaaModelU
namespace Go.Proofs.Ytfcdnaaecfhddaa
open Go.RowKit

def boolAt (b : Bool) (_ : Nat) : Value := .bool b
def bsAt (bs : List Bool) (m : Nat) : Bool := bs.getD m false
theorem bsAt_some {bs : List Bool} {k : Nat} {b : Bool} (h : bs[k]? = some b) : bsAt bs k = b := by
  unfold bsAt
  rw [List.getD_eq_getElem?_getD, h]
  rfl

set_option maxHeartbeats 4000000 in
theorem specOf_any (A : Option Addr) (c : Nat) (bs : List Bool) (w : World) (hr : Rd w w.heap.size boolAt 1 A bs) (hlen : bs.length ≤ 1048576) :
    Calls Try.prog 43 #[.slice A bs.length c] w (ResSl 41 Window.at_ 2 (winsOf (bsAt bs) bs.length) w) := by
  obtain ⟨f, hf⟩ : ∃ f, f = bsAt bs := ⟨_, rfl⟩
  rw [← hf]
  have HFF := Lib.hid hf
  clear hf
  go_enter Try.func43, Try.ntmps43
  go_wp2_with fail
  go_loopw [3, 9] (fun v i wr => ∃ k : Nat, k ≤ bs.length ∧ i = .int .i64 k ∧ wr.ownsRow w.heap.size 41 2 v (winsOf f k).length (flat Window.at_ 2 (winsOf f k)) ∧ Below w.heap.size w wr) (fun _ i _ => bs.length - (intOf i).toNat)
  case atStart => exact ⟨0, Nat.zero_le _, rfl, World.ownsRow_lit w #[] 0 (by omega) (by simp [maxLen]) rfl, (Below.refl _ _).alloc (Nat.le_refl _) _⟩
  case round =>
    obtain ⟨k, hk, rfl, hown, hbel⟩ := hrel
    have hs := hbel.size
    have hwl := winsOf_le f k
    have hwt := Lib.hid (winsOf_to f k)
    obtain ⟨acc, hacc⟩ : ∃ acc, acc = winsOf f k := ⟨_, rfl⟩
    rw [← hacc] at hown hwl
    have HACC := Lib.hid hacc
    clear hacc
    by_cases hlt : k < bs.length
    · obtain ⟨g, off, rfl, hg, hc⟩ := hr (by omega)
      obtain ⟨b, hb⟩ : ∃ b, bs[k]? = some b := ⟨_, List.getElem?_eq_getElem hlt⟩
      have c0 := (hbel.cell (p := ⟨g, off + k * 1 + 0, none⟩) hg).trans (hc k b hb 0 (by omega))
      simp only [boolAt, Nat.add_zero, Nat.mul_one] at c0
      have HB := Lib.hid (show f k = b by rw [HFF.out]; exact bsAt_some hb)
      have HR := Lib.hid hr
      clear hc hb hr
      have hk1 : (k : Int) < (bs.length : Int) := by omega
      cases b
      · have HX := Lib.hid (winsOf_off HB.out)
        have HO := Lib.hid hown
        clear hown
        go_wp2_with fail
        go_roundw
        case rel => exact ⟨k + 1, by omega, by go_num, by rw [HX.out, ← HACC.out]; exact HO.out, hbel⟩
        case measure => simp [intOf]; omega
      · cases hp : prevB f k
        · have HX := Lib.hid (winsOf_new HB.out hp)
          have HG := Lib.hid (winsOf_gap f k hp)
          rcases List.eq_nil_or_concat acc with he | ⟨acc', p, he⟩
          · subst he
            obtain ⟨A1, c1, e1, _⟩ := Sl.of_own hown
            rw [List.length_nil] at e1
            subst e1
            go_wp2_with (at_builtin; refine wpAppendWindow rfl _ _ rfl w.heap.size _ [] rfl (hown.alloc _) wr.heap.size rfl _ _ (Blk.new' _ _ (by simp)) (by simp) (by simp; omega) ?_)
            intro v' w2 hv' hb2 _ _
            have hbn : Below w.heap.size w w2 := (hbel.alloc hs _).trans hb2
            have HO := Lib.hid hv'
            clear hv' hb2 hown
            go_wp2_with fail
            go_roundw
            case rel => exact ⟨k + 1, by omega, by go_num, by rw [HX.out, ← HACC.out]; exact HO.out, hbn⟩
            case measure => simp [intOf]; omega
          · rw [List.concat_eq_append] at he
            subst he
            have hlast := HG.out p (by rw [← HACC.out]; simp)
            have hl2 := hwt.out p (by rw [← HACC.out]; simp)
            obtain ⟨gb, cap, rfl, hgb, hgl, e0, _, _⟩ := ownW_last hown
            have hl3 := hl2.1
            have hl4 : 0 ≤ p.to_ := by omega
            clear hl2
            have hla : (acc' ++ [p]).length = acc'.length + 1 := by simp
            have hn0 : acc'.length + 1 ≤ k := by rw [← hla]; exact hwl
            have HO0 := Lib.hid hown
            clear hown hwl hla
            go_wp2_with (at_builtin; refine wpAppendWindow rfl _ _ rfl w.heap.size _ (acc' ++ [p]) rfl (HO0.out.alloc _) wr.heap.size rfl _ _ (Blk.new' _ _ (by simp)) (by simp; omega) (by simp; omega) ?_)
            intro v' w2 hv' hb2 _ _
            have hbn : Below w.heap.size w w2 := (hbel.alloc hs _).trans hb2
            have HO := Lib.hid hv'
            clear hv' hb2
            go_wp2_with fail
            go_roundw
            case rel => exact ⟨k + 1, by omega, by go_num, by rw [HX.out, ← HACC.out]; first | exact HO.out | (rw [List.length_append]; exact HO.out) | (simpa using HO.out), hbn⟩
            case measure => simp [intOf]; omega
        · have HX := Lib.hid (winsOf_ext HB.out hp)
          obtain ⟨acc', a, he, ha⟩ := winsOf_last f k hp
          rw [← HACC.out] at he
          subst he
          obtain ⟨gb, cap, rfl, hgb, hgl, e0, f0, hset⟩ := ownW_last hown
          have hla : (acc' ++ [(⟨a, (k : Int) - 1⟩ : Window)]).length = acc'.length + 1 := by simp
          have hn0 : acc'.length + 1 ≤ k := by rw [← hla]; exact hwl
          have HS := Lib.hid (hset k)
          dsimp only at e0
          obtain ⟨ha1, ha2⟩ := ha
          have hk2 : 1 ≤ (k : Int) := by omega
          clear hown hwl hla hset
          go_wp2_with fail
          go_roundw
          case rel => exact ⟨k + 1, by omega, by go_num, by rw [HX.out, ← HACC.out, extW_snoc]; first | exact HS.out | (rw [List.length_append]; exact HS.out), hbel.setCell (by exact hgb) _⟩
          case measure => simp [intOf]; omega
    · have hk2 : k = bs.length := by omega
      subst hk2
      obtain ⟨A', c', rfl, hsl⟩ := Sl.of_own hown
      clear hown
      go_wp2_with fail
      go_ret
      exact ResSl.mk_ HACC.out.symm rfl hsl hbel

end Go.Proofs.Ytfcdnaaecfhddaa
