/-
  The contracts of PadZeros, the program's and the reference's.
-/
import Derived.Test.YtfdmkbdcabedoaaLaid
import Derived.Test.YtfdmkbdcabedoaaScal
namespace Go.Proofs.Ytfdmkbdcabedoaa
open Go.RowKit

def zerosV : Nat → ByteArray
  | 0 => ⟨#[]⟩
  | k + 1 => ⟨#[48]⟩ ++ zerosV k
def padV (s : ByteArray) (n : Int) : ByteArray := if 2000 < n then s else zerosV (n - s.size).toNat ++ s
theorem zerosV_size : ∀ k, (zerosV k).size = k
  | 0 => rfl
  | k + 1 => by
    have h : ({ data := #[48] } : ByteArray).size = 1 := rfl
    rw [zerosV, ByteArray.size_append, zerosV_size k, h]
    omega
theorem repeat_zeros : ∀ k, (⟨(Lib.repeatL (⟨#[48]⟩ : ByteArray).data.toList k).toArray⟩ : ByteArray) = zerosV k
  | 0 => rfl
  | k + 1 => by
    rw [zerosV, ← repeat_zeros k]
    apply ByteArray.ext
    simp [Lib.repeatL]
theorem padV_big {s : ByteArray} {n : Int} (h : 2000 < n) : padV s n = s := by rw [padV, if_pos h]
theorem padV_none {s : ByteArray} {n : Int} (h : ¬ 2000 < n) (h2 : n ≤ s.size) : padV s n = s := by
  have e : (n - (s.size : Int)).toNat = 0 := by omega
  rw [padV, if_neg h, e, zerosV]
  exact ByteArray.empty_append
theorem padV_some {s : ByteArray} {n : Int} {k : Nat} (h : ¬ 2000 < n) (h2 : (k : Int) = n - s.size) : padV s n = zerosV k ++ s := by
  have e : (n - (s.size : Int)).toNat = k := by omega
  rw [padV, if_neg h, e]

set_option maxHeartbeats 2000000 in
theorem implPadZeros_any (s : ByteArray) (n : Int) (w : World) (hs : s.size ≤ 1048576) :
    Calls Try.prog 26 #[.string s, .int .i64 n] w fun e w' => e = .returned (.string (padV s n)) ∧ Below w.heap.size w w' := by
  by_cases h1 : n ≤ s.size
  · have HV : Hid (padV s n = s) := Lib.hid (by
      by_cases h : 2000 < n
      · exact padV_big h
      · exact padV_none h h1)
    go_enter Try.func26, Try.ntmps26
    go_wp2_with fail
    go_ret
    exact ⟨by rw [HV.out]; rfl, Below.refl _ _⟩
  by_cases h2 : 2000 < n
  · have HV := Lib.hid (padV_big (s := s) h2)
    go_enter Try.func26, Try.ntmps26
    go_wp2_with fail
    go_ret
    exact ⟨by rw [HV.out]; rfl, Below.refl _ _⟩
  obtain ⟨k, hk⟩ : ∃ k : Nat, (k : Int) = n - s.size := ⟨(n - s.size).toNat, by omega⟩
  have HV := Lib.hid (padV_some h2 hk)
  have hrep : ∀ W, Calls Try.prog 32 #[.string ⟨#[48]⟩, .int .i64 (n - s.size)] W fun e w' => e = .returned (.string (zerosV k)) ∧ Below W.heap.size W w' := fun W => by
    rw [← hk, ← repeat_zeros k]
    exact Try.strings_Repeat ⟨#[48]⟩ k W (by omega) (by
      have h : ({ data := #[48] } : ByteArray).size = 1 := rfl
      rw [h]
      omega)
  have hz := zerosV_size k
  have hkb : k ≤ 2000 := by omega
  clear hk
  go_enter Try.func26, Try.ntmps26
  go_wp2_with fail
  refine (hrep _).mono ?_
  rintro e w1 ⟨rfl, hb1⟩
  go_wp2_with fail
  go_ret
  exact ⟨by rw [HV.out]; rfl, hb1⟩

set_option maxHeartbeats 2000000 in
theorem specPadZeros_any (s : ByteArray) (n : Int) (w : World) (_hs : s.size ≤ 1048576) :
    Calls Try.prog 25 #[.string s, .int .i64 n] w fun e w' => e = .returned (.string (padV s n)) ∧ Below w.heap.size w w' := by
  by_cases h2 : 2000 < n
  · have HV := Lib.hid (padV_big (s := s) h2)
    go_enter Try.func25, Try.ntmps25
    go_wp2_with fail
    go_ret
    exact ⟨by rw [HV.out]; rfl, Below.refl _ _⟩
  go_enter Try.func25, Try.ntmps25
  go_wp2_with fail
  go_loopw [0] (fun q wr => (∃ j : Nat, q = .string (zerosV j ++ s) ∧ (j = 0 ∨ (j : Int) + s.size ≤ n)) ∧ Below w.heap.size w wr) (fun q _ => (n - (match q with | .string x => (x.size : Int) | _ => 0)).toNat)
  case atStart => exact ⟨⟨0, by rw [zerosV]; exact congrArg Value.string ByteArray.empty_append.symm, .inl rfl⟩, Below.refl _ _⟩
  case round =>
    obtain ⟨⟨j, rfl, hj⟩, hbel⟩ := hrel
    have hz : (zerosV j ++ s).size = j + s.size := by rw [ByteArray.size_append, zerosV_size]
    obtain ⟨x, hx⟩ : ∃ x, x = zerosV j ++ s := ⟨_, rfl⟩
    rw [← hx] at hz ⊢
    have HX := Lib.hid hx
    clear hx
    by_cases hlt : (x.size : Int) < n
    · have HS : Hid (⟨#[48]⟩ ++ x = zerosV (j + 1) ++ s) := Lib.hid (by rw [HX.out, zerosV, ByteArray.append_assoc])
      have h1s : ({ data := #[48] } : ByteArray).size = 1 := rfl
      have hsz : (({ data := #[48] } : ByteArray) ++ x).size = 1 + x.size := by rw [ByteArray.size_append, h1s]
      clear h1s
      go_wp2_with fail
      go_roundw
      case rel => exact ⟨⟨j + 1, by rw [HS.out], .inr (by omega)⟩, hbel⟩
      case measure => dsimp only; omega
    · have HV : Hid (padV s n = x) := Lib.hid (by
        have hj2 : (j = 0 ∧ n ≤ s.size) ∨ (j : Int) = n - s.size := by omega
        rcases hj2 with ⟨h0, hn⟩ | hj2
        · rw [padV_none (by omega) hn, HX.out, h0, zerosV]
          exact ByteArray.empty_append.symm
        · rw [padV_some (by omega) hj2, HX.out])
      go_wp2_with fail
      go_ret
      exact ⟨by rw [HV.out]; rfl, hbel⟩

end Go.Proofs.Ytfdmkbdcabedoaa
