/-
  The contracts of FormatInt, the program's and the reference's.
-/
import Derived.Test.YtfdmkbdcabedoaaDoorBase
import Derived.Test.YtfdmkbdcabedoaaDoorLaidI
import Derived.Laws.BytesString
import Derived.Lib.ItoaMem
import Derived.Lib.ItoaLen
import Derived.Deep.RegionLaw
namespace Go.Proofs.YtfdmkbdcabedoaaDoor
open Go.RowKit

theorem byte_text (W : World) (b : Nat) (x : Int) (hb : Blk W b 5 #[.int .u8 x]) : Sem.run Tryd.prog (convert 27 9 (.slice (some ⟨b, 0, none⟩) 1 1)) W = .ok (.string ⟨#[UInt8.ofNat x.toNat]⟩) W := by
  have h0 := hb.cell 0
  rw [run_convert_bytes_string _ _ _ 5 _ _ _ Tryd.underlying27 Tryd.underlying5 Tryd.underlying9]
  rw [run_bytesToString _ _ 1 1 [x] (by simp [go_sem, h0])]
  rfl
theorem ba_app (l r : List UInt8) : (⟨l.toArray⟩ : ByteArray) ++ ⟨r.toArray⟩ = ⟨(l ++ r).toArray⟩ := by
  apply ByteArray.ext
  simp
theorem dec_step {u : Nat} (h : ¬ u < 10) : Lib.decDigits u = Lib.decDigits (u / 10) ++ [UInt8.ofNat (48 + u % 10)] := by rw [Lib.decDigits, dif_neg h]
theorem dec_len {u : Nat} (h : u < 18446744073709551616) : (Lib.decDigits u).length ≤ 20 := by
  rw [Lib.decDigits_length]
  exact Lib.nDigits_le20 u h

/-- The digits of a number that is not negative: the loop. -/
theorem dec_part {u a : Nat} {s : List UInt8} (hu : u < 18446744073709551616) (h : Lib.decDigits a ++ s = Lib.decDigits u) : s.length ≤ 20 := by
  have h1 := congrArg List.length h
  rw [List.length_append] at h1
  have := dec_len hu
  omega

set_option maxHeartbeats 4000000 in
theorem specFormatInt_pos (u : Nat) (w : World) (hu : (u : Int) ≤ 9223372036854775807) :
    Calls Tryd.prog 6 #[.int .i64 u] w fun e w' => e = .returned (.string ⟨(Lib.itoa u).toArray⟩) ∧ Below w.heap.size w w' := by
  have hneg : ¬ (u : Int) < 0 := by omega
  have hu2 : u < 18446744073709551616 := by omega
  have HU := Lib.hid hu
  clear hu
  go_enter Tryd.func6, Tryd.ntmps6
  go_wp2_with fail
  go_loopw [0, 3] (fun q o wr => ∃ (a : Nat) (s : List UInt8), q = .int .i64 a ∧ o = .string ⟨s.toArray⟩ ∧ a ≤ u ∧ Lib.decDigits a ++ s = Lib.decDigits u ∧ Below w.heap.size w wr) (fun q _ _ => (intOf q).toNat)
  case atStart => exact ⟨u, [], rfl, rfl, Nat.le_refl _, by simp, Below.refl _ _⟩
  case round =>
    obtain ⟨a, s, rfl, rfl, hau, hds, hbel⟩ := hrel
    have hsl := dec_part hu2 hds
    have hs1 := hbel.size
    have h1s : ∀ x : UInt8, ({ data := #[x] } : ByteArray).size = 1 := fun _ => rfl
    have h2s : ({ data := s.toArray } : ByteArray).size = s.length := by show s.toArray.size = s.length; simp
    have HDS := Lib.hid hds
    have hau2 := HU.out
    clear hds
    by_cases hlt : 9 < (a : Int)
    · have hcv := byte_text (wr.alloc (.cells #[.int .u8 (48 + (a : Int) % 10)] 5)) wr.heap.size (48 + (a : Int) % 10) (Blk.new _ _ _)
      have hxx : (48 + (a : Int) % 10).toNat = 48 + a % 10 := by omega
      rw [hxx] at hcv
      have HST := Lib.hid (dec_step (u := a) (by omega))
      have HAP : Hid ((⟨#[48 + UInt8.ofNat (a % 10)]⟩ : ByteArray) ++ ⟨s.toArray⟩ = ⟨(UInt8.ofNat (48 + a % 10) :: s).toArray⟩) := Lib.hid (by rw [UInt8.ofNat_add]; exact ba_app [48 + UInt8.ofNat (a % 10)] s)
      clear hxx
      go_wp2_with fail
      go_roundw
      case rel => exact ⟨a / 10, UInt8.ofNat (48 + a % 10) :: s, by simp, congrArg Value.string HAP.out, by omega, by rw [← HDS.out, HST.out, List.append_assoc]; rfl, hbel.alloc hs1 _⟩
      case measure => simp [intOf]; omega
    · have hcv := byte_text (wr.alloc (.cells #[.int .u8 (48 + (a : Int))] 5)) wr.heap.size (48 + (a : Int)) (Blk.new _ _ _)
      have hxx : (48 + (a : Int)).toNat = 48 + a := by omega
      rw [hxx] at hcv
      have HAP : Hid ((⟨#[48 + UInt8.ofNat a]⟩ : ByteArray) ++ ⟨s.toArray⟩ = ⟨([UInt8.ofNat (48 + a)] ++ s).toArray⟩) := Lib.hid (by rw [UInt8.ofNat_add]; exact ba_app [48 + UInt8.ofNat a] s)
      have HRES := Lib.hid (show Lib.itoa u = [UInt8.ofNat (48 + a)] ++ s by
        rw [Lib.itoa_nonneg, ← HDS.out, Lib.decDigits_one (by omega)])
      clear hxx
      go_wp2_with fail
      go_ret
      exact ⟨by rw [HRES.out]; exact congrArg (fun x => Ending.returned (.string x)) HAP.out, hbel.alloc hs1 _⟩

end Go.Proofs.YtfdmkbdcabedoaaDoor
