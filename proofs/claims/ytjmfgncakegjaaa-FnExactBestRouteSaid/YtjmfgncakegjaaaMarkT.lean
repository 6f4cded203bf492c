/-
  The contract of the laws' markText, as far as it is used: some text, all old memory as it was.
-/
import Derived.Test.YtjmfgncakegjaaaRows
import Derived.Test.YtjmfgncakegjaaaSlc
import Derived.Laws.BytesString
namespace Go.Proofs.Ytjmfgncakegjaaa
open Go.RowKit

theorem byte_text (W : World) (x : Int) : Sem.run Try.prog (convert 55 9 (.slice (some ⟨W.heap.size, 0, none⟩) 1 1)) (W.alloc (.cells #[.int .u8 x] 5)) = .ok (.string ⟨#[UInt8.ofNat x.toNat]⟩) (W.alloc (.cells #[.int .u8 x] 5)) := by
  rw [run_convert_bytes_string _ _ _ 5 _ _ _ Try.underlying55 Try.underlying5 Try.underlying9]
  rw [run_bytesToString _ _ 1 1 [x] (by simp [go_sem])]
  rfl

set_option maxHeartbeats 2000000 in
theorem markText_any (k : Int) (w : World) (h0 : 0 ≤ k) (h1 : k ≤ 100000000) :
    Calls Try.prog 74 #[.int .i64 k] w fun e w' => ∃ s, e = .returned (.string s) ∧ Below w.heap.size w w' := by
  by_cases hk : k ≤ 0
  · go_enter Try.func74, Try.ntmps74
    go_wp2_with fail
    go_ret
    exact ⟨_, rfl, Below.refl _ _⟩
  go_enter Try.func74, Try.ntmps74
  go_wp2_with fail
  go_loopw [0, 3] (fun q o wr => (∃ (a : Int) (s : ByteArray), q = .int .i64 a ∧ o = .string s ∧ 0 ≤ a ∧ (s.size : Int) + a ≤ k) ∧ Below w.heap.size w wr) (fun q _ _ => (intOf q).toNat)
  case atStart => exact ⟨⟨k, _, rfl, rfl, h0, by show (0 : Int) + k ≤ k; omega⟩, Below.refl _ _⟩
  case round =>
    obtain ⟨⟨a, s, rfl, rfl, ha, hs⟩, hbel⟩ := hrel
    by_cases hlt : 0 < a
    · have hcv := byte_text wr (48 + a % 10)
      have hs1 := hbel.size
      go_wp2_with fail
      go_roundw
      case rel => exact ⟨⟨a / 10, _, rfl, rfl, by omega, by
        have h1s : ({ data := #[UInt8.ofNat (48 + a % 10).toNat] } : ByteArray).size = 1 := rfl
        rw [ByteArray.size_append, h1s]
        omega⟩, hbel.alloc hs1 _⟩
      case measure => simp [intOf]; omega
    · go_wp2_with fail
      go_ret
      exact ⟨⟨_, rfl⟩, hbel⟩

end Go.Proofs.Ytjmfgncakegjaaa
