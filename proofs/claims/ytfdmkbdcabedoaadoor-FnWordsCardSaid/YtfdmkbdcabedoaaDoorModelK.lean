/-
  The plain model: a text split at each of some bytes. No program is in sight.
-/
import Derived.Test.YtfdmkbdcabedoaaDoorModelT
import Derived.Lib.IndexAny
namespace Go.Proofs.YtfdmkbdcabedoaaDoor

def sepB (d : ByteArray) (c : UInt8) : Bool := d.data.toList.contains c
/-- The parts from the place i on, n bytes being left, the current part having begun at f. -/
def splitL (s d : ByteArray) : Nat → Nat → Nat → List ByteArray
  | 0, _, f => [s.extract f s.size]
  | n + 1, i, f => if sepB d (s.data.toList.getD i 0) = true then s.extract f i :: splitL s d n (i + 1) (i + 1) else splitL s d n (i + 1) f
def splitV (s d : ByteArray) : List ByteArray := splitL s d s.size 0 0
theorem splitL_len (s d : ByteArray) : ∀ (n i f : Nat), (splitL s d n i f).length ≤ n + 1
  | 0, _, _ => by simp [splitL]
  | n + 1, i, f => by
    have h1 := splitL_len s d n (i + 1) (i + 1)
    have h2 := splitL_len s d n (i + 1) f
    rw [splitL]
    split
    · simp only [List.length_cons]
      omega
    · omega
theorem splitV_len (s d : ByteArray) : (splitV s d).length ≤ s.size + 1 := splitL_len s d _ _ _
theorem splitL_hit {s d : ByteArray} {i f : Nat} {b acc : List ByteArray} (hi : i < s.size) (h : b = acc ++ splitL s d (s.size - i) i f) (hs : sepB d s[i] = true) : b = (acc ++ [s.extract f i]) ++ splitL s d (s.size - (i + 1)) (i + 1) (i + 1) := by
  have e : s.size - i = (s.size - (i + 1)) + 1 := by omega
  have g : s.data.toList.getD i 0 = s[i] := by
    rw [List.getD_eq_getElem?_getD, byte_at s i hi]
    rfl
  rw [h, e, splitL, g, if_pos hs]
  simp
theorem splitL_miss {s d : ByteArray} {i f : Nat} {b acc : List ByteArray} (hi : i < s.size) (h : b = acc ++ splitL s d (s.size - i) i f) (hs : sepB d s[i] = false) : b = acc ++ splitL s d (s.size - (i + 1)) (i + 1) f := by
  have e : s.size - i = (s.size - (i + 1)) + 1 := by omega
  have g : s.data.toList.getD i 0 = s[i] := by
    rw [List.getD_eq_getElem?_getD, byte_at s i hi]
    rfl
  rw [h, e, splitL, g, if_neg (by rw [hs]; exact Bool.false_ne_true)]
theorem splitL_done {s d : ByteArray} {f : Nat} {b acc : List ByteArray} (h : b = acc ++ splitL s d (s.size - s.size) s.size f) : b = acc ++ [s.extract f s.size] := by
  rw [h, Nat.sub_self]
  rfl
theorem sep_index (d : ByteArray) (c : UInt8) : sepB d c = decide (0 ≤ Lib.indexByte d.data.toList c) := Lib.contains_iff_indexByte d.data.toList c
theorem sep_hit {d : ByteArray} {c : UInt8} {k : Nat} (hk : k < d.size) (h : d[k] = c) : sepB d c = true := by
  unfold sepB
  rw [List.contains_iff_mem]
  exact h ▸ List.mem_of_getElem? (byte_at d k hk)
theorem sep_none {d : ByteArray} {c : UInt8} (h : ∀ j (hj : j < d.size), d[j] ≠ c) : sepB d c = false := by
  cases hh : sepB d c
  · rfl
  · unfold sepB at hh
    rw [List.contains_iff_mem] at hh
    obtain ⟨j, hj⟩ := List.mem_iff_getElem?.1 hh
    have hl : j < d.data.toList.length := (List.getElem?_eq_some_iff.1 hj).1
    have hl' : j < d.size := by simpa using hl
    rw [byte_at d j hl'] at hj
    simp at hj
    exact absurd hj (h j hl')

end Go.Proofs.YtfdmkbdcabedoaaDoor
