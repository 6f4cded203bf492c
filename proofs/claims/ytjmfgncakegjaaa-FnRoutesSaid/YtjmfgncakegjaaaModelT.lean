/-
  The plain model of texts: digits and names. No program is in sight.
-/
import Derived.Test.YtjmfgncakegjaaaBase
namespace Go.Proofs.Ytjmfgncakegjaaa

def digB (c : UInt8) : Bool := decide (48 ≤ c.toNat ∧ c.toNat ≤ 57)
def lowB (c : UInt8) : Bool := decide (97 ≤ c.toNat ∧ c.toNat ≤ 122)
/-- A text of digits, not empty. -/
def digits (l : List UInt8) : Bool := l.all digB && !l.isEmpty
/-- The bytes of a name from index i on. -/
def nameL (i : Nat) : List UInt8 → Bool
  | [] => true
  | c :: cs => (lowB c || (decide (i ≠ 0) && digB c)) && nameL (i + 1) cs
def nameOk (l : List UInt8) : Bool := inB (l.length : Int) 1 8 && nameL 0 l

theorem byte_at (s : ByteArray) (k : Nat) (h : k < s.size) : s.data.toList[k]? = some s[k] := by
  rw [List.getElem?_eq_getElem (by simpa using h)]
  rfl
theorem digits_next {s : ByteArray} {k : Nat} (h : k < s.size) (ha : (s.data.toList.take k).all digB = true) (h1 : 48 ≤ s[k].toNat) (h2 : s[k].toNat ≤ 57) : (s.data.toList.take (k + 1)).all digB = true := by
  have hl : k < s.data.toList.length := by simpa using h
  have hv : s.data.toList[k] = s[k] := rfl
  rw [List.take_succ_eq_append_getElem hl, List.all_append, ha, hv]
  simp [digB, h1, h2]
theorem digits_no {s : ByteArray} {k : Nat} (h : k < s.size) (hn : s[k].toNat < 48 ∨ 57 < s[k].toNat) : digits s.data.toList = false := by
  have : s.data.toList.all digB = false := by
    rw [List.all_eq_false]
    refine ⟨s[k], List.mem_of_getElem? (byte_at s k h), ?_⟩
    simp [digB]
    omega
  simp [digits, this]
theorem digits_done {s : ByteArray} (ha : (s.data.toList.take s.size).all digB = true) : digits s.data.toList = !s.data.toList.isEmpty := by
  rw [List.take_of_length_le (by simp)] at ha
  simp [digits, ha]
theorem nameL_at {s : ByteArray} {k : Nat} (h : k < s.size) : nameL k (s.data.toList.drop k) = ((lowB s[k] || (decide (k ≠ 0) && digB s[k])) && nameL (k + 1) (s.data.toList.drop (k + 1))) := by
  have hl : k < s.data.toList.length := by simpa using h
  rw [List.drop_eq_getElem_cons hl]
  rfl

theorem nameL_low {s : ByteArray} {k : Nat} {b : Bool} (h : k < s.size) (ha : b = nameL k (s.data.toList.drop k)) (h1 : (97 : Int) ≤ (s[k].toNat : Int)) (h2 : (s[k].toNat : Int) ≤ 122) : b = nameL (k + 1) (s.data.toList.drop (k + 1)) := by
  rw [ha, nameL_at h]
  have : lowB s[k] = true := by simp [lowB]; omega
  simp [this]
theorem nameL_dig {s : ByteArray} {k : Nat} {b : Bool} (h : k < s.size) (ha : b = nameL k (s.data.toList.drop k)) (h0 : k ≠ 0) (h1 : (48 : Int) ≤ (s[k].toNat : Int)) (h2 : (s[k].toNat : Int) ≤ 57) : b = nameL (k + 1) (s.data.toList.drop (k + 1)) := by
  rw [ha, nameL_at h]
  have : digB s[k] = true := by simp [digB]; omega
  simp [this, h0]
theorem nameL_bad {s : ByteArray} {k : Nat} {b : Bool} (h : k < s.size) (ha : b = nameL k (s.data.toList.drop k)) (h1 : (s[k].toNat : Int) < 97 ∨ (122 : Int) < (s[k].toNat : Int)) (h2 : k = 0 ∨ (s[k].toNat : Int) < 48 ∨ (57 : Int) < (s[k].toNat : Int)) : b = false := by
  rw [ha, nameL_at h]
  have h3 : lowB s[k] = false := by simp [lowB]; omega
  rw [h3]
  rcases h2 with h2 | h2
  · simp [h2]
  · have h4 : digB s[k] = false := by simp [digB]; omega
    simp [h4]
theorem nameL_done {s : ByteArray} {b : Bool} (ha : b = nameL s.size (s.data.toList.drop s.size)) : b = true := by
  rw [ha, List.drop_of_length_le (by simp)]
  rfl
theorem empty_toList (s : ByteArray) : (!s.toList.isEmpty) = !s.data.toList.isEmpty := by rw [ByteArray.toList_eq]
theorem empty_size (s : ByteArray) : decide (0 < s.size) = !s.data.toList.isEmpty := by
  obtain ⟨⟨l⟩⟩ := s
  cases l
  · rfl
  · rfl

theorem toList_inj {a b : ByteArray} (h : a.toList = b.toList) : a = b := by
  rw [ByteArray.toList_eq, ByteArray.toList_eq] at h
  obtain ⟨⟨x⟩⟩ := a
  obtain ⟨⟨y⟩⟩ := b
  have h' : x = y := h
  rw [h']
theorem str_same {a b : ByteArray} (h : a = b) : (a.toList == b.toList) = true := by simp [h]
theorem str_diff {a b : ByteArray} (h : a ≠ b) : (a.toList == b.toList) = false := by
  rw [beq_eq_false_iff_ne]
  exact fun e => h (toList_inj e)

end Go.Proofs.Ytjmfgncakegjaaa
