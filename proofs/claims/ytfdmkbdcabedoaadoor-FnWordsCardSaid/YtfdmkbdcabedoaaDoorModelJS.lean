/-
  The plain model: a text is recovered from its parts. No program is in sight.
-/
import Derived.Test.YtfdmkbdcabedoaaDoorModelJ
import Derived.Test.YtfdmkbdcabedoaaDoorModelN
namespace Go.Proofs.YtfdmkbdcabedoaaDoor

def blank : ByteArray := ⟨#[32]⟩
theorem join_two (x y d : List UInt8) (r : List (List UInt8)) : Lib.join (x :: y :: r) d = x ++ (d ++ Lib.join (y :: r) d) := by
  rw [Lib.join_cons, Lib.join_cons]
  simp [Lib.joinTail]
theorem join_more (x d : List UInt8) {r : List (List UInt8)} (h : r ≠ []) : Lib.join (x :: r) d = x ++ (d ++ Lib.join r d) := by
  cases r with
  | nil => exact absurd rfl h
  | cons y r => exact join_two x y d r
theorem sep_blank {c : UInt8} (h : sepB blank c = true) : c = 32 := by
  unfold sepB blank at h
  simpa using h
theorem join_split (s : ByteArray) : ∀ (n i f : Nat), i + n = s.size → f ≤ i → Lib.join ((splitL s blank n i f).map (·.data.toList)) blank.data.toList = s.data.toList.drop f
  | 0, i, f, hi, hf => by
    rw [splitL, List.map_cons, List.map_nil, Lib.join_one]
    have : s.size = s.data.size := rfl
    simp
    rw [List.take_of_length_le]
    rw [List.length_drop, Array.length_toList]
    omega
  | n + 1, i, f, hi, hf => by
    rw [splitL]
    by_cases hs : sepB blank (s.data.toList.getD i 0) = true
    · rw [if_pos hs, List.map_cons, join_more _ _ (by
        intro h
        have h1 := congrArg List.length h
        rw [List.length_map] at h1
        have := splitL_ne s blank n (i + 1) (i + 1)
        simp at h1
        rw [h1] at this
        simp at this), join_split s n (i + 1) (i + 1) (by omega) (Nat.le_refl _)]
      have hl : i < s.data.toList.length := by rw [Array.length_toList]; have : s.size = s.data.size := rfl; omega
      have hc : s.data.toList[i] = 32 := by
        have h1 := sep_blank hs
        rw [List.getD_eq_getElem?_getD, List.getElem?_eq_getElem hl] at h1
        exact h1
      have e1 : s.data.toList.drop i = 32 :: s.data.toList.drop (i + 1) := by rw [List.drop_eq_getElem_cons hl, hc]
      have e2 : (s.extract f i).data.toList = (s.data.toList.drop f).take (i - f) := by
        simp
      have e3 : s.data.toList.drop i = (s.data.toList.drop f).drop (i - f) := by rw [List.drop_drop, show f + (i - f) = i by omega]
      rw [e2, show (blank.data.toList ++ s.data.toList.drop (i + 1)) = s.data.toList.drop i by rw [e1]; rfl, e3, List.take_append_drop]
    · rw [if_neg hs]
      exact join_split s n (i + 1) f (by omega) (by omega)
theorem join_splitV (s : ByteArray) : joinV (splitV s blank) blank = s := by
  unfold joinV splitV
  rw [join_split s s.size 0 0 (by omega) (Nat.le_refl _), List.drop_zero]
theorem join_len_of (s : ByteArray) : (Lib.join ((splitV s blank).map (·.data.toList)) blank.data.toList).length = s.size := by
  unfold splitV
  rw [join_split s s.size 0 0 (by omega) (Nat.le_refl _), List.drop_zero, Array.length_toList]
  rfl
theorem lines_two : (linesV ⟨#[97, 10, 98, 10]⟩).length = 2 := by decide +kernel
theorem name_x1 : nameOk (⟨#[120, 49]⟩ : ByteArray).data.toList = true := by decide +kernel

end Go.Proofs.YtfdmkbdcabedoaaDoor
