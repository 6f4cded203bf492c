/-
  The plain model: texts joined by another one. No program is in sight.
-/
import Derived.Test.YtfdmkbdcabedoaaDoorModelT
import Derived.Lib.Join
namespace Go.Proofs.YtfdmkbdcabedoaaDoor

def joinV (ps : List ByteArray) (d : ByteArray) : ByteArray := ⟨(Lib.join (ps.map (·.data.toList)) d.data.toList).toArray⟩
theorem joinTail_snoc (d : List UInt8) (r : List (List UInt8)) (x : List UInt8) : Lib.joinTail d (r ++ [x]) = Lib.joinTail d r ++ (d ++ x) := by
  simp [Lib.joinTail]
theorem join_snoc {r : List (List UInt8)} (hr : r ≠ []) (x d : List UInt8) : Lib.join (r ++ [x]) d = Lib.join r d ++ d ++ x := by
  cases r with
  | nil => exact absurd rfl hr
  | cons y r => rw [List.cons_append, Lib.join_cons, Lib.join_cons, joinTail_snoc]; simp
theorem joinTail_len (d : List UInt8) : ∀ r : List (List UInt8), (Lib.joinTail d r).length = (r.map (·.length)).sum + r.length * d.length
  | [] => by simp [Lib.joinTail]
  | x :: r => by
    have h : Lib.joinTail d (x :: r) = d ++ x ++ Lib.joinTail d r := by simp [Lib.joinTail]
    rw [h, List.length_append, List.length_append, joinTail_len d r]
    simp [Nat.add_mul]
    omega
theorem join_len (d : List UInt8) : ∀ r : List (List UInt8), (Lib.join r d).length ≤ (r.map (·.length)).sum + r.length * d.length
  | [] => by simp [Lib.join_nil]
  | x :: r => by
    rw [Lib.join_cons, List.length_append, joinTail_len]
    simp [Nat.add_mul]
    omega
theorem joinV_zero (d : ByteArray) : joinV [] d = ⟨#[]⟩ := rfl
theorem joinV_one (x d : ByteArray) : joinV [x] d = x := by
  unfold joinV
  rw [List.map_cons, List.map_nil, Lib.join_one]
theorem joinV_next {ps : List ByteArray} {k : Nat} {p d : ByteArray} (hk : 0 < k) (hp : ps[k]? = some p) : joinV (ps.take (k + 1)) d = joinV (ps.take k) d ++ d ++ p := by
  have hl : k < ps.length := (List.getElem?_eq_some_iff.1 hp).1
  have hv : ps[k] = p := (List.getElem?_eq_some_iff.1 hp).2
  unfold joinV
  rw [List.take_succ_eq_append_getElem hl, hv, List.map_append, List.map_cons, List.map_nil, join_snoc (by
    intro h
    have := congrArg List.length h
    simp at this
    rcases this with h0 | h0
    · omega
    · subst h0
      simp at hl)]
  apply ByteArray.ext
  simp
theorem joinV_first {ps : List ByteArray} {p d : ByteArray} (hp : ps[0]? = some p) : joinV (ps.take 1) d = p := by
  cases ps with
  | nil => simp at hp
  | cons q ps =>
    simp at hp
    subst hp
    exact joinV_one q d

end Go.Proofs.YtfdmkbdcabedoaaDoor
