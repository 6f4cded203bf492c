/-
  The plain model: ships and fleets. No program is in sight.
-/
import Derived.Test.YtjnoihilhmhihaaModelT
namespace Go.Proofs.Ytjnoihilhmhihaa

structure Ship where
  name : ByteArray
  len : Int
  draught : Int
  line : Int
  tugs : Int
  slow : Bool
def Ship.at_ (p : Ship) : Nat → Value
  | 0 => .string p.name
  | 1 => .int .i64 p.len
  | 2 => .int .i64 p.draught
  | 3 => .int .i64 p.line
  | 4 => .int .i64 p.tugs
  | _ => .bool p.slow
def Ship.wf (p : Ship) : Prop := p.name.size ≤ maxLen ∧ I64 p.len ∧ I64 p.draught ∧ I64 p.line ∧ I64 p.tugs
def IsShip (_ : World) (v : Value) (p : Ship) : Prop := v = .agg #[.string p.name, .int .i64 p.len, .int .i64 p.draught, .int .i64 p.line, .int .i64 p.tugs, .bool p.slow] ∧ p.wf

def shipOk (p : Ship) : Bool := nameOk p.name.data.toList && (inB p.len 10 400 && (inB p.draught 100 2000 && (inB p.line 0 3 && inB p.tugs 0 4)))
theorem shipOk_true {p : Ship} (h : shipOk p = true) : (10 ≤ p.len ∧ p.len ≤ 400) ∧ (100 ≤ p.draught ∧ p.draught ≤ 2000) ∧ (0 ≤ p.line ∧ p.line ≤ 3) := by
  unfold shipOk at h
  simp only [Bool.and_eq_true] at h
  exact ⟨inB_true h.2.1, inB_true h.2.2.1, inB_true h.2.2.2.1⟩
def squatV (p : Ship) : Int := if p.slow = true then p.draught / 50 else p.draught / 20
def squatF (p : Ship) : Int := if shipOk p = true then squatV p else 0

/-- The first index at which a name stands, or -1. -/
def firstIdx (i : Nat) (n : ByteArray) : List ByteArray → Int
  | [] => -1
  | x :: xs => if x = n then (i : Int) else firstIdx (i + 1) n xs
theorem firstIdx_hit {l : List ByteArray} {n : ByteArray} {b : Int} {k : Nat} (h : b = firstIdx k n (l.drop k)) (hx : l[k]? = some n) : b = k := by
  have hl : k < l.length := (List.getElem?_eq_some_iff.1 hx).1
  have hv : l[k] = n := (List.getElem?_eq_some_iff.1 hx).2
  rw [h, List.drop_eq_getElem_cons hl, hv]
  simp [firstIdx]
theorem firstIdx_miss {l : List ByteArray} {n x : ByteArray} {b : Int} {k : Nat} (h : b = firstIdx k n (l.drop k)) (hx : l[k]? = some x) (hne : x ≠ n) : b = firstIdx (k + 1) n (l.drop (k + 1)) := by
  have hl : k < l.length := (List.getElem?_eq_some_iff.1 hx).1
  have hv : l[k] = x := (List.getElem?_eq_some_iff.1 hx).2
  rw [h, List.drop_eq_getElem_cons hl, hv]
  simp [firstIdx, hne]
theorem firstIdx_done {l : List ByteArray} {n : ByteArray} {b : Int} {k : Nat} (h : b = firstIdx k n (l.drop k)) (hk : l.length ≤ k) : b = -1 := by
  rw [h, List.drop_of_length_le hk]
  rfl
theorem firstIdx_le {n : ByteArray} : ∀ (l : List ByteArray) (i : Nat), -1 ≤ firstIdx i n l ∧ firstIdx i n l < i + l.length + 1
  | [], i => by simp [firstIdx]; omega
  | x :: xs, i => by
    have := firstIdx_le (n := n) xs (i + 1)
    unfold firstIdx
    simp only [List.length_cons]
    split <;> omega

/-- Each ship is valid and the first of its name. -/
def fleetL (names : List ByteArray) (i : Nat) : List Ship → Bool
  | [] => true
  | x :: xs => shipOk x && (decide (firstIdx 0 x.name names = (i : Int)) && fleetL names (i + 1) xs)
def fleetOk (ps : List Ship) : Bool := decide (ps.length ≤ 6) && fleetL (ps.map (·.name)) 0 ps
theorem fleetL_next {ns : List ByteArray} {ps : List Ship} {p : Ship} {k : Nat} {b : Bool} (h : b = fleetL ns k (ps.drop k)) (hp : ps[k]? = some p) (h1 : shipOk p = true) (h2 : firstIdx 0 p.name ns = (k : Int)) : b = fleetL ns (k + 1) (ps.drop (k + 1)) := by
  have hl : k < ps.length := (List.getElem?_eq_some_iff.1 hp).1
  have hv : ps[k] = p := (List.getElem?_eq_some_iff.1 hp).2
  rw [h, List.drop_eq_getElem_cons hl, hv]
  simp [fleetL, h1, h2]
theorem fleetL_bad {ns : List ByteArray} {ps : List Ship} {p : Ship} {k : Nat} {b : Bool} (h : b = fleetL ns k (ps.drop k)) (hp : ps[k]? = some p) (hn : shipOk p = false ∨ firstIdx 0 p.name ns ≠ (k : Int)) : b = false := by
  have hl : k < ps.length := (List.getElem?_eq_some_iff.1 hp).1
  have hv : ps[k] = p := (List.getElem?_eq_some_iff.1 hp).2
  rw [h, List.drop_eq_getElem_cons hl, hv]
  rcases hn with hn | hn
  · simp [fleetL, hn]
  · simp [fleetL, hn]
theorem fleetL_done {ns : List ByteArray} {ps : List Ship} {b : Bool} (h : b = fleetL ns ps.length (ps.drop ps.length)) : b = true := by
  rw [h, List.drop_length]
  rfl
theorem fleetL_mem {ns : List ByteArray} {p : Ship} : ∀ (ps : List Ship) (i : Nat), fleetL ns i ps = true → p ∈ ps → shipOk p = true
  | [], _, _, h => by cases h
  | q :: ps, i, h, hp => by
    simp only [fleetL, Bool.and_eq_true] at h
    rcases List.mem_cons.1 hp with rfl | hp
    · exact h.1
    · exact fleetL_mem ps (i + 1) h.2.2 hp
theorem fleetOk_mem {ps : List Ship} {p : Ship} (h : fleetOk ps = true) (hp : p ∈ ps) : shipOk p = true := by
  unfold fleetOk at h
  rw [Bool.and_eq_true] at h
  exact fleetL_mem ps 0 h.2 hp
theorem fleetOk_len {ps : List Ship} (h : fleetOk ps = true) : ps.length ≤ 6 := by
  unfold fleetOk at h
  rw [Bool.and_eq_true] at h
  exact of_decide_eq_true h.1

def lensV (ps : List Ship) : Int := ps.foldl (fun s p => s + p.len) 0
theorem lensV_next {ps : List Ship} {k : Nat} {p : Ship} (hp : ps[k]? = some p) : lensV (ps.take (k + 1)) = lensV (ps.take k) + p.len := by
  have hl : k < ps.length := (List.getElem?_eq_some_iff.1 hp).1
  have hv : ps[k] = p := (List.getElem?_eq_some_iff.1 hp).2
  unfold lensV
  rw [List.take_succ_eq_append_getElem hl, List.foldl_append, hv]
  rfl
theorem lensV_bd {ps : List Ship} (h : fleetOk ps = true) : ∀ k, k ≤ ps.length → 0 ≤ lensV (ps.take k) ∧ lensV (ps.take k) ≤ 400 * (k : Int)
  | 0, _ => by simp [lensV]
  | k + 1, hk => by
    have hp : ps[k]? = some ps[k] := List.getElem?_eq_getElem (by omega)
    have h1 := lensV_bd h k (by omega)
    have h2 := (shipOk_true (fleetOk_mem h (List.mem_of_getElem? hp))).1
    rw [lensV_next hp]
    omega
def lensF (ps : List Ship) : Int := if fleetOk ps = true then lensV ps else 0

/-- The indices, from i on, of the ships of a line. -/
def ofLineL (line : Int) (i : Nat) : List Ship → List Int
  | [] => []
  | x :: xs => if x.line = line then (i : Int) :: ofLineL line (i + 1) xs else ofLineL line (i + 1) xs
theorem ofLineL_le (line : Int) : ∀ (ps : List Ship) (i : Nat), (ofLineL line i ps).length ≤ ps.length
  | [], _ => by simp [ofLineL]
  | x :: xs, i => by
    have := ofLineL_le line xs (i + 1)
    unfold ofLineL
    split <;> simp <;> omega
theorem ofLineL_hit {line : Int} {ps : List Ship} {p : Ship} {k : Nat} {b acc : List Int} (h : b = acc ++ ofLineL line k (ps.drop k)) (hp : ps[k]? = some p) (hl : p.line = line) : b = (acc ++ [(k : Int)]) ++ ofLineL line (k + 1) (ps.drop (k + 1)) := by
  have hk : k < ps.length := (List.getElem?_eq_some_iff.1 hp).1
  have hv : ps[k] = p := (List.getElem?_eq_some_iff.1 hp).2
  rw [h, List.drop_eq_getElem_cons hk, hv]
  simp [ofLineL, hl]
theorem ofLineL_miss {line : Int} {ps : List Ship} {p : Ship} {k : Nat} {b acc : List Int} (h : b = acc ++ ofLineL line k (ps.drop k)) (hp : ps[k]? = some p) (hl : p.line ≠ line) : b = acc ++ ofLineL line (k + 1) (ps.drop (k + 1)) := by
  have hk : k < ps.length := (List.getElem?_eq_some_iff.1 hp).1
  have hv : ps[k] = p := (List.getElem?_eq_some_iff.1 hp).2
  rw [h, List.drop_eq_getElem_cons hk, hv]
  simp [ofLineL, hl]
theorem ofLineL_done {line : Int} {ps : List Ship} {b acc : List Int} (h : b = acc ++ ofLineL line ps.length (ps.drop ps.length)) : b = acc := by
  rw [h, List.drop_length]
  simp [ofLineL]
def ofLineF (ps : List Ship) (line : Int) : List Int := if fleetOk ps = true then ofLineL line 0 ps else []

end Go.Proofs.Ytjnoihilhmhihaa
