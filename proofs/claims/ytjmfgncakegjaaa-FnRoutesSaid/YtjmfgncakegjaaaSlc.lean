/-
  Slices of the call's own: a slice (nil or at the head of a block) that reads as records, kept over calls, allocations and marks; what a mark leaves alone.
-/
import Derived.Test.YtjmfgncakegjaaaBase
namespace Go.Proofs.Ytjmfgncakegjaaa
open Go.RowKit

/-- What szXS hands back: below 0, or what is left. -/
def SzPost (l : Int) (n : Nat) (w : World) (e : Ending) (w' : World) : Prop := ∃ r : Int, e = .returned (.int .i64 r) ∧ r ≤ l ∧ (0 ≤ r → (n : Int) ≤ l) ∧ Below w.heap.size w w'

/-- Blocks outside lo .. hi are as they were; the streams too; no block has gone. -/
structure Out (lo hi : Nat) (w w' : World) : Prop where
  os : w'.os = w.os
  tape : w'.tape = w.tape
  output : w'.output = w.output
  size : w.heap.size ≤ w'.heap.size
  block : ∀ k, k < w.heap.size → (k < lo ∨ hi ≤ k) → w'.heap[k]? = w.heap[k]?
theorem Out.of_below {w w' : World} (lo hi : Nat) (h : Below w.heap.size w w') : Out lo hi w w' := ⟨h.os, h.tape, h.output, h.size, fun k hk _ => h.block k hk⟩
theorem Out.below {lo hi B : Nat} {w w' : World} (h : Out lo hi w w') (h1 : B ≤ lo) (h2 : B ≤ w.heap.size) : Below B w w' := ⟨h.os, h.tape, h.output, h.size, fun k hk => h.block k (by omega) (.inl (by omega))⟩
theorem Out.trans {lo hi : Nat} {a b c : World} (h : Out lo hi a b) (k : Out lo hi b c) : Out lo hi a c :=
  ⟨k.os.trans h.os, k.tape.trans h.tape, k.output.trans h.output, Nat.le_trans h.size k.size, fun i hi ho => (k.block i (Nat.lt_of_lt_of_le hi h.size) ho).trans (h.block i hi ho)⟩
theorem Out.mono {lo hi lo' hi' : Nat} {w w' : World} (h : Out lo hi w w') (h1 : lo' ≤ lo) (h2 : hi ≤ hi') : Out lo' hi' w w' := ⟨h.os, h.tape, h.output, h.size, fun k hk ho => h.block k hk (by omega)⟩

/-- The slice (A, length of ps) is nil and ps empty, or lies at the head of a block between lo and hi and reads as ps. -/
def Sl {α : Type} (w : World) (lo hi : Nat) (A : Option Addr) (t : TypeId) (enc : α → Nat → Value) (size : Nat) (ps : List α) : Prop :=
  (A = none ∧ ps = []) ∨ ∃ g, A = some ⟨g, 0, none⟩ ∧ lo ≤ g ∧ g < hi ∧ Has w g t enc size ps

section
variable {α : Type} {w w' : World} {lo hi lo' hi' g size : Nat} {A : Option Addr} {t : TypeId} {enc : α → Nat → Value} {ps ms : List α} {j : Nat}
theorem Has.sl (h : Has w g t enc size ps) (h1 : lo ≤ g) (h2 : g < hi) : Sl w lo hi (some ⟨g, 0, none⟩) t enc size ps := .inr ⟨g, rfl, h1, h2, h⟩
theorem Sl.nil_ : Sl w lo hi none t enc size ([] : List α) := .inl ⟨rfl, rfl⟩
theorem Sl.rd (h : Sl w lo hi A t enc size ps) : Rd w w.heap.size enc size A ps := by
  rcases h with ⟨_, rfl⟩ | ⟨g, rfl, _, _, h⟩
  · exact Rd.nil_
  · exact h.rd
theorem Sl.next (h : Sl w lo hi A t enc size ps) (hb : Below w.heap.size w w') : Sl w' lo hi A t enc size ps := by
  rcases h with h | ⟨g, rfl, h1, h2, h⟩
  · exact .inl h
  · exact .inr ⟨g, rfl, h1, h2, h.next hb⟩
theorem Sl.mono (h : Sl w lo hi A t enc size ps) (h1 : lo' ≤ lo) (h2 : hi ≤ hi') : Sl w lo' hi' A t enc size ps := by
  rcases h with h | ⟨g, rfl, h3, h4, h⟩
  · exact .inl h
  · exact .inr ⟨g, rfl, by omega, by omega, h⟩
theorem Sl.out (h : Sl w lo hi A t enc size ps) (ho : Out lo' hi' w w') (hd : hi ≤ lo' ∨ hi' ≤ lo) : Sl w' lo hi A t enc size ps := by
  rcases h with h | ⟨g, rfl, h3, h4, cs, hk, hf⟩
  · exact .inl h
  · exact .inr ⟨g, rfl, h3, h4, cs, (ho.block g hk.lt (by omega)).trans hk, hf⟩

theorem Sl.setCell (h : Sl w lo hi A t enc size ps) {p : Addr} (hp : p.block < lo ∨ hi ≤ p.block) (u : Value) : Sl (w.setCell p u) lo hi A t enc size ps := by
  rcases h with h | ⟨g, rfl, h3, h4, cs, hk, hf⟩
  · exact .inl h
  · exact .inr ⟨g, rfl, h3, h4, cs, hk.far (by omega) u, hf⟩

theorem grown_set {w wr : World} {g : Nat} (h : w.grownBy wr (some g)) (i : Nat) (u : Value) : w.grownBy (wr.setCell ⟨g, i, none⟩ u) (some g) :=
  ⟨h.os, h.tape, h.output, by simpa [World.setCell] using h.size, fun k hk hne => (Below.heap_setCell wr ⟨g, i, none⟩ u k (fun e => hne (by rw [e]))).trans (h.block k hk hne)⟩

/-- While a slice is marked: j of the marks ms lie in it. -/
def MarkInv (w wr : World) (A : Option Addr) (t : TypeId) (enc : α → Nat → Value) (size : Nat) (ms : List α) (j : Nat) : Prop :=
  (A = none ∧ ms = [] ∧ w = wr) ∨ ∃ g cs, A = some ⟨g, 0, none⟩ ∧ Blk wr g t cs ∧ Fill enc size ms j cs ∧ w.grownBy wr (some g)
theorem MarkInv.start (h : Sl w lo hi A t enc size ps) (hl : ms.length = ps.length) : MarkInv w w A t enc size ms 0 := by
  rcases h with ⟨h1, h2⟩ | ⟨g, rfl, h1, h2, cs, hk, hf⟩
  · subst h2
    exact .inl ⟨h1, List.eq_nil_of_length_eq_zero hl, rfl⟩
  · exact .inr ⟨g, cs, rfl, hk, Fill.zero (by rw [hl]; exact hf.1), World.grownBy.refl w _⟩
theorem MarkInv.some_ {wr : World} (h : MarkInv w wr A t enc size ms j) (hp : 0 < ms.length) : ∃ g cs, A = some ⟨g, 0, none⟩ ∧ Blk wr g t cs ∧ Fill enc size ms j cs ∧ w.grownBy wr (some g) := by
  rcases h with ⟨_, rfl, _⟩ | h
  · simp at hp
  · exact h
theorem MarkInv.done {wr : World} (h : MarkInv w wr A t enc size ms ps.length) (hs : Sl w lo hi A t enc size ps) (hl : ms.length = ps.length) : Sl wr lo hi A t enc size ms := by
  rcases h with ⟨rfl, rfl, _⟩ | ⟨g, cs, rfl, hk, hf, _⟩
  · exact .inl ⟨rfl, rfl⟩
  · rcases hs with ⟨h, _⟩ | ⟨g', e, h1, h2, _⟩
    · cases h
    · cases e
      exact .inr ⟨g, rfl, h1, h2, cs, hk, by rw [hl]; exact hf⟩
theorem MarkInv.out {wr : World} (h : MarkInv w wr A t enc size ms j) (hs : Sl w lo hi A t enc size ps) : Out lo hi w wr := by
  rcases h with ⟨_, _, rfl⟩ | ⟨g, cs, rfl, _, _, hg⟩
  · exact ⟨rfl, rfl, rfl, Nat.le_refl _, fun _ _ _ => rfl⟩
  · rcases hs with ⟨h, _⟩ | ⟨g', e, h1, h2, _⟩
    · cases h
    · cases e
      exact ⟨hg.os, hg.tape, hg.output, hg.size, fun k hk ho => hg.block k hk (fun e => by cases e; omega)⟩
end

/-- The cells of records, one behind the other. -/
def flat {α : Type} (enc : α → Nat → Value) (size : Nat) (ps : List α) : List Value := ps.flatMap fun x => (List.range size).map (enc x)
section
variable {α : Type} {w w' : World} {base size : Nat} {e : TypeId} {enc : α → Nat → Value} {ps : List α} {v : Value} {x : α}
theorem flat_nil : flat enc size ([] : List α) = [] := rfl
theorem flat_cons : flat enc size (x :: ps) = (List.range size).map (enc x) ++ flat enc size ps := rfl
theorem flat_snoc : flat enc size (ps ++ [x]) = flat enc size ps ++ (List.range size).map (enc x) := by
  simp [flat]
theorem flat_length (enc : α → Nat → Value) (size : Nat) : ∀ ps : List α, (flat enc size ps).length = ps.length * size
  | [] => by simp [flat_nil]
  | x :: ps => by
    rw [flat_cons, List.length_append, flat_length enc size ps]
    simp only [List.length_map, List.length_range, List.length_cons, Nat.add_mul]
    omega
theorem flat_at {size : Nat} {enc : α → Nat → Value} : ∀ (ps : List α) (k : Nat) (x : α) (j : Nat), ps[k]? = some x → j < size → (flat enc size ps)[k * size + j]? = some (enc x j)
  | [], k, x, j, h, _ => by simp at h
  | y :: ps, 0, x, j, h, hj => by
    simp at h
    subst h
    rw [flat_cons, List.getElem?_append_left (by simp; omega)]
    simp [hj]
  | y :: ps, k + 1, x, j, h, hj => by
    have h' : ps[k]? = some x := by simpa using h
    have := flat_at (enc := enc) ps k x j h' hj
    rw [flat_cons, List.getElem?_append_right (by simp [Nat.add_mul]; omega)]
    rw [← this]
    congr 1
    simp [Nat.add_mul]
    omega
theorem Sl.of_own (h : w.ownsRow base e size v ps.length (flat enc size ps)) : ∃ A c, v = .slice A ps.length c ∧ Sl w base w.heap.size A e enc size ps := by
  rcases h.2 with ⟨hv, hn⟩ | ⟨g, cap, cur, hv, hb, hg, hnc, hm, hcs, htake⟩
  · have : ps = [] := List.eq_nil_of_length_eq_zero hn
    subst this
    exact ⟨none, 0, hv, .inl ⟨rfl, rfl⟩⟩
  · refine ⟨_, cap, hv, .inr ⟨g, rfl, hb, (Array.getElem?_eq_some_iff.1 hg).1, cur, hg, ?_, fun i x _ hx j hj => ?_⟩⟩
    · rw [hcs]
      exact Nat.mul_le_mul_right _ hnc
    · have hi : i < ps.length := (List.getElem?_eq_some_iff.1 hx).1
      have h1 := flat_at (enc := enc) (size := size) ps i x j hx hj
      rw [← htake, List.getElem?_take] at h1
      split at h1
      · simpa using h1
      · cases h1
theorem own_snoc {n : Nat} {news : List Value} (h : w.ownsRow base e size v (n + 1) (flat enc size ps ++ news)) (hn : n = ps.length) (hx : (List.range size).map (enc x) = news) : w.ownsRow base e size v (ps ++ [x]).length (flat enc size (ps ++ [x])) := by
  subst hn hx
  rw [flat_snoc, List.length_append]
  exact h
/-- A call that hands back a slice of its own which reads as `res`, all old memory as it was. -/
def ResSl {α : Type} (t : TypeId) (enc : α → Nat → Value) (size : Nat) (res : List α) (w : World) (e : Ending) (w' : World) : Prop :=
  ∃ A c, e = .returned (.slice A res.length c) ∧ Sl w' w.heap.size w'.heap.size A t enc size res ∧ Below w.heap.size w w'
theorem ResSl.nil_ {res : List α} (h : res = []) (hb : Below w.heap.size w w') : ResSl e enc size res w (.returned (.slice none 0 0)) w' := by
  subst h
  exact ⟨none, 0, rfl, .inl ⟨rfl, rfl⟩, hb⟩
theorem ResSl.mk_ {res : List α} {A : Option Addr} {c : Nat} {en : Ending} (h : res = ps) (he : en = .returned (.slice A ps.length c)) (hs : Sl w' w.heap.size w'.heap.size A e enc size ps) (hb : Below w.heap.size w w') : ResSl e enc size res w en w' := by
  subst h
  exact ⟨A, c, he, hs, hb⟩
end

end Go.Proofs.Ytjmfgncakegjaaa
