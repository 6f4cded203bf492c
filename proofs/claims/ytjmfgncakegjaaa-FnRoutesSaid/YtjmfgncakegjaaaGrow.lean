/-
  A row that grows: still the empty literal at block g0, or a row above a block; what a slice reads, cell by cell; rows made with room.
-/
import Derived.Test.YtjmfgncakegjaaaSlc
import Derived.ArgAppend
namespace Go.Proofs.Ytjmfgncakegjaaa
open Go.RowKit

def Out0 (w : World) (g0 base : Nat) (e : TypeId) (size : Nat) (v : Value) (n : Nat) (xs : List Value) : Prop :=
  (v = .slice (some ⟨g0, 0, none⟩) 0 0 ∧ n = 0 ∧ xs = []) ∨ w.ownsRow base e size v n xs

section
variable {P : Program} {w : World} {base g0 size : Nat} {e : TypeId} {v : Value} {n : Nat} {xs : List Value}
theorem ownsRow_more {b' : Nat} (h : w.ownsRow base e size v n xs) (hb : b' ≤ base) : w.ownsRow b' e size v n xs :=
  ⟨h.1, h.2.imp id fun ⟨g, cap, cur, hv, hg, rest⟩ => ⟨g, cap, cur, hv, by omega, rest⟩⟩
theorem Out0.next {w' : World} (h : Out0 w g0 base e size v n xs) (hb : Below w.heap.size w w') : Out0 w' g0 base e size v n xs := by
  rcases h with h | h
  · exact .inl h
  · refine .inr ⟨h.1, h.2.imp id fun ⟨g, cap, cur, hv, hg, hh, rest⟩ => ⟨g, cap, cur, hv, hg, ?_, rest⟩⟩
    exact (hb.block g (Array.getElem?_eq_some_iff.1 hh).1).trans hh
theorem Out0.alloc (h : Out0 w g0 base e size v n xs) (o : Obj) : Out0 (w.alloc o) g0 base e size v n xs := h.next ((Below.refl _ _).alloc (Nat.le_refl _) _)

theorem wpList_append_new {ops : Array Oper} {rest : List Oper} {o : Oper} {a : Act} {Q : Exit → Act → World → Prop} (hgd : o.guard = none) (s x : Operand) (t : TypeId)
    (ho : o.op = .call { callee := .builtin .append, args := #[s, x], argTypes := #[t, t] })
    (base : Nat) (e : TypeId) (i : TypeInfo) (z : Value) (size bytes : Nat) (ht : P.underlying t = some (.slice e)) (hi : P.info? e = some i) (hz : i.zero = some z)
    (hsize : i.size = size) (hby : i.bytes = bytes) (hzs : z.cells.size = size) (hsz : 0 < size)
    (g0 : Nat) (v : Value) (n : Nat) (xs : List Value) (hs : a.eval s = v) (hown : Out0 w g0 base e size v n xs)
    (ad : Addr) (m c : Nat) (news : List Value) (hx : a.eval x = .slice (some ad) m c) (hl : news.length = m * size) (hnews : ∀ j u, news[j]? = some u → w.cell? (ad.add j) = some u) (h1 : ∀ u ∈ news, u.oneCell' = true)
    (hm : 0 < m) (h63 : n + m ≤ maxLen) (hbytes : (n + m) * bytes ≤ 140737488355328) (hbase : base ≤ w.heap.size)
    (h : ∀ v' w', w'.ownsRow base e size v' (n + m) (xs ++ news) → Below base w w' → w.grownBy w' v.ownBlock → wpList P ops Q rest (a.put o.dst v') w') : wpList P ops Q (o :: rest) a w := by
  rcases hown with ⟨rfl, rfl, rfl⟩ | hown
  · refine wpList_append_grows w hgd s x t ho e i z size bytes ht hi hz hsize hby hzs hsz (some ⟨g0, 0, none⟩) 0 0 [] hs (by simp) (by simp) (by simp) ad m c news hx (by simpa using hl) hnews h1 (by omega) (by simpa using h63) (by simpa using hbytes) fun v' w' hr hg => h v' w' (ownsRow_more hr hbase) ?_ ⟨hg.os, hg.tape, hg.output, hg.size, fun k hk _ => hg.block k hk (by simp)⟩
    exact (Below.refl _ _).grown hg hbase (fun q hq => by cases hq)
  · refine wpList_append_own w hgd s x t ho base e i z size bytes ht hi hz hsize hby hzs hsz v n xs hs hown ad m c news hx hl hnews h1 h63 hbytes hbase fun v' w' hr hg _ => h v' w' hr ?_ hg
    exact (Below.refl _ _).grown hg hbase (fun q hq => (hown.lt q hq).1)

/-- The cells of a slice that reads as records. -/
theorem Rd.flat {α : Type} {enc : α → Nat → Value} {B : Nat} {ad : Addr} {ps : List α} (h : Rd w B enc size (some ad) ps) (hs : 0 < size) : ∀ j u, (flat enc size ps)[j]? = some u → w.cell? (ad.add j) = some u := by
  intro j u hu
  have hj : j < ps.length * size := by
    rw [← flat_length enc size ps]
    exact (List.getElem?_eq_some_iff.1 hu).1
  have hk : j / size < ps.length := Nat.div_lt_of_lt_mul (by rw [Nat.mul_comm]; exact hj)
  have hr : j % size < size := Nat.mod_lt _ hs
  obtain ⟨g, off, e, _, hc⟩ := h (Nat.lt_of_le_of_lt (Nat.zero_le _) hk)
  cases e
  have hx : ps[j / size]? = some (ps[j / size]'hk) := List.getElem?_eq_getElem hk
  have h1 := flat_at (enc := enc) (size := size) ps (j / size) _ (j % size) hx hr
  have hd : j / size * size + j % size = j := by
    have := Nat.div_add_mod j size
    rw [Nat.mul_comm] at this
    exact this
  rw [hd, hu] at h1
  have h2 := hc (j / size) _ hx (j % size) hr
  rw [Nat.add_assoc, hd] at h2
  rw [h1, ← h2, ← Addr.add_lit]
/-- A row made with room and no length. -/
theorem ownsRow_room {z : Value} {k : Nat} (hk : k ≤ maxLen) : (w.alloc (.cells (madeCells z.cells (k * size)) e)).ownsRow w.heap.size e size (.slice (some ⟨w.heap.size, 0, none⟩) 0 k) 0 [] :=
  ⟨by simp, .inr ⟨w.heap.size, k, _, rfl, Nat.le_refl _, heap_alloc_new w _, Nat.zero_le _, hk, by rw [size_madeCells], by simp⟩⟩
end

/-- `make([]T, 0, n)` at an int n: one equation for every world. -/
theorem run_make_room {P : Program} (t e : TypeId) (i : TypeInfo) (z : Value) (size bytes : Nat) (ht : P.underlying t = some (.slice e)) (hi : P.info? e = some i) (hz : i.zero = some z) (hsize : i.size = size) (hby : i.bytes = bytes)
    (n : Nat) (hbytes : bytes * n ≤ 281474976710656) (h63 : n ≤ 9223372036854775807) (w : World) :
    (Instr.makeSlice t (.int .i64 0) (.int .i64 (n : Int))).run P w = .ok (.slice (some ⟨w.heap.size, 0, none⟩) 0 n) (w.alloc (.cells (madeCells z.cells (n * size)) e)) := by
  subst hsize hby
  have hb : (i.bytes : Int) * (n : Int) ≤ 281474976710656 := by
    have h : ((i.bytes * n : Nat) : Int) ≤ 281474976710656 := by omega
    rwa [Int.natCast_mul] at h
  have hr := run_make (P := P) w t e i z ht hi hz .i64 .i64 0 n (by omega) (by omega) hb (by omega)
  simp only [Int.toNat_natCast] at hr
  exact hr

end Go.Proofs.Ytjmfgncakegjaaa
