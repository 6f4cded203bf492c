/-
  Slices of slices of ints: compared, marked, looked at again (the laws' eqIntSS, markIntSS, heldIntSS).
-/
import Derived.Test.YtjmfgncakegjaaaRtB
namespace Go.Proofs.Ytjmfgncakegjaaa
open Go.RowKit

/-- The slice (A, length of res) lies at the head of a block between lo and hi or is nil; its rows lie so too, no two in one block; it reads as res. -/
def RowsL (w : World) (lo hi : Nat) (A : Option Addr) (res : List (List Int)) : Prop :=
  ∃ rvs : List RowV, rvs.length = res.length ∧ Sl w lo hi A 39 rowAt 1 rvs ∧
    (∀ (i : Nat) (r : RowV) (l : List Int), rvs[i]? = some r → res[i]? = some l → r.rs.length = l.length ∧ ∃ g, r.A = some ⟨g, 0, none⟩ ∧ lo ≤ g ∧ g < hi ∧ Has w g 3 intAt 1 l) ∧
    (∀ (i j : Nat) (r s : RowV), i ≠ j → rvs[i]? = some r → rvs[j]? = some s → r.A ≠ s.A)
/-- A call that hands back a slice of slices of its own. -/
def ResRows (res : List (List Int)) (w : World) (e : Ending) (w' : World) : Prop :=
  ∃ A c, e = .returned (.slice A res.length c) ∧ RowsL w' w.heap.size w'.heap.size A res ∧ Below w.heap.size w w'

section
variable {w w' : World} {lo hi lo' hi' g : Nat} {A : Option Addr} {res : List (List Int)}
theorem Has.out {α : Type} {enc : α → Nat → Value} {size : Nat} {ps : List α} {t : TypeId} (h : Has w g t enc size ps) (ho : Out lo' hi' w w') (hd : g < lo' ∨ hi' ≤ g) : Has w' g t enc size ps := by
  obtain ⟨cs, hk, hf⟩ := h
  exact ⟨cs, (ho.block g hk.lt hd).trans hk, hf⟩
theorem Has.type {α β : Type} {enc : α → Nat → Value} {enc' : β → Nat → Value} {size size' : Nat} {ps : List α} {qs : List β} {t t' : TypeId} (h : Has w g t enc size ps) (h' : Has w g t' enc' size' qs) : t = t' := by
  obtain ⟨cs, hk, _⟩ := h
  obtain ⟨cs', hk', _⟩ := h'
  unfold Blk at hk hk'
  rw [hk] at hk'
  cases hk'
  rfl
theorem RowsL.nil_ : RowsL w lo hi none [] := ⟨[], rfl, .inl ⟨rfl, rfl⟩, fun i r l h => by simp at h, fun i j r s _ h => by simp at h⟩
theorem RowsL.next (h : RowsL w lo hi A res) (hb : Below w.heap.size w w') : RowsL w' lo hi A res := by
  obtain ⟨rvs, h1, h2, h3, h4⟩ := h
  refine ⟨rvs, h1, h2.next hb, fun i r l hr hl => ?_, h4⟩
  obtain ⟨k1, g, k2, k3, k4, k5⟩ := h3 i r l hr hl
  exact ⟨k1, g, k2, k3, k4, k5.next hb⟩
theorem RowsL.mono (h : RowsL w lo hi A res) (h1 : lo' ≤ lo) (h2 : hi ≤ hi') : RowsL w lo' hi' A res := by
  obtain ⟨rvs, k1, k2, k3, k4⟩ := h
  refine ⟨rvs, k1, k2.mono h1 h2, fun i r l hr hl => ?_, k4⟩
  obtain ⟨m1, g, m2, m3, m4, m5⟩ := k3 i r l hr hl
  exact ⟨m1, g, m2, by omega, by omega, m5⟩
theorem RowsL.out (h : RowsL w lo hi A res) (ho : Out lo' hi' w w') (hd : hi ≤ lo' ∨ hi' ≤ lo) : RowsL w' lo hi A res := by
  obtain ⟨rvs, h1, h2, h3, h4⟩ := h
  refine ⟨rvs, h1, h2.out ho hd, fun i r l hr hl => ?_, h4⟩
  obtain ⟨k1, g, k2, k3, k4, k5⟩ := h3 i r l hr hl
  exact ⟨k1, g, k2, k3, k4, k5.out ho (by omega)⟩
/-- Row k. -/
theorem RowsL.at_ (h : RowsL w lo hi A res) {k : Nat} {l : List Int} (hl : res[k]? = some l) : ∃ go g c, A = some ⟨go, 0, none⟩ ∧ lo ≤ go ∧ go < hi ∧ go < w.heap.size ∧ w.cell? ⟨go, k, none⟩ = some (.slice (some ⟨g, 0, none⟩) l.length c) ∧ lo ≤ g ∧ g < hi ∧ Has w g 3 intAt 1 l := by
  obtain ⟨rvs, h1, h2, h3, _⟩ := h
  have hk : k < rvs.length := by rw [h1]; exact (List.getElem?_eq_some_iff.1 hl).1
  obtain ⟨r, hr⟩ : ∃ r, rvs[k]? = some r := ⟨_, List.getElem?_eq_getElem hk⟩
  obtain ⟨k1, g, k2, k3, k4, k5⟩ := h3 k r l hr hl
  rcases h2 with ⟨_, h⟩ | ⟨go, rfl, m1, m2, m3⟩
  · rw [h] at hk
    simp at hk
  · refine ⟨go, g, r.c, rfl, m1, m2, m3.lt, ?_, k3, k4, k5⟩
    obtain ⟨g', off, e, _, hc⟩ := m3.rd (by omega)
    cases e
    have := hc k r hr 0 (by omega)
    rw [Nat.zero_add, Nat.mul_one, Nat.add_zero] at this
    rw [this, rowAt, k1, k2]
/-- One row written anew. -/
theorem RowsL.set_ (h : RowsL w lo hi A res) {k : Nat} {l new : List Int} (hl : res[k]? = some l) (hn : new.length = l.length) {go c : Nat} (hgo : A = some ⟨go, 0, none⟩) (hc : w.cell? ⟨go, k, none⟩ = some (.slice (some ⟨g, 0, none⟩) l.length c)) (ho : Out g (g + 1) w w') (hh : Has w' g 3 intAt 1 new) (hw : Has w g 3 intAt 1 l) : RowsL w' lo hi A (res.set k new) := by
  obtain ⟨rvs, h1, h2, h3, h4⟩ := h
  have hk : k < rvs.length := by rw [h1]; exact (List.getElem?_eq_some_iff.1 hl).1
  obtain ⟨r, hr⟩ : ∃ r, rvs[k]? = some r := ⟨_, List.getElem?_eq_getElem hk⟩
  obtain ⟨k1, g0, k2, k3, k4, k5⟩ := h3 k r l hr hl
  have hg0 : g0 = g := by
    rcases h2 with ⟨_, h⟩ | ⟨go', e', m1, m2, m3⟩
    · rw [h] at hk
      simp at hk
    · rw [hgo] at e'
      cases e'
      obtain ⟨g', off, e, _, hcc⟩ := m3.rd (by omega)
      cases e
      have := hcc k r hr 0 (by omega)
      rw [Nat.zero_add, Nat.mul_one, Nat.add_zero, hc, rowAt, k2] at this
      simp at this
      exact this.1.symm
  subst hg0
  refine ⟨rvs, by rw [h1, List.length_set], ?_, fun i r' l' hr' hl' => ?_, h4⟩
  · rcases h2 with h | ⟨go', e', m1, m2, m3⟩
    · exact .inl h
    · refine .inr ⟨go', e', m1, m2, m3.out ho ?_⟩
      by_cases e : go' = g0
      · subst e
        have := m3.type hw
        exact absurd this (by decide)
      · omega
  · by_cases hik : i = k
    · subst hik
      rw [hr] at hr'
      cases hr'
      rw [List.getElem?_set_self (by rw [← h1]; exact hk)] at hl'
      cases hl'
      exact ⟨k1.trans hn.symm, g0, k2, k3, k4, hh⟩
    · rw [List.getElem?_set_ne (fun e => hik e.symm)] at hl'
      obtain ⟨n1, g', n2, n3, n4, n5⟩ := h3 i r' l' hr' hl'
      refine ⟨n1, g', n2, n3, n4, n5.out ho ?_⟩
      have hne := h4 i k r' r hik hr' hr
      rw [n2, k2] at hne
      have : g' ≠ g0 := fun e => hne (by rw [e])
      omega
theorem RowsL.of_out {v : Value} {B : Nat} (h : OutR w B v res) : ∃ A c, v = .slice A res.length c ∧ RowsL w B w.heap.size A res := by
  obtain ⟨rvs, h1, h2, h3⟩ := h
  obtain ⟨A, c, rfl, hs⟩ := Sl.of_own h1
  have hl : rvs.length = res.length := by rw [← h3, List.length_map]
  refine ⟨A, c, by rw [hl], rvs, hl, hs, fun i r l hr hl => ?_, fun i j r s hij hr hs' => ?_⟩
  · subst h3
    rw [List.getElem?_map, hr] at hl
    cases hl
    obtain ⟨g, k1, k2, k3⟩ := h2.1 r (List.mem_of_getElem? hr)
    exact ⟨rfl, g, k1, k2, k3.lt, k3⟩
  · have hp := List.pairwise_iff_getElem.1 h2.2
    have hi := (List.getElem?_eq_some_iff.1 hr)
    have hj := (List.getElem?_eq_some_iff.1 hs')
    rcases Nat.lt_or_gt_of_ne hij with h | h
    · have := hp i j hi.1 hj.1 h
      rw [hi.2, hj.2] at this
      exact this
    · have := hp j i hj.1 hi.1 h
      rw [hi.2, hj.2] at this
      exact this.symm
end

/-- How many numbers there are. -/
def totL (res : List (List Int)) : Nat := (res.map List.length).sum
/-- Each number its number. -/
def markL (k : Int) : List (List Int) → List (List Int)
  | [] => []
  | l :: ls => markIntL k l.length :: markL (k + (l.length : Int)) ls
theorem markL_length : ∀ (k : Int) (res : List (List Int)), (markL k res).length = res.length
  | _, [] => rfl
  | k, l :: ls => by rw [markL, List.length_cons, markL_length, List.length_cons]
theorem totL_snoc (xs : List (List Int)) (l : List Int) : totL (xs ++ [l]) = totL xs + l.length := by simp [totL]
theorem totL_cons (xs : List (List Int)) (l : List Int) : totL (l :: xs) = l.length + totL xs := by simp [totL]
theorem markL_snoc : ∀ (k : Int) (xs : List (List Int)) (l : List Int), markL k (xs ++ [l]) = markL k xs ++ [markIntL (k + (totL xs : Int)) l.length]
  | k, [], l => by simp [markL, totL]
  | k, x :: xs, l => by
    rw [List.cons_append, markL, markL_snoc, markL, List.cons_append, totL_cons]
    congr 4
    rw [Int.natCast_add]
    omega
theorem markL_at : ∀ (k : Int) (res : List (List Int)) (j : Nat) (l : List Int), res[j]? = some l → (markL k res)[j]? = some (markIntL (k + (totL (res.take j) : Int)) l.length)
  | _, [], _, _, h => by simp at h
  | k, x :: xs, 0, l, h => by
    simp at h
    subst h
    simp [markL, totL]
  | k, x :: xs, j + 1, l, h => by
    rw [markL, List.getElem?_cons_succ, markL_at _ xs j l (by simpa using h), List.take_succ_cons, totL_cons]
    congr 2
    rw [Int.natCast_add]
    omega
theorem totL_le {m : Nat} : ∀ (res : List (List Int)), (∀ l ∈ res, l.length ≤ m) → totL res ≤ res.length * m
  | [], _ => by simp [totL]
  | l :: ls, h => by
    have h1 := h l (by simp)
    have h2 := totL_le ls (fun y hy => h y (by simp [hy]))
    rw [totL_cons, List.length_cons, Nat.add_mul]
    omega
theorem totL_take {res : List (List Int)} {j : Nat} {l : List Int} (h : res[j]? = some l) : totL (res.take (j + 1)) = totL (res.take j) + l.length := by
  have hl := (List.getElem?_eq_some_iff.1 h)
  rw [List.take_succ_eq_append_getElem hl.1, hl.2, totL_snoc]
theorem totL_part (res : List (List Int)) (j : Nat) : totL (res.take j) ≤ totL res := by
  have : totL res = totL (res.take j) + totL (res.drop j) := by
    unfold totL
    rw [← List.sum_append, ← List.map_append, List.take_append_drop]
  omega
/-- The first j rows marked. -/
def markAt (k : Int) (res : List (List Int)) (j : Nat) : List (List Int) := markL k (res.take j) ++ res.drop j
theorem markAt_get {k : Int} {res : List (List Int)} {j : Nat} {l : List Int} (h : res[j]? = some l) : (markAt k res j)[j]? = some l := by
  have hl := (List.getElem?_eq_some_iff.1 h).1
  have h1 : (markL k (res.take j)).length = j := by rw [markL_length, List.length_take]; omega
  unfold markAt
  rw [List.getElem?_append_right (by omega), h1, Nat.sub_self, List.getElem?_drop, Nat.add_zero, h]
theorem markAt_next {k : Int} {res : List (List Int)} {j : Nat} {l : List Int} (h : res[j]? = some l) : (markAt k res j).set j (markIntL (k + (totL (res.take j) : Int)) l.length) = markAt k res (j + 1) := by
  have hl := (List.getElem?_eq_some_iff.1 h)
  have hlt := hl.1
  have h1 : (markL k (res.take j)).length = j := by rw [markL_length, List.length_take]; omega
  unfold markAt
  rw [List.take_succ_eq_append_getElem hl.1, hl.2, markL_snoc, List.append_assoc, List.set_append_right _ _ (by omega), h1, Nat.sub_self, List.drop_eq_getElem_cons hl.1, List.set_cons_zero]
  rfl
theorem markAt_all {k : Int} {res : List (List Int)} : markAt k res res.length = markL k res := by
  unfold markAt
  rw [List.take_length, List.drop_length, List.append_nil]
theorem markAt_zero {k : Int} {res : List (List Int)} : markAt k res 0 = res := rfl

set_option maxHeartbeats 2000000 in
theorem markIntB_any (A : Option Addr) (c lo hi : Nat) (ps : List Int) (k : Int) (w : World) (hsl : Sl w lo hi A 3 intAt 1 ps) (hlen : ps.length ≤ 1048576) (hk0 : 0 ≤ k) (hk1 : k ≤ 1099511627776) :
    Calls Try.prog 33 #[.slice A ps.length c, .int .i64 k] w fun e w' => e = .returned (.int .i64 (k + (ps.length : Int))) ∧ Sl w' lo hi A 3 intAt 1 (markIntL k ps.length) ∧ Out lo hi w w' := by
  obtain ⟨ms, hms⟩ : ∃ ms, ms = markIntL k ps.length := ⟨_, rfl⟩
  have hml : ms.length = ps.length := by rw [hms, markIntL_length]
  have HMS := Lib.hid hms
  have hst := MarkInv.start (ms := ms) hsl hml
  rw [← hms]
  clear hms
  go_enter Try.func33, Try.ntmps33
  go_wp2_with fail
  go_loopw [1, 5] (fun q i wr => ∃ j : Nat, j ≤ ps.length ∧ i = .int .i64 j ∧ q = .int .i64 (k + (j : Int)) ∧ MarkInv w wr A 3 intAt 1 ms j) (fun _ i _ => ps.length - (intOf i).toNat)
  case atStart => exact ⟨0, Nat.zero_le _, rfl, by simp, hst⟩
  case round =>
    obtain ⟨j, hj, rfl, rfl, hinv⟩ := hrel
    by_cases hlt : j < ps.length
    · obtain ⟨g, cs, rfl, hblk, hfill, hgr⟩ := hinv.some_ (by rw [hml]; omega)
      have HP := Lib.hid ((show ms[j]? = some (k + (j : Int)) by rw [HMS.out]; exact markIntL_at hlt))
      obtain ⟨z0, e0⟩ := hfill.room (by rw [hml]; exact hlt) 0 (by omega)
      have d0 := (hblk.cell (j * 1 + 0)).trans e0
      have f0 := hblk.frozen (j * 1 + 0)
      simp only [Nat.add_zero, Nat.mul_one] at d0 f0
      have HML := Lib.hid hml
      have HS := Lib.hid hsl
      have HT := Lib.hid hst
      have HI := Lib.hid hinv
      clear e0 hml hsl hst hinv
      go_wp2_with fail
      go_roundw
      case rel =>
        have hb1 := hblk.set_ (j * 1) (.int .i64 (k + (j : Int)))
        rw [Nat.mul_one] at hb1
        have h1 := hfill.set_ HP.out [.int .i64 (k + (j : Int))] rfl (fun q hq => by
          match q, hq with
          | 0, _ => rfl)
        rw [Nat.mul_one] at h1
        exact ⟨j + 1, by omega, by go_num, by go_num, .inr ⟨g, _, rfl, hb1, h1, grown_set hgr _ _⟩⟩
      case measure => simp [intOf]; omega
    · have hk' : j = ps.length := by omega
      subst hk'
      go_wp2_with fail
      go_ret
      exact ⟨rfl, hinv.done hsl hml, hinv.out hsl⟩

set_option maxHeartbeats 2000000 in
theorem heldIntB_any (A : Option Addr) (c n : Nat) (k : Int) (w : World) (hr : Rd w w.heap.size intAt 1 A (markIntL k n)) (hlen : n ≤ 1048576) (hk0 : 0 ≤ k) (hk1 : k ≤ 1099511627776) :
    Calls Try.prog 34 #[.slice A n c, .int .i64 k] w fun e w' => e = .returned (.int .i64 (k + (n : Int))) ∧ w = w' := by
  go_enter Try.func34, Try.ntmps34
  go_wp2_with fail
  go_loop [1, 5] (fun q i => ∃ j : Nat, j ≤ n ∧ i = .int .i64 j ∧ q = .int .i64 (k + (j : Int))) (fun _ i => n - (intOf i).toNat)
  case atStart => exact ⟨0, Nat.zero_le _, rfl, by simp⟩
  case round =>
    obtain ⟨j, hj, rfl, rfl⟩ := hrel
    by_cases hlt : j < n
    · obtain ⟨g, off, rfl, hg, hc⟩ := hr (by rw [markIntL_length]; omega)
      have c0 := hc j _ (markIntL_at hlt) 0 (by omega)
      simp only [intAt, Nat.add_zero, Nat.mul_one] at c0
      have HC := Lib.hid hc
      have HR := Lib.hid hr
      clear hc hr
      go_wp2_with fail
      go_round
      case rel => exact ⟨j + 1, by omega, by go_num, by go_num⟩
      case measure => simp [intOf]; omega
    · have hk' : j = n := by omega
      subst hk'
      go_wp2_with fail
      go_ret
      exact ⟨rfl, rfl⟩

end Go.Proofs.Ytjmfgncakegjaaa
