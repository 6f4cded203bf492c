/-
  A row of rows of ints that grows: what it holds, what an append leaves alone, frames that keep all blocks but those of rows of rows.
-/
import Derived.Test.YtjmfgncakegjaaaTInt
import Derived.Test.YtjmfgncakegjaaaAppAny
import Derived.Test.YtjmfgncakegjaaaModelRt
import Derived.Maps.AppendAt
namespace Go.Proofs.Ytjmfgncakegjaaa
open Go.RowKit

/-- A slice of ints: where it lies, its room, what it holds. -/
structure RowV where
  A : Option Addr
  c : Nat
  rs : List Int
def rowAt (r : RowV) (_ : Nat) : Value := .slice r.A r.rs.length r.c
/-- The rows lie at the heads of blocks of their own above B, no two in one. -/
def Inn (w : World) (B : Nat) (rvs : List RowV) : Prop :=
  (∀ r ∈ rvs, ∃ g, r.A = some ⟨g, 0, none⟩ ∧ B ≤ g ∧ Has w g 3 intAt 1 r.rs) ∧ rvs.Pairwise fun r s => r.A ≠ s.A
/-- v is an own slice of slices that reads as res. -/
def OutR (w : World) (B : Nat) (v : Value) (res : List (List Int)) : Prop :=
  ∃ rvs : List RowV, w.ownsRow B 39 1 v rvs.length (flat rowAt 1 rvs) ∧ Inn w B rvs ∧ rvs.map (·.rs) = res
/-- All below B as it was; all blocks as they were but those of rows of rows and of boxes of such. -/
structure Fr (B : Nat) (w w' : World) : Prop where
  below : Below B w w'
  keep : ∀ g t cs, t ≠ 39 → t ≠ 49 → Blk w g t cs → Blk w' g t cs

section
variable {B : Nat} {w w1 w2 w' : World} {g : Nat} {v v' : Value} {res : List (List Int)} {rvs : List RowV} {l : List Int}
theorem Fr.refl (w : World) (B : Nat) : Fr B w w := ⟨Below.refl _ _, fun _ _ _ _ _ h => h⟩
theorem Fr.trans (h : Fr B w w1) (k : Fr B w1 w2) : Fr B w w2 := ⟨h.below.trans k.below, fun g t cs h1 h2 hb => k.keep g t cs h1 h2 (h.keep g t cs h1 h2 hb)⟩
theorem Fr.of_below (h : Below w.heap.size w w') (hB : B ≤ w.heap.size) : Fr B w w' := ⟨h.mono hB, fun _ _ _ _ _ hb => hb.next h⟩
theorem Fr.drew (h : Fr B w w') : Fr B w w'.drew := ⟨h.below.drew, h.keep⟩
theorem Fr.alloc (h : Fr B w w') (hB : B ≤ w'.heap.size) (o : Obj) : Fr B w (w'.alloc o) := h.trans (Fr.of_below ((Below.refl _ _).alloc (Nat.le_refl _) _) hB)
theorem Fr.grown (hg : w.grownBy w' v.ownBlock) {n : Nat} {xs : List Value} (hown : w.ownsRow B 39 1 v n xs) (hB : B ≤ w.heap.size) : Fr B w w' := by
  refine ⟨(Below.refl _ _).grown hg hB (fun q hq => (hown.lt q hq).1), fun g t cs h1 h2 hb => hb.grown hg ?_⟩
  intro e
  rcases hown.2 with ⟨rfl, _⟩ | ⟨g', cap, cur, rfl, _, hh, _⟩
  · cases e
  · cases e
    unfold Blk at hb
    rw [hh] at hb
    cases hb
    exact h1 rfl
theorem Fr.set_ {cs : Array Value} (hb : Blk w g 49 cs) (hB : B ≤ g) (i : Nat) (u : Value) : Fr B w (w.setCell ⟨g, i, none⟩ u) := by
  refine ⟨(Below.refl _ _).setCell hB _, fun k t cs' h1 h2 hk => hk.far (fun e => ?_) _⟩
  have e' : k = g := e
  subst e'
  unfold Blk at hb hk
  rw [hk] at hb
  cases hb
  exact h2 rfl
theorem Fr.has (h : Fr B w w') {α : Type} {enc : α → Nat → Value} {size : Nat} {ps : List α} {t : TypeId} (hh : Has w g t enc size ps) (h1 : t ≠ 39) (h2 : t ≠ 49) : Has w' g t enc size ps := by
  obtain ⟨cs, hk, hf⟩ := hh
  exact ⟨cs, h.keep _ _ _ h1 h2 hk, hf⟩
theorem Fr.sl (h : Fr B w w') {lo hi : Nat} {A : Option Addr} {ps : List Int} (hh : Sl w lo hi A 3 intAt 1 ps) : Sl w' lo hi A 3 intAt 1 ps := by
  rcases hh with hh | ⟨g, rfl, h1, h2, h3⟩
  · exact .inl hh
  · exact .inr ⟨g, rfl, h1, h2, h.has h3 (by decide) (by decide)⟩

theorem Inn.nil_ : Inn w B [] := ⟨fun _ h => by simp at h, List.Pairwise.nil⟩
theorem Inn.next (h : Inn w B rvs) (hb : Below w.heap.size w w') : Inn w' B rvs := ⟨fun r hr => by
  obtain ⟨g, e, h1, h2⟩ := h.1 r hr
  exact ⟨g, e, h1, h2.next hb⟩, h.2⟩
theorem Inn.fr {B' : Nat} (h : Inn w B rvs) (hb : Fr B' w w') : Inn w' B rvs := ⟨fun r hr => by
  obtain ⟨g, e, h1, h2⟩ := h.1 r hr
  exact ⟨g, e, h1, hb.has h2 (by decide) (by decide)⟩, h.2⟩
theorem Inn.fresh (h : Inn w B rvs) (hg : w.heap.size ≤ g) : ∀ r ∈ rvs, r.A ≠ some ⟨g, 0, none⟩ := fun r hr e => by
  obtain ⟨g', e', _, h2⟩ := h.1 r hr
  rw [e'] at e
  cases e
  have := h2.lt
  omega
theorem own_next' {base size n : Nat} {e : TypeId} {xs : List Value} (h : w.ownsRow base e size v n xs) (hb : Below w.heap.size w w') : w'.ownsRow base e size v n xs :=
  ⟨h.1, h.2.imp id fun ⟨g, cap, cur, hv, hg, hh, rest⟩ => ⟨g, cap, cur, hv, hg, (hb.block g (Array.getElem?_eq_some_iff.1 hh).1).trans hh, rest⟩⟩
theorem OutR.next (h : OutR w B v res) (hb : Below w.heap.size w w') : OutR w' B v res := by
  obtain ⟨rvs, h1, h2, h3⟩ := h
  exact ⟨rvs, own_next' h1 hb, h2.next hb, h3⟩
theorem OutR.start {v : Value} (h : w.ownsRow B 39 1 v 0 []) : OutR w B v [] := ⟨[], h, Inn.nil_, rfl⟩

/-- The row with one row more. -/
theorem Inn.push {c : Nat} (hI : Inn w B rvs) (hown : w.ownsRow B 39 1 v rvs.length (flat rowAt 1 rvs)) (hB : B ≤ w.heap.size) (hh : Has w g 3 intAt 1 l) (hg : B ≤ g) (hf : ∀ r ∈ rvs, r.A ≠ some ⟨g, 0, none⟩)
    (hown' : w'.ownsRow B 39 1 v' (rvs.length + 1) (flat rowAt 1 rvs ++ [.slice (some ⟨g, 0, none⟩) l.length c])) (hgr : w.grownBy w' v.ownBlock) : OutR w' B v' (rvs.map (·.rs) ++ [l]) := by
  have hfr := Fr.grown hgr hown hB
  refine ⟨rvs ++ [⟨some ⟨g, 0, none⟩, c, l⟩], own_snoc hown' rfl rfl, ⟨fun r hr => ?_, ?_⟩, by simp⟩
  · rcases List.mem_append.1 hr with hr | hr
    · exact (hI.fr hfr).1 r hr
    · simp at hr
      subst hr
      exact ⟨g, rfl, hg, hfr.has hh (by decide) (by decide)⟩
  · rw [List.pairwise_append]
    refine ⟨hI.2, List.pairwise_singleton _ _, fun r hr s hs => ?_⟩
    simp at hs
    subst hs
    exact hf r hr
end

/-- An own row whose block is known. -/
theorem own_at {w : World} {base size n g : Nat} {e : TypeId} {α : Type} {enc : α → Nat → Value} {ps : List α} {v : Value} (h : w.ownsRow base e size v n (flat enc size ps)) (hn : n = ps.length) (hb : v.ownBlock = some g) : ∃ c, v = .slice (some ⟨g, 0, none⟩) ps.length c ∧ base ≤ g ∧ Has w g e enc size ps := by
  subst hn
  rcases h.2 with ⟨rfl, _⟩ | ⟨g', cap, cur, rfl, hg, hh, hnc, hm, hcs, htake⟩
  · cases hb
  · cases hb
    refine ⟨cap, rfl, hg, cur, hh, ?_, fun i x _ hx j hj => ?_⟩
    · rw [hcs]
      exact Nat.mul_le_mul_right _ hnc
    · have h1 := flat_at (enc := enc) (size := size) ps i x j hx hj
      rw [← htake, List.getElem?_take] at h1
      split at h1
      · simpa using h1
      · cases h1

section
variable {P : Program} (w : World)
theorem run_append_any_at (t ty : TypeId) (base : Nat) (e : TypeId) (i : TypeInfo) (z : Value) (size bytes : Nat) (ht : P.underlying t = some (.slice e)) (hi : P.info? e = some i) (hz : i.zero = some z)
    (hsize : i.size = size) (hby : i.bytes = bytes) (hzs : z.cells.size = size) (hsz : 0 < size)
    (v : Value) (n : Nat) (xs : List Value) (hown : w.ownsRow base e size v n xs)
    (A : Option Addr) (m c : Nat) (news : List Value) (hl : news.length = m * size) (hnil : A = none → m = 0) (hnews : ∀ ad, A = some ad → ∀ j u, news[j]? = some u → w.cell? (ad.add j) = some u) (h1 : ∀ u ∈ news, u.oneCell' = true)
    (h63 : n + m ≤ maxLen) (hbytes : (n + m) * bytes ≤ 140737488355328) (hbase : base ≤ w.heap.size) :
    ∃ v' w', (Builtin.append_ #[t, t] ty #[v, .slice A m c]).run P w = .ok v' w' ∧ w'.ownsRow base e size v' (n + m) (xs ++ news) ∧ w.grownBy w' v.ownBlock ∧ (v'.ownBlock = v.ownBlock ∨ v'.ownBlock = some w.heap.size) := by
  cases A with
  | none =>
    have hm := hnil rfl
    subst hm
    have hn : news = [] := List.eq_nil_of_length_eq_zero (by simpa using hl)
    subst hn
    exact ⟨v, w, run_append_none_c w base t ty e i size ht hi v n c xs hown, by simpa using hown, ⟨rfl, rfl, rfl, Nat.le_refl _, fun _ _ _ => rfl⟩, .inl rfl⟩
  | some ad =>
    obtain ⟨v', w', hr, h2, h3, _, h5⟩ := run_append_own_at (P := P) w base t ty e i z size bytes ht hi hz hsize hby hzs hsz v n xs hown ad m c news hl (hnews ad rfl) h1 h63 hbytes hbase
    exact ⟨v', w', hr, h2, h3, h5⟩

theorem wp_append_any_at {o : Oper} {a : Act} {K : Act → World → Prop} {Q : Exit → Act → World → Prop} (s x : Operand) (t : TypeId)
    (ho : o.op = .call { callee := .builtin .append, args := #[s, x], argTypes := #[t, t] })
    (base : Nat) (e : TypeId) (i : TypeInfo) (z : Value) (size bytes : Nat) (ht : P.underlying t = some (.slice e)) (hi : P.info? e = some i) (hz : i.zero = some z)
    (hsize : i.size = size) (hby : i.bytes = bytes) (hzs : z.cells.size = size) (hsz : 0 < size)
    (v : Value) (n : Nat) (xs : List Value) (hs : a.eval s = v) (hown : w.ownsRow base e size v n xs)
    (A : Option Addr) (m c : Nat) (news : List Value) (hx : a.eval x = .slice A m c) (hl : news.length = m * size) (hnil : A = none → m = 0) (hnews : ∀ ad, A = some ad → ∀ j u, news[j]? = some u → w.cell? (ad.add j) = some u) (h1 : ∀ u ∈ news, u.oneCell' = true)
    (h63 : n + m ≤ maxLen) (hbytes : (n + m) * bytes ≤ 140737488355328) (hbase : base ≤ w.heap.size)
    (h : ∀ v' w', w'.ownsRow base e size v' (n + m) (xs ++ news) → w.grownBy w' v.ownBlock → (v'.ownBlock = v.ownBlock ∨ v'.ownBlock = some w.heap.size) → K (a.put o.dst v') w') : o.wp P a w K Q := by
  obtain ⟨v', w', hr, h2, h3, h4⟩ := run_append_any_at (P := P) w t o.type base e i z size bytes ht hi hz hsize hby hzs hsz v n xs hown A m c news hl hnil hnews h1 h63 hbytes hbase
  unfold Oper.wp execOp
  simp only [ho, resolve, invoke, builtin, Sem.run_bind, Sem.run_pure, Result.andThen_ok, List.map_toArray, List.map_cons, List.map_nil, hs, hx, hr]
  exact h v' w' h2 h3 h4

theorem wpList_append_any_at {ops : Array Oper} {rest : List Oper} {o : Oper} {a : Act} {Q : Exit → Act → World → Prop} (hgd : o.guard = none) (s x : Operand) (t : TypeId)
    (ho : o.op = .call { callee := .builtin .append, args := #[s, x], argTypes := #[t, t] })
    (base : Nat) (e : TypeId) (i : TypeInfo) (z : Value) (size bytes : Nat) (ht : P.underlying t = some (.slice e)) (hi : P.info? e = some i) (hz : i.zero = some z)
    (hsize : i.size = size) (hby : i.bytes = bytes) (hzs : z.cells.size = size) (hsz : 0 < size)
    (v : Value) (n : Nat) (xs : List Value) (hs : a.eval s = v) (hown : w.ownsRow base e size v n xs)
    (A : Option Addr) (m c : Nat) (news : List Value) (hx : a.eval x = .slice A m c) (hl : news.length = m * size) (hnil : A = none → m = 0) (hnews : ∀ ad, A = some ad → ∀ j u, news[j]? = some u → w.cell? (ad.add j) = some u) (h1 : ∀ u ∈ news, u.oneCell' = true)
    (h63 : n + m ≤ maxLen) (hbytes : (n + m) * bytes ≤ 140737488355328) (hbase : base ≤ w.heap.size)
    (h : ∀ v' w', w'.ownsRow base e size v' (n + m) (xs ++ news) → w.grownBy w' v.ownBlock → (v'.ownBlock = v.ownBlock ∨ v'.ownBlock = some w.heap.size) → wpList P ops Q rest (a.put o.dst v') w') : wpList P ops Q (o :: rest) a w :=
  wpList_plain hgd fun _ hK => wp_append_any_at (P := P) w s x t ho base e i z size bytes ht hi hz hsize hby hzs hsz v n xs hs hown A m c news hx hl hnil hnews h1 h63 hbytes hbase fun v' w' h2 h3 h4 => hK _ _ (h v' w' h2 h3 h4)
end

theorem infoInts : (Try.prog.info? 39).map (fun i => (i.zero, i.size, i.bytes)) = some (some (.slice none 0 0), 1, 24) := by kernel_rfl

theorem ints_one (l : List Int) : ∀ u ∈ flat intAt 1 l, u.oneCell' = true := fun u hu => by
  obtain ⟨p, _, hu⟩ := List.mem_flatMap.1 hu
  simp only [List.mem_map, List.mem_range] at hu
  obtain ⟨j, _, rfl⟩ := hu
  rfl

end Go.Proofs.Ytjmfgncakegjaaa
