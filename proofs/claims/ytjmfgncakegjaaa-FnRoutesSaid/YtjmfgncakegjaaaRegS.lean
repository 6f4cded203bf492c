/-
  The drawn region of the reference's walk over routes: two copies, each with one number more, and the call; all its orders by one invariant.
-/
import Derived.Test.YtjmfgncakegjaaaOrd
namespace Go.Proofs.Ytjmfgncakegjaaa
open Go.RowKit

def maskS (c : Nat) (p q r : Bool) : Array Bool := #[true, decide (1 ≤ c), true, decide (2 ≤ c), true, p, decide (3 ≤ c), q, true, decide (4 ≤ c), true, r, decide (5 ≤ c), true, true, false, false]
def altS (c : Nat) (p q r : Bool) (i : Nat) : Bool :=
  (i == 1 && c == 0) || (i == 3 && c == 1) || (i == 5 && !p) || (i == 6 && c == 2 && p) || (i == 7 && !q) || (i == 9 && c == 3 && q) || (i == 11 && !r) || (i == 12 && c == 4 && r) || (i == 15 && c == 5)
def validS (c : Nat) (p q r : Bool) : Bool := (decide (c < 3) || p) && (decide (c < 4) || q) && (decide (c < 5) || r)
def readyS (ops : Array Oper) : Bool :=
  ((List.range 6).all fun c => [true, false].all fun p => [true, false].all fun q => [true, false].all fun r =>
    !validS c p q r || ((Region.ready .any ops (maskS c p q r)).all (altS c p q r) && !(Region.ready .any ops (maskS c p q r)).isEmpty))
theorem readyS_at {ops : Array Oper} (h : readyS ops = true) {c : Nat} (hc : c < 6) {p q r : Bool} (hv : validS c p q r = true) :
    (∀ i ∈ Region.ready .any ops (maskS c p q r), altS c p q r i = true) ∧ Region.ready .any ops (maskS c p q r) ≠ [] := by
  unfold readyS at h
  rw [List.all_eq_true] at h
  have h1 := h c (List.mem_range.2 hc)
  rw [List.all_eq_true] at h1
  have h2 := h1 p (by cases p <;> simp)
  rw [List.all_eq_true] at h2
  have h3 := h2 q (by cases q <;> simp)
  rw [List.all_eq_true] at h3
  have h4 := h3 r (by cases r <;> simp)
  rw [hv] at h4
  simp only [Bool.not_true, Bool.false_or, Bool.and_eq_true, List.all_eq_true, Bool.not_eq_true', List.isEmpty_eq_false_iff] at h4
  exact h4

def slotsS : List Nat := [4, 49, 50, 51, 52, 53, 54, 55, 56, 57, 58, 59, 60, 61, 62, 63, 64]

def takeS : List (Nat × Array Bool) := (([0, 2, 4, 8, 10, 13, 14] : List Nat).foldl (fun (p : Array Bool × List (Nat × Array Bool)) i => (p.1.setIfInBounds i true, p.2 ++ [(i, p.1)])) (Array.replicate 17 false, [])).2
structure OpsS (ops : Array Oper) : Prop where
  sz : ops.size = 17
  nosel : Region.noSelect ops = true
  tak : (takeS.all fun p => takeOk ops p.2 p.1) = true
  q0 : IsOp ops 0 49 (.load 31 (.tmp 5))
  q2 : IsOp ops 2 51 (.move (.tmp 1))
  q4 : IsOp ops 4 53 (.move (.tmp 14))
  q8 : IsOp ops 8 57 (.move (.tmp 2))
  q10 : IsOp ops 10 59 (.move (.tmp 12))
  q13 : IsOp ops 13 62 (.move (.tmp 3))
  q14 : IsOp ops 14 63 (.move (.tmp 4))
  rdy : readyS ops = true
  r15 : Region.ready .any ops ((maskS 5 true true true).setIfInBounds 15 true) = [16]
  r16 : Region.ready .any ops (((maskS 5 true true true).setIfInBounds 15 true).setIfInBounds 16 true) = []
  o1 : IsOp ops 1 50 (.buildSlice 39 0 #[])
  o3 : IsOp ops 3 52 (.call { callee := .builtin .append, args := #[.tmp 50, .tmp 51], argTypes := #[39, 39] })
  o5 : IsOp ops 5 54 (.buildSlice 39 1 #[(0, .tmp 53)])
  o6 : IsOp ops 6 55 (.call { callee := .builtin .append, args := #[.tmp 52, .tmp 54], argTypes := #[39, 39] })
  o7 : IsOp ops 7 56 (.buildSlice 39 0 #[])
  o9 : IsOp ops 9 58 (.call { callee := .builtin .append, args := #[.tmp 56, .tmp 57], argTypes := #[39, 39] })
  o11 : IsOp ops 11 60 (.buildSlice 39 1 #[(0, .tmp 59)])
  o12 : IsOp ops 12 61 (.call { callee := .builtin .append, args := #[.tmp 58, .tmp 60], argTypes := #[39, 39] })
  o15 : IsOp ops 15 64 (.call { callee := .value (.func 63), args := #[.tmp 49, .tmp 55, .tmp 61, .tmp 62, .tmp 63], argTypes := #[31, 39, 39, 3, 49] })
  o16 : IsOp ops 16 4 (.assign (.tmp 64))

def tabS (pts route : List Int) (nx ix : Int) (c : Nat) (p q r : Bool) (x : Nat → Value) : Nat → Option (Value × List Int)
  | 0 => match c with | 0 => none | 1 => some (x 50, []) | 2 => some (x 52, pts) | _ => some (x 55, pts ++ [nx])
  | 1 => if p then some (x 54, [nx]) else none
  | 2 => if q then (match c with | 4 => some (x 58, route) | 5 => some (x 61, route ++ [ix]) | _ => some (x 56, [])) else none
  | 3 => if r then some (x 60, [ix]) else none
  | _ => none

section
variable {ops : Array Oper} {Q : Exit → Act → World → Prop} {S : World → Prop} {a0 : Act} {w0 : World} {pts route : List Int} {nx ix : Int} {gp cp cr : Nat} {Ar : Option Addr} {cv tv ov : Value} {R : Value → World → Prop}

def StS (a0 : Act) (w0 : World) (pts route : List Int) (nx ix : Int) (gp cp cr : Nat) (Ar : Option Addr) (cv tv ov : Value) (c : Nat) (p q r : Bool) (a : Act) (w : World) : Prop :=
  ∃ x : Nat → Value, a = FrL slotsS a0 x ∧ (x 49 = cv ∧ x 51 = .slice (some ⟨gp, 0, none⟩) pts.length cp ∧ x 53 = .int .i64 nx ∧ x 57 = .slice Ar route.length cr ∧ x 59 = .int .i64 ix ∧ x 62 = tv ∧ x 63 = ov) ∧ Below w0.heap.size w0 w ∧ Objs w w0.heap.size (tabS pts route nx ix c p q r x)

theorem evS (hs : 67 ≤ a0.tmps.size) (x : Nat → Value) (j : Nat) (hj : j ∈ slotsS) : (FrL slotsS a0 x).eval (.tmp j) = x j :=
  FrL_eval (by decide) hj (by
    have : j ≤ 64 := by
      unfold slotsS at hj
      simp at hj
      omega
    omega)
theorem pvS (x : Nat → Value) (d : Nat) (v : Value) (hd : d ∈ slotsS) : (FrL slotsS a0 x).put (some d) v = FrL slotsS a0 (upd x d v) := FrL_put _ _ _ _ _ (by decide) hd

set_option maxHeartbeats 4000000 in
theorem regS_step (hops : OpsS ops) (hs : 67 ≤ a0.tmps.size) (hlp : pts.length ≤ 1000) (hlr : route.length ≤ 1000) (hpt : Has w0 gp 3 intAt 1 pts) (hrt : Sl w0 0 w0.heap.size Ar 3 intAt 1 route)
    {c : Nat} {p q r : Bool} {i : Nat} {a : Act} {w : World} (hst : StS a0 w0 pts route nx ix gp cp cr Ar cv tv ov c p q r a w) (hv : validS c p q r = true) (halt : altS c p q r i = true) (hi : i ≠ 15)
    {K : Act → World → Prop} (hK : ∀ c' p' q' r' a' w', (maskS c p q r).setIfInBounds i true = maskS c' p' q' r' → validS c' p' q' r' = true → c' < 6 → StS a0 w0 pts route nx ix gp cp cr Ar cv tv ov c' p' q' r' a' w' → K a' w') :
    wpOp Try.prog ops Q i K a w := by
  obtain ⟨x, rfl, hx, hb, ho⟩ := hst
  obtain ⟨i0, hinf, hz0, hz1, hz2⟩ := info_parts infoInt
  have hbs := hb.size
  have hb0 : ∀ cs, Below w0.heap.size w0 (w.alloc (.cells cs 3)) := fun cs => hb.alloc hbs _
  have happ : ∀ (s y d k : Nat) (l l2 : List Int) (A : Option Addr) (c2 : Nat), s ∈ slotsS → y ∈ slotsS → d ∈ slotsS → IsOp ops i d (.call { callee := .builtin .append, args := #[.tmp s, .tmp y], argTypes := #[39, 39] }) → tabS pts route nx ix c p q r x k = some (x s, l) → x y = .slice A l2.length c2 → Rd w w.heap.size intAt 1 A l2 → l.length ≤ 1000 → l2.length ≤ 1000 →
      (∀ v' w', Below w0.heap.size w0 w' → Objs w' w0.heap.size (setT (tabS pts route nx ix c p q r x) k (v', l ++ l2)) → K (FrL slotsS a0 (upd x d v')) w') → wpOp Try.prog ops Q i K (FrL slotsS a0 x) w := by
    intro s y d k l l2 A c2 hs1 hy1 hd1 hop htab hyv hrd hl1 hl2 hk
    have hown := ho.1 _ _ htab
    refine wpOp_of hop fun o hoo hdd => ?_
    refine wp_append_any_at w (.tmp s) (.tmp y) 39 hoo w0.heap.size 3 i0 (.int .i64 0) 1 8 Try.underlying39 hinf hz0 hz1 hz2 rfl (by decide) (x s) l.length (flat intAt 1 l) (evS hs x s hs1) hown.2 A l2.length c2 (flat intAt 1 l2) ((evS hs x y hy1).trans hyv) (flat_length intAt 1 l2) (rd_nil_len hrd) (rd_src hrd (by decide)) (ints_one l2) (by unfold maxLen; omega) (by omega) hbs ?_
    intro v' w' h1 h2 h3
    rw [hdd, pvS x d v' hd1]
    have hfl : flat intAt 1 l ++ flat intAt 1 l2 = flat intAt 1 (l ++ l2) := by simp [flat]
    rw [hfl, ← List.length_append] at h1
    obtain ⟨g, hg⟩ := hown.1
    have hlt := hown.lt hg
    refine hk v' w' (hb.trans ?_) (ho.app htab h2 h1 h3)
    exact (Below.refl _ _).grown h2 hbs (fun q hq => by
      rw [hg] at hq
      cases hq
      exact hlt.1)
  simp only [altS, Bool.or_eq_true, Bool.and_eq_true, beq_iff_eq, Bool.not_eq_true'] at halt
  rcases halt with (((((((⟨rfl, rfl⟩ | ⟨rfl, rfl⟩) | ⟨rfl, rfl⟩) | ⟨⟨rfl, rfl⟩, rfl⟩) | ⟨rfl, rfl⟩) | ⟨⟨rfl, rfl⟩, rfl⟩) | ⟨rfl, rfl⟩) | ⟨⟨rfl, rfl⟩, rfl⟩) | ⟨rfl, rfl⟩
  · refine wpOp_runs hops.o1 (.slice (some ⟨w.heap.size, 0, none⟩) 0 0) (w.alloc (.cells #[] 3)) (fun o hoo => ?_) ?_
    · unfold execOp
      simp only [hoo, Sem.run_bind, Array.map_empty, run_buildEmpty _ _ _ Try.underlying39 hinf, Result.andThen_ok]
      rfl
    · rw [pvS x 50 _ (by decide)]
      refine hK 1 p q r _ _ rfl hv (by omega) ⟨_, rfl, hx, hb0 _, (Objs.new (k := 0) ho (own_empty w hbs) rfl).congr ?_⟩
      intro k o e
      match k, e with
      | 0, e => exact e
      | 1, e => exact e
      | 2, e => cases q <;> exact e
      | 3, e => exact e
  · refine happ 50 51 52 0 [] pts (some ⟨gp, 0, none⟩) cp (by decide) (by decide) (by decide) hops.o3 rfl hx.2.1 ((hpt.next hb).rd) (by simp) hlp ?_
    intro v' w' h1 h2
    refine hK 2 p q r _ _ rfl hv (by omega) ⟨_, rfl, hx, h1, h2.congr ?_⟩
    intro k o e
    match k, e with
    | 0, e => exact e
    | 1, e => exact e
    | 2, e => cases q <;> exact e
    | 3, e => exact e
  · refine wpOp_runs hops.o5 (.slice (some ⟨w.heap.size, 0, none⟩) 1 1) (w.alloc (.cells #[.int .i64 nx] 3)) (fun o hoo => ?_) ?_
    · unfold execOp
      simp only [hoo, Sem.run_bind, List.map_toArray, List.map_cons, List.map_nil, evS hs x 53 (by decide), hx.2.2.1, run_buildInt _ _ _ Try.underlying39 hinf hz0 hz1, Result.andThen_ok]
      rfl
    · rw [pvS x 54 _ (by decide)]
      refine hK c true q r _ _ rfl (by simp only [validS, Bool.and_eq_true] at hv ⊢; simp [hv]) (by
        unfold validS at hv
        simp at hv
        omega) ⟨_, rfl, hx, hb0 _, (Objs.new (k := 1) ho (own_one w nx hbs) rfl).congr ?_⟩
      intro k o e
      match k, e with
      | 0, e => exact e
      | 1, e => exact e
      | 2, e => cases q <;> exact e
      | 3, e => exact e
  · obtain ⟨g, c2, h1, _, h2⟩ := (ho.1 1 _ rfl).head
    refine happ 52 54 55 0 pts [nx] (some ⟨g, 0, none⟩) c2 (by decide) (by decide) (by decide) hops.o6 rfl h1 h2.rd hlp (by simp) ?_
    intro v' w' h1 h2
    refine hK 3 true q r _ _ rfl hv (by omega) ⟨_, rfl, hx, h1, h2.congr ?_⟩
    intro k o e
    match k, e with
    | 0, e => exact e
    | 1, e => exact e
    | 2, e => cases q <;> exact e
    | 3, e => exact e
  · refine wpOp_runs hops.o7 (.slice (some ⟨w.heap.size, 0, none⟩) 0 0) (w.alloc (.cells #[] 3)) (fun o hoo => ?_) ?_
    · unfold execOp
      simp only [hoo, Sem.run_bind, Array.map_empty, run_buildEmpty _ _ _ Try.underlying39 hinf, Result.andThen_ok]
      rfl
    · have hc4 : c < 4 := by
        unfold validS at hv
        simp at hv
        omega
      rw [pvS x 56 _ (by decide)]
      refine hK c p true r _ _ rfl (by simp only [validS, Bool.and_eq_true] at hv ⊢; simp [hv]) (by omega) ⟨_, rfl, hx, hb0 _, (Objs.new (k := 2) ho (own_empty w hbs) rfl).congr ?_⟩
      intro k o e
      match k, e with
      | 0, e => exact e
      | 1, e => exact e
      | 2, e =>
        match c, hc4, e with
        | 0, _, e => exact e
        | 1, _, e => exact e
        | 2, _, e => exact e
        | 3, _, e => exact e
      | 3, e => exact e
  · refine happ 56 57 58 2 [] route Ar cr (by decide) (by decide) (by decide) hops.o9 rfl hx.2.2.2.1 (hrt.next hb).rd (by simp) hlr ?_
    intro v' w' h1 h2
    refine hK 4 p true r _ _ rfl hv (by omega) ⟨_, rfl, hx, h1, h2.congr ?_⟩
    intro k o e
    match k, e with
    | 0, e => exact e
    | 1, e => exact e
    | 2, e => exact e
    | 3, e => exact e
  · refine wpOp_runs hops.o11 (.slice (some ⟨w.heap.size, 0, none⟩) 1 1) (w.alloc (.cells #[.int .i64 ix] 3)) (fun o hoo => ?_) ?_
    · unfold execOp
      simp only [hoo, Sem.run_bind, List.map_toArray, List.map_cons, List.map_nil, evS hs x 59 (by decide), hx.2.2.2.2.1, run_buildInt _ _ _ Try.underlying39 hinf hz0 hz1, Result.andThen_ok]
      rfl
    · have hc5 : c < 5 := by
        unfold validS at hv
        simp at hv
        omega
      rw [pvS x 60 _ (by decide)]
      refine hK c p q true _ _ rfl (by simp only [validS, Bool.and_eq_true] at hv ⊢; simp [hv]) (by omega) ⟨_, rfl, hx, hb0 _, (Objs.new (k := 3) ho (own_one w ix hbs) rfl).congr ?_⟩
      intro k o e
      match k, e with
      | 0, e => exact e
      | 1, e => exact e
      | 2, e => cases q <;> exact e
      | 3, e => exact e
  · have hq : q = true := by
      unfold validS at hv
      simp at hv
      exact hv.2
    subst hq
    obtain ⟨g, c2, h1, _, h2⟩ := (ho.1 3 _ rfl).head
    refine happ 58 60 61 2 route [ix] (some ⟨g, 0, none⟩) c2 (by decide) (by decide) (by decide) hops.o12 rfl h1 h2.rd hlr (by simp) ?_
    intro v' w' h1 h2
    refine hK 5 p true true _ _ rfl hv (by omega) ⟨_, rfl, hx, h1, h2.congr ?_⟩
    intro k o e
    match k, e with
    | 0, e => exact e
    | 1, e => exact e
    | 2, e => exact e
    | 3, e => exact e
  · exact absurd rfl hi

def restS (c : Nat) (p q r : Bool) : Nat := 7 - c + (if p then 0 else 1) + (if q then 0 else 1) + (if r then 0 else 1)
theorem restS_step : ∀ (c : Nat) (p q r : Bool), c < 6 → ∀ i, altS c p q r i = true → i ≠ 15 → ∀ (c' : Nat) (p' q' r' : Bool), c' < 6 → (maskS c p q r).setIfInBounds i true = maskS c' p' q' r' → restS c p q r = restS c' p' q' r' + 1 := by
  intro c p q r hc i halt hi c' p' q' r' hc' he
  have h1 : p' = ((maskS c p q r).setIfInBounds i true).getD 5 false := by rw [he]; rfl
  have h2 : q' = ((maskS c p q r).setIfInBounds i true).getD 7 false := by rw [he]; rfl
  have h3 : r' = ((maskS c p q r).setIfInBounds i true).getD 11 false := by rw [he]; rfl
  have k1 : decide (1 ≤ c') = ((maskS c p q r).setIfInBounds i true).getD 1 false := by rw [he]; rfl
  have k2 : decide (2 ≤ c') = ((maskS c p q r).setIfInBounds i true).getD 3 false := by rw [he]; rfl
  have k3 : decide (3 ≤ c') = ((maskS c p q r).setIfInBounds i true).getD 6 false := by rw [he]; rfl
  have k4 : decide (4 ≤ c') = ((maskS c p q r).setIfInBounds i true).getD 9 false := by rw [he]; rfl
  have k5 : decide (5 ≤ c') = ((maskS c p q r).setIfInBounds i true).getD 12 false := by rw [he]; rfl
  simp only [altS, Bool.or_eq_true, Bool.and_eq_true, beq_iff_eq, Bool.not_eq_true'] at halt
  rcases halt with (((((((⟨rfl, rfl⟩ | ⟨rfl, rfl⟩) | ⟨rfl, rfl⟩) | ⟨⟨rfl, rfl⟩, rfl⟩) | ⟨rfl, rfl⟩) | ⟨⟨rfl, rfl⟩, rfl⟩) | ⟨rfl, rfl⟩) | ⟨⟨rfl, rfl⟩, rfl⟩) | ⟨rfl, rfl⟩
  all_goals (first | exact absurd rfl hi | skip)
  all_goals
    simp only [maskS, List.setIfInBounds_toArray, List.set_cons_zero, List.set_cons_succ] at h1 h2 h3 k1 k2 k3 k4 k5
    simp at h1 h2 h3 k1 k2 k3 k4 k5
    subst h1 h2 h3
    simp [restS]
    omega

theorem run_callTo {P : Program} {f : FuncId} {fn : Func} (hf : P.funcs[f]? = some fn) (hn : (fn.name == "runtime.NumGoroutine") = false) (hb : fn.body.isNone = false) (args : Array Value) (w : World) : (callFunc f args).run P w = .ok (.enter f args) w := by
  have h1 : ¬ fn.name = "runtime.NumGoroutine" := by simpa using hn
  have h2 : ¬ fn.body = none := by
    intro h
    rw [h] at hb
    cases hb
  simp [callFunc, go_sem, hf, h1, h2]
theorem nameS : (Try.f63.name == "runtime.NumGoroutine") = false := by kernel_rfl
theorem bodyS : Try.f63.body.isNone = false := by kernel_rfl

set_option maxHeartbeats 4000000 in
theorem regS_all (hops : OpsS ops) (hs : 67 ≤ a0.tmps.size) (hlp : pts.length ≤ 1000) (hlr : route.length ≤ 1000) (hpt : Has w0 gp 3 intAt 1 pts) (hrt : Sl w0 0 w0.heap.size Ar 3 intAt 1 route)
    (hS : ∀ w, Below w0.heap.size w0 w → S w)
    (hcall : ∀ g1 c1 g2 c2 w, Below w0.heap.size w0 w → Has w g1 3 intAt 1 (pts ++ [nx]) → Has w g2 3 intAt 1 (route ++ [ix]) → Calls Try.prog 63 #[cv, .slice (some ⟨g1, 0, none⟩) (pts ++ [nx]).length c1, .slice (some ⟨g2, 0, none⟩) (route ++ [ix]).length c2, tv, ov] w fun e w' => ∃ u, e = .returned u ∧ S w' ∧ R u w')
    (hfin : ∀ x w', R (x 4) w' → Q .normal (FrL slotsS a0 x) w') :
    ∀ (n c : Nat) (p q r : Bool) (a : Act) (w : World), n = restS c p q r → c < 6 → validS c p q r = true → StS a0 w0 pts route nx ix gp cp cr Ar cv tv ov c p q r a w → wpAnyH Try.prog .any ops Q S n (maskS c p q r) a w
  | 0, c, p, q, r, _, _, hn, hc, _, _ => by
    exfalso
    unfold restS at hn
    omega
  | n + 1, c, p, q, r, a, w, hn, hc, hv, hst => by
    obtain ⟨hrd, hne⟩ := readyS_at hops.rdy hc hv
    refine ⟨fun h => absurd h hne, fun i hi => ?_⟩
    have halt := hrd i hi
    by_cases h15 : i = 15
    · subst h15
      have hc5 : c = 5 := by
        simpa [altS] using halt
      subst hc5
      have hpqr : p = true ∧ q = true ∧ r = true := by
        unfold validS at hv
        revert hv
        cases p <;> cases q <;> cases r <;> simp
      obtain ⟨rfl, rfl, rfl⟩ := hpqr
      have hn1 : n = 1 := by
        unfold restS at hn
        simp at hn
        omega
      subst hn1
      obtain ⟨x, rfl, ⟨e49, _, _, _, _, e62, e63⟩, hb, ho⟩ := hst
      obtain ⟨g1, c1, k1, _, k2⟩ := (ho.1 0 _ rfl).head
      obtain ⟨g2, c2, k3, _, k4⟩ := (ho.1 2 _ rfl).head
      dsimp only at k1 k2 k3 k4
      refine wpOp_calls hops.o15 63 #[cv, .slice (some ⟨g1, 0, none⟩) (pts ++ [nx]).length c1, .slice (some ⟨g2, 0, none⟩) (route ++ [ix]).length c2, tv, ov] (fun o hoo => ?_) ?_
      · have hc := run_callTo Try.func63 nameS bodyS #[cv, .slice (some ⟨g1, 0, none⟩) (pts ++ [nx]).length c1, .slice (some ⟨g2, 0, none⟩) (route ++ [ix]).length c2, tv, ov] w
        unfold execOp
        simp only [hoo, resolve, Deferred.ofValue, Act.eval.eq_4, List.map_toArray, List.map_cons, List.map_nil, evS hs x 49 (by decide), evS hs x 55 (by decide), evS hs x 61 (by decide), evS hs x 62 (by decide), evS hs x 63 (by decide), e49, e62, e63, k1, k3, Sem.run_bind, Sem.run_pure, Result.andThen_ok, invoke, Array.append_empty, Array.empty_append, hc]
      · refine (hcall g1 c1 g2 c2 w hb k2 k4).mono ?_
        rintro e w' ⟨u, rfl, h1, h2⟩
        refine ⟨u, rfl, h1, ?_⟩
        rw [pvS x 64 _ (by decide)]
        refine wpAnyH_all hops.r15 (by simp) fun j hj => ?_
        simp only [List.mem_singleton] at hj
        subst hj
        refine wpOp_runs hops.o16 u w' (fun o hoo => ?_) ⟨h1, ?_⟩
        · unfold execOp
          simp only [hoo, evS hs (upd x 64 u) 64 (by decide), Sem.run_pure]
          rfl
        · rw [pvS _ 4 _ (by decide)]
          exact wpAnyH_done hops.r16 (hfin _ _ h2) 0
    · refine regS_step hops hs hlp hlr hpt hrt hst hv halt h15 ?_
      intro c' p' q' r' a' w' hm hv' hc' hst'
      have hr := restS_step c p q r hc i halt h15 c' p' q' r' hc' hm
      refine ⟨?_, ?_⟩
      · obtain ⟨_, _, _, hb, _⟩ := hst'
        exact hS _ hb
      · rw [hm]
        exact regS_all hops hs hlp hlr hpt hrt hS hcall hfin n c' p' q' r' a' w' (by omega) hc' hv' hst'

theorem tabS_none {B : Nat} {w : World} {x : Nat → Value} : Objs w B (tabS pts route nx ix 0 false false false x) := by
  have h : ∀ k o, tabS pts route nx ix 0 false false false x k ≠ some o := fun k o e => by
    match k, e with
    | 0, e => cases e
    | 1, e => cases e
    | 2, e => cases e
    | 3, e => cases e
    | _ + 4, e => cases e
  exact ⟨fun k o e => absurd e (h k o), fun j _ o _ _ e _ => absurd e (h j o)⟩
/-- The region, the quiet operations taken. -/
theorem regS (hops : OpsS ops) (hs : 67 ≤ a0.tmps.size) (hlp : pts.length ≤ 1000) (hlr : route.length ≤ 1000) (hpt : Has w0 gp 3 intAt 1 pts) (hrt : Sl w0 0 w0.heap.size Ar 3 intAt 1 route)
    (h49 : a0.tmps.getD 49 undef = cv) (h51 : a0.tmps.getD 51 undef = .slice (some ⟨gp, 0, none⟩) pts.length cp) (h53 : a0.tmps.getD 53 undef = .int .i64 nx) (h57 : a0.tmps.getD 57 undef = .slice Ar route.length cr) (h59 : a0.tmps.getD 59 undef = .int .i64 ix) (h62 : a0.tmps.getD 62 undef = tv) (h63 : a0.tmps.getD 63 undef = ov)
    (hS : ∀ w, Below w0.heap.size w0 w → S w)
    (hcall : ∀ g1 c1 g2 c2 w, Below w0.heap.size w0 w → Has w g1 3 intAt 1 (pts ++ [nx]) → Has w g2 3 intAt 1 (route ++ [ix]) → Calls Try.prog 63 #[cv, .slice (some ⟨g1, 0, none⟩) (pts ++ [nx]).length c1, .slice (some ⟨g2, 0, none⟩) (route ++ [ix]).length c2, tv, ov] w fun e w' => ∃ u, e = .returned u ∧ S w' ∧ R u w')
    (hfin : ∀ x w', R (x 4) w' → Q .normal (FrL slotsS a0 x) w') : wpAnyH Try.prog .any ops Q S 10 (maskS 0 false false false) a0 w0 :=
  regS_all hops hs hlp hlr hpt hrt hS hcall hfin 10 0 false false false a0 w0 rfl (by decide) rfl ⟨fun j => a0.tmps.getD j undef, (FrL_self _ _).symm, ⟨h49, h51, h53, h57, h59, h62, h63⟩, Below.refl _ _, tabS_none⟩

theorem wp_regS (hops : OpsS ops) {id : Nat} {w : World} (hw : w0 = w.drew) (hs : 67 ≤ a0.tmps.size) (hlp : pts.length ≤ 1000) (hlr : route.length ≤ 1000) (hpt : Has w0 gp 3 intAt 1 pts) (hrt : Sl w0 0 w0.heap.size Ar 3 intAt 1 route)
    (h1 : a0.tmps.getD 1 undef = .slice (some ⟨gp, 0, none⟩) pts.length cp) (h14 : a0.tmps.getD 14 undef = .int .i64 nx) (h2 : a0.tmps.getD 2 undef = .slice Ar route.length cr) (h12 : a0.tmps.getD 12 undef = .int .i64 ix) (h3 : a0.tmps.getD 3 undef = tv) (h4 : a0.tmps.getD 4 undef = ov)
    (hQ : ∀ c a (d : Nat) v w, Q (.panic c) (Act.put a (some d) v) w → Q (.panic c) a w)
    (hy : ∀ o : Oper, o.op = .load 31 (.tmp 5) → ∀ w, S w → (execOp a0.eval o).run Try.prog w = .ok (.value cv) w)
    (hS : ∀ w, Below w0.heap.size w0 w → S w)
    (hcall : ∀ g1 c1 g2 c2 w, Below w0.heap.size w0 w → Has w g1 3 intAt 1 (pts ++ [nx]) → Has w g2 3 intAt 1 (route ++ [ix]) → Calls Try.prog 63 #[cv, .slice (some ⟨g1, 0, none⟩) (pts ++ [nx]).length c1, .slice (some ⟨g2, 0, none⟩) (route ++ [ix]).length c2, tv, ov] w fun e w' => ∃ u, e = .returned u ∧ S w' ∧ R u w')
    (hfin : ∀ x w', R (x 4) w' → Q .normal (FrL slotsS a0 x) w') : (Code.region id ops true).wp Try.prog Q a0 w := by
  subst hw
  have hSw : S w.drew := hS _ (Below.refl _ _)
  have ht := hops.tak
  rw [List.all_eq_true] at ht
  refine wp_region_held (S := S) (by kernel_rfl) ?_
  rw [hops.sz]
  refine wpAnyH_takeD hops.q0 hops.nosel (ht (0, _) (.head _)) hQ hy hSw ?_
  refine wpAnyH_takeD hops.q2 hops.nosel (ht (2, _) (.tail _ (.head _))) hQ (run_moves (v := .slice (some ⟨gp, 0, none⟩) pts.length cp) ?_) hSw ?_
  · rw [eval_put_ne (by decide)]
    exact h1
  refine wpAnyH_takeD hops.q4 hops.nosel (ht (4, _) (.tail _ (.tail _ (.head _)))) hQ (run_moves (v := .int .i64 nx) ?_) hSw ?_
  · rw [eval_put_ne (by decide), eval_put_ne (by decide)]
    exact h14
  refine wpAnyH_takeD hops.q8 hops.nosel (ht (8, _) (.tail _ (.tail _ (.tail _ (.head _))))) hQ (run_moves (v := .slice Ar route.length cr) ?_) hSw ?_
  · rw [eval_put_ne (by decide), eval_put_ne (by decide), eval_put_ne (by decide)]
    exact h2
  refine wpAnyH_takeD hops.q10 hops.nosel (ht (10, _) (.tail _ (.tail _ (.tail _ (.tail _ (.head _)))))) hQ (run_moves (v := .int .i64 ix) ?_) hSw ?_
  · rw [eval_put_ne (by decide), eval_put_ne (by decide), eval_put_ne (by decide), eval_put_ne (by decide)]
    exact h12
  refine wpAnyH_takeD hops.q13 hops.nosel (ht (13, _) (.tail _ (.tail _ (.tail _ (.tail _ (.tail _ (.head _))))))) hQ (run_moves (v := tv) ?_) hSw ?_
  · rw [eval_put_ne (by decide), eval_put_ne (by decide), eval_put_ne (by decide), eval_put_ne (by decide), eval_put_ne (by decide)]
    exact h3
  refine wpAnyH_takeD hops.q14 hops.nosel (ht (14, _) (.tail _ (.tail _ (.tail _ (.tail _ (.tail _ (.tail _ (.head _)))))))) hQ (run_moves (v := ov) ?_) hSw ?_
  · rw [eval_put_ne (by decide), eval_put_ne (by decide), eval_put_ne (by decide), eval_put_ne (by decide), eval_put_ne (by decide), eval_put_ne (by decide)]
    exact h4
  refine regS (S := S) (R := R) (pts := pts) (route := route) (nx := nx) (ix := ix) (gp := gp) (cp := cp) (cr := cr) (Ar := Ar) (cv := cv) (tv := tv) (ov := ov) hops (by simp only [put_size]; exact hs) hlp hlr hpt hrt ?_ ?_ ?_ ?_ ?_ ?_ ?_ hS hcall ?_
  · rw [getD_put_ne (by decide), getD_put_ne (by decide), getD_put_ne (by decide), getD_put_ne (by decide), getD_put_ne (by decide), getD_put_ne (by decide), getD_put_same (by (try simp only [put_size]); omega)]
  · rw [getD_put_ne (by decide), getD_put_ne (by decide), getD_put_ne (by decide), getD_put_ne (by decide), getD_put_ne (by decide), getD_put_same (by (try simp only [put_size]); omega)]
  · rw [getD_put_ne (by decide), getD_put_ne (by decide), getD_put_ne (by decide), getD_put_ne (by decide), getD_put_same (by (try simp only [put_size]); omega)]
  · rw [getD_put_ne (by decide), getD_put_ne (by decide), getD_put_ne (by decide), getD_put_same (by (try simp only [put_size]); omega)]
  · rw [getD_put_ne (by decide), getD_put_ne (by decide), getD_put_same (by (try simp only [put_size]); omega)]
  · rw [getD_put_ne (by decide), getD_put_same (by (try simp only [put_size]); omega)]
  · rw [getD_put_same (by (try simp only [put_size]); omega)]
  · intro x w' hR
    have h := hfin x w' hR
    rw [FrL_over _ _ _ _ _ (by decide) (by decide), FrL_over _ _ _ _ _ (by decide) (by decide), FrL_over _ _ _ _ _ (by decide) (by decide), FrL_over _ _ _ _ _ (by decide) (by decide), FrL_over _ _ _ _ _ (by decide) (by decide), FrL_over _ _ _ _ _ (by decide) (by decide), FrL_over _ _ _ _ _ (by decide) (by decide)]
    exact h


end
end Go.Proofs.Ytjmfgncakegjaaa
