/-
  The drawn region of the program's walk over routes: a copy with one number more, and the call; both its orders by one invariant.
-/
import Derived.Test.YtjmfgncakegjaaaRegS
import Derived.Test.YtjmfgncakegjaaaClnI
namespace Go.Proofs.Ytjmfgncakegjaaa
open Go.RowKit

section
variable {w w' : World} {B : Nat} {T : Nat → Option (Value × List Int)} {k g : Nat} {v : Value} {l : List Int}
theorem Objs.newC (h : Objs w B T) (hb : Below w.heap.size w w') (ho : Own w' B (v, l)) (hv : v.ownBlock = some g) (hg : w.heap.size ≤ g) : Objs w' B (setT T k (v, l)) := by
  refine ⟨fun j o e => ?_, fun i j o o' hij e e' => ?_⟩
  · unfold setT at e
    split at e
    · cases e
      exact ho
    · exact (h.1 j o e).below hb
  · unfold setT at e e'
    split at e
    · cases e
      split at e'
      · omega
      · intro hh
        have hw := h.1 j o' e'
        rw [hv] at hh
        have := hw.lt hh.symm
        omega
    · split at e'
      · cases e'
        intro hh
        have hw := h.1 i o e
        rw [hv] at hh
        have := hw.lt hh
        omega
      · exact h.2 i j o o' hij e e'
end

def maskI (c : Nat) (p : Bool) : Array Bool := #[true, true, true, true, decide (1 ≤ c), true, p, decide (2 ≤ c), true, true, false]
def altI (c : Nat) (p : Bool) (i : Nat) : Bool := (i == 4 && c == 0) || (i == 6 && !p) || (i == 7 && c == 1 && p) || (i == 10 && c == 2)
def validI (c : Nat) (p : Bool) : Bool := decide (c < 2) || p
def readyI (ops : Array Oper) : Bool :=
  ((List.range 3).all fun c => [true, false].all fun p => !validI c p || ((Region.ready .any ops (maskI c p)).all (altI c p) && !(Region.ready .any ops (maskI c p)).isEmpty))
theorem readyI_at {ops : Array Oper} (h : readyI ops = true) {c : Nat} (hc : c < 3) {p : Bool} (hv : validI c p = true) :
    (∀ i ∈ Region.ready .any ops (maskI c p), altI c p i = true) ∧ Region.ready .any ops (maskI c p) ≠ [] := by
  unfold readyI at h
  rw [List.all_eq_true] at h
  have h1 := h c (List.mem_range.2 hc)
  rw [List.all_eq_true] at h1
  have h4 := h1 p (by cases p <;> simp)
  rw [hv] at h4
  simp only [Bool.not_true, Bool.false_or, Bool.and_eq_true, List.all_eq_true, Bool.not_eq_true', List.isEmpty_eq_false_iff] at h4
  exact h4

def slotsI : List Nat := [48, 49, 50, 51, 52, 53, 54, 55, 56, 57, 58]
def takeI : List (Nat × Array Bool) := (([0, 1, 2, 3, 5, 8, 9] : List Nat).foldl (fun (p : Array Bool × List (Nat × Array Bool)) i => (p.1.setIfInBounds i true, p.2 ++ [(i, p.1)])) (Array.replicate 11 false, [])).2

structure OpsI (ops : Array Oper) : Prop where
  sz : ops.size = 11
  nosel : Region.noSelect ops = true
  tak : (takeI.all fun p => takeOk ops p.2 p.1) = true
  q0 : IsOp ops 0 48 (.load 31 (.tmp 6))
  q1 : IsOp ops 1 49 (.move (.tmp 14))
  q2 : IsOp ops 2 50 (.move (.tmp 2))
  q3 : IsOp ops 3 51 (.move (.tmp 3))
  q5 : IsOp ops 5 53 (.move (.tmp 12))
  q8 : IsOp ops 8 56 (.load 81 (.tmp 10))
  q9 : IsOp ops 9 57 (.move (.tmp 5))
  rdy : readyI ops = true
  r10 : Region.ready .any ops ((maskI 2 true).setIfInBounds 10 true) = []
  o4 : IsOp ops 4 52 (.call { callee := .value (.func 75), args := #[.tmp 51], argTypes := #[39] })
  o6 : IsOp ops 6 54 (.buildSlice 39 1 #[(0, .tmp 53)])
  o7 : IsOp ops 7 55 (.call { callee := .builtin .append, args := #[.tmp 52, .tmp 54], argTypes := #[39, 39] })
  o10 : IsOp ops 10 58 (.call { callee := .value (.func 64), args := #[.tmp 48, .tmp 49, .tmp 50, .tmp 55, .tmp 56, .tmp 57], argTypes := #[31, 3, 3, 39, 81, 82] })

def tabI (route : List Int) (ix : Int) (c : Nat) (p : Bool) (x : Nat → Value) : Nat → Option (Value × List Int)
  | 0 => match c with | 0 => none | 1 => some (x 52, route) | _ => some (x 55, route ++ [ix])
  | 1 => if p then some (x 54, [ix]) else none
  | _ => none

theorem nameI : (Try.f64.name == "runtime.NumGoroutine") = false := by kernel_rfl
theorem bodyI : Try.f64.body.isNone = false := by kernel_rfl
theorem nameC : (Try.f75.name == "runtime.NumGoroutine") = false := by kernel_rfl
theorem bodyC : Try.f75.body.isNone = false := by kernel_rfl

section
variable {ops : Array Oper} {Q : Exit → Act → World → Prop} {S : World → Prop} {a0 : Act} {w0 : World} {route : List Int} {ix : Int} {cr : Nat} {Ar : Option Addr} {cv nv tv mv pv : Value} {R : World → Prop}

def StI (a0 : Act) (w0 : World) (route : List Int) (ix : Int) (cr : Nat) (Ar : Option Addr) (cv nv tv mv pv : Value) (c : Nat) (p : Bool) (a : Act) (w : World) : Prop :=
  ∃ x : Nat → Value, a = FrL slotsI a0 x ∧ (x 48 = cv ∧ x 49 = nv ∧ x 50 = tv ∧ x 51 = .slice Ar route.length cr ∧ x 53 = .int .i64 ix ∧ x 56 = mv ∧ x 57 = pv) ∧ Below w0.heap.size w0 w ∧ Objs w w0.heap.size (tabI route ix c p x)

theorem evI (hs : 60 ≤ a0.tmps.size) (x : Nat → Value) (j : Nat) (hj : j ∈ slotsI) : (FrL slotsI a0 x).eval (.tmp j) = x j :=
  FrL_eval (by decide) hj (by
    have : j ≤ 58 := by
      unfold slotsI at hj
      simp at hj
      omega
    omega)
theorem pvI (x : Nat → Value) (d : Nat) (v : Value) (hd : d ∈ slotsI) : (FrL slotsI a0 x).put (some d) v = FrL slotsI a0 (upd x d v) := FrL_put _ _ _ _ _ (by decide) hd

set_option maxHeartbeats 4000000 in
theorem regI_all (hops : OpsI ops) (hs : 60 ≤ a0.tmps.size) (hlr : route.length ≤ 1000) (hrt : Sl w0 0 w0.heap.size Ar 3 intAt 1 route)
    (hS : ∀ w, Below w0.heap.size w0 w → S w)
    (hcall : ∀ g c w, Below w0.heap.size w0 w → Has w g 3 intAt 1 (route ++ [ix]) → Calls Try.prog 64 #[cv, nv, tv, .slice (some ⟨g, 0, none⟩) (route ++ [ix]).length c, mv, pv] w fun e w' => ∃ u, e = .returned u ∧ S w' ∧ R w')
    (hfin : ∀ x w', R w' → Q .normal (FrL slotsI a0 x) w') :
    ∀ (n c : Nat) (p : Bool) (a : Act) (w : World), n = 3 - c + (if p then 0 else 1) → c < 3 → validI c p = true → StI a0 w0 route ix cr Ar cv nv tv mv pv c p a w → wpAnyH Try.prog .any ops Q S n (maskI c p) a w
  | 0, c, p, _, _, hn, hc, _, _ => by
    exfalso
    omega
  | n + 1, c, p, a, w, hn, hc, hv, hst => by
    obtain ⟨i0, hinf, hz0, hz1, hz2⟩ := info_parts infoInt
    obtain ⟨hrd, hne⟩ := readyI_at hops.rdy hc hv
    refine ⟨fun h => absurd h hne, fun i hi => ?_⟩
    have halt := hrd i hi
    obtain ⟨x, rfl, ⟨e48, e49, e50, e51, e53, e56, e57⟩, hb, ho⟩ := hst
    have hbs := hb.size
    simp only [altI, Bool.or_eq_true, Bool.and_eq_true, beq_iff_eq, Bool.not_eq_true'] at halt
    rcases halt with ((⟨rfl, rfl⟩ | ⟨rfl, rfl⟩) | ⟨⟨rfl, rfl⟩, rfl⟩) | ⟨rfl, rfl⟩
    · refine wpOp_calls hops.o4 75 #[.slice Ar route.length cr] (fun o hoo => ?_) ?_
      · have hc := run_callTo Try.func75 nameC bodyC #[.slice Ar route.length cr] w
        unfold execOp
        simp only [hoo, resolve, Deferred.ofValue, Act.eval.eq_4, List.map_toArray, List.map_cons, List.map_nil, evI hs x 51 (by decide), e51, Sem.run_bind, Sem.run_pure, Result.andThen_ok, invoke, Array.append_empty, Array.empty_append, hc]
      · have hr2 := (hrt.next hb).rd
        refine (cloneInt_any Ar cr route w hr2 (rd_nil_len hr2) (by omega)).mono ?_
        rintro e w' ⟨v, g, rfl, h1, h2, h3⟩
        have hb' := hb.trans (h3.mono hbs)
        refine ⟨v, rfl, hS _ hb', ?_⟩
        rw [pvI x 52 _ (by decide)]
        refine regI_all hops hs hlr hrt hS hcall hfin n 1 p _ _ (by omega) (by omega) rfl ⟨_, rfl, ⟨e48, e49, e50, e51, e53, e56, e57⟩, hb', (Objs.newC (k := 0) ho h3 ⟨⟨g, h2⟩, ownsRow_more h1 hbs⟩ h2 (h1.lt g h2).1).congr ?_⟩
        intro k o e
        match k, e with
        | 0, e => exact e
        | 1, e => exact e
    · have hc2 : c < 2 := by
        unfold validI at hv
        simp at hv
        omega
      have hb' : Below w0.heap.size w0 (w.alloc (.cells #[.int .i64 ix] 3)) := hb.alloc hbs _
      refine wpOp_runs hops.o6 (.slice (some ⟨w.heap.size, 0, none⟩) 1 1) (w.alloc (.cells #[.int .i64 ix] 3)) (fun o hoo => ?_) ⟨hS _ hb', ?_⟩
      · unfold execOp
        simp only [hoo, Sem.run_bind, List.map_toArray, List.map_cons, List.map_nil, evI hs x 53 (by decide), e53, run_buildInt _ _ _ Try.underlying39 hinf hz0 hz1, Result.andThen_ok]
        rfl
      · rw [pvI x 54 _ (by decide)]
        refine regI_all hops hs hlr hrt hS hcall hfin n c true _ _ (by simp at hn ⊢; omega) hc (by simp [validI]) ⟨_, rfl, ⟨e48, e49, e50, e51, e53, e56, e57⟩, hb', (Objs.new (k := 1) ho (own_one w ix hbs) rfl).congr ?_⟩
        intro k o e
        match k, e with
        | 0, e => exact e
        | 1, e => exact e
    · obtain ⟨g, c2, k1, _, k2⟩ := (ho.1 1 _ rfl).head
      have hown := ho.1 0 _ rfl
      dsimp only at k1 k2
      refine wpOp_of hops.o7 fun o hoo hdd => ?_
      refine wp_append_any_at w (.tmp 52) (.tmp 54) 39 hoo w0.heap.size 3 i0 (.int .i64 0) 1 8 Try.underlying39 hinf hz0 hz1 hz2 rfl (by decide) (x 52) route.length (flat intAt 1 route) (evI hs x 52 (by decide)) hown.2 (some ⟨g, 0, none⟩) [ix].length c2 (flat intAt 1 [ix]) ((evI hs x 54 (by decide)).trans k1) (flat_length intAt 1 [ix]) (rd_nil_len k2.rd) (rd_src k2.rd (by decide)) (ints_one [ix]) (by unfold maxLen; simp; omega) (by simp; omega) hbs ?_
      intro v' w' h1 h2 h3
      rw [hdd, pvI x 55 v' (by decide)]
      have hfl : flat intAt 1 route ++ flat intAt 1 [ix] = flat intAt 1 (route ++ [ix]) := by simp [flat]
      rw [hfl, ← List.length_append] at h1
      obtain ⟨g', hg'⟩ := hown.1
      have hlt := hown.lt hg'
      have hb' : Below w0.heap.size w0 w' := hb.trans ((Below.refl _ _).grown h2 hbs (fun q hq => by
        rw [hg'] at hq
        cases hq
        exact hlt.1))
      refine ⟨hS _ hb', ?_⟩
      refine regI_all hops hs hlr hrt hS hcall hfin n 2 true _ _ (by simp at hn ⊢; omega) (by omega) rfl ⟨_, rfl, ⟨e48, e49, e50, e51, e53, e56, e57⟩, hb', (ho.app (k := 0) rfl h2 h1 h3).congr ?_⟩
      intro k o e
      match k, e with
      | 0, e => exact e
      | 1, e => exact e
    · have hp : p = true := by
        unfold validI at hv
        simpa using hv
      subst hp
      have hn0 : n = 0 := by
        simp at hn
        omega
      subst hn0
      obtain ⟨g1, c1, k1, _, k2⟩ := (ho.1 0 _ rfl).head
      dsimp only at k1 k2
      refine wpOp_calls hops.o10 64 #[cv, nv, tv, .slice (some ⟨g1, 0, none⟩) (route ++ [ix]).length c1, mv, pv] (fun o hoo => ?_) ?_
      · have hc := run_callTo Try.func64 nameI bodyI #[cv, nv, tv, .slice (some ⟨g1, 0, none⟩) (route ++ [ix]).length c1, mv, pv] w
        unfold execOp
        simp only [hoo, resolve, Deferred.ofValue, Act.eval.eq_4, List.map_toArray, List.map_cons, List.map_nil, evI hs x 48 (by decide), evI hs x 49 (by decide), evI hs x 50 (by decide), evI hs x 55 (by decide), evI hs x 56 (by decide), evI hs x 57 (by decide), e48, e49, e50, e56, e57, k1, Sem.run_bind, Sem.run_pure, Result.andThen_ok, invoke, Array.append_empty, Array.empty_append, hc]
      · refine (hcall g1 c1 w hb k2).mono ?_
        rintro e w' ⟨u, rfl, h1, h2⟩
        refine ⟨u, rfl, h1, ?_⟩
        rw [pvI x 58 _ (by decide)]
        exact wpAnyH_done hops.r10 (hfin _ _ h2) 0

theorem wp_regI (hops : OpsI ops) {id : Nat} {w : World} (hw : w0 = w.drew) (hs : 60 ≤ a0.tmps.size) (hlr : route.length ≤ 1000) (hrt : Sl w0 0 w0.heap.size Ar 3 intAt 1 route)
    (h14 : a0.tmps.getD 14 undef = nv) (h2 : a0.tmps.getD 2 undef = tv) (h3 : a0.tmps.getD 3 undef = .slice Ar route.length cr) (h12 : a0.tmps.getD 12 undef = .int .i64 ix) (h5 : a0.tmps.getD 5 undef = pv)
    (hQ : ∀ c a (d : Nat) v w, Q (.panic c) (Act.put a (some d) v) w → Q (.panic c) a w)
    (hy : ∀ o : Oper, o.op = .load 31 (.tmp 6) → ∀ w, S w → (execOp a0.eval o).run Try.prog w = .ok (.value cv) w)
    (hy2 : ∀ a : Act, a.eval (.tmp 10) = a0.eval (.tmp 10) → ∀ o : Oper, o.op = .load 81 (.tmp 10) → ∀ w, S w → (execOp a.eval o).run Try.prog w = .ok (.value mv) w)
    (hS : ∀ w, Below w0.heap.size w0 w → S w)
    (hcall : ∀ g c w, Below w0.heap.size w0 w → Has w g 3 intAt 1 (route ++ [ix]) → Calls Try.prog 64 #[cv, nv, tv, .slice (some ⟨g, 0, none⟩) (route ++ [ix]).length c, mv, pv] w fun e w' => ∃ u, e = .returned u ∧ S w' ∧ R w')
    (hfin : ∀ x w', R w' → Q .normal (FrL slotsI a0 x) w') : (Code.region id ops true).wp Try.prog Q a0 w := by
  subst hw
  have hSw : S w.drew := hS _ (Below.refl _ _)
  have ht := hops.tak
  rw [List.all_eq_true] at ht
  refine wp_region_held (S := S) (by kernel_rfl) ?_
  rw [hops.sz]
  refine wpAnyH_takeD hops.q0 hops.nosel (ht (0, _) (.head _)) hQ hy hSw ?_
  refine wpAnyH_takeD hops.q1 hops.nosel (ht (1, _) (.tail _ (.head _))) hQ (run_moves (v := nv) ?_) hSw ?_
  · rw [eval_put_ne (by decide)]
    exact h14
  refine wpAnyH_takeD hops.q2 hops.nosel (ht (2, _) (.tail _ (.tail _ (.head _)))) hQ (run_moves (v := tv) ?_) hSw ?_
  · rw [eval_put_ne (by decide), eval_put_ne (by decide)]
    exact h2
  refine wpAnyH_takeD hops.q3 hops.nosel (ht (3, _) (.tail _ (.tail _ (.tail _ (.head _))))) hQ (run_moves (v := .slice Ar route.length cr) ?_) hSw ?_
  · rw [eval_put_ne (by decide), eval_put_ne (by decide), eval_put_ne (by decide)]
    exact h3
  refine wpAnyH_takeD hops.q5 hops.nosel (ht (5, _) (.tail _ (.tail _ (.tail _ (.tail _ (.head _)))))) hQ (run_moves (v := .int .i64 ix) ?_) hSw ?_
  · rw [eval_put_ne (by decide), eval_put_ne (by decide), eval_put_ne (by decide), eval_put_ne (by decide)]
    exact h12
  refine wpAnyH_takeD hops.q8 hops.nosel (ht (8, _) (.tail _ (.tail _ (.tail _ (.tail _ (.tail _ (.head _))))))) hQ (hy2 _ ?_) hSw ?_
  · rw [eval_put_ne (by decide), eval_put_ne (by decide), eval_put_ne (by decide), eval_put_ne (by decide), eval_put_ne (by decide)]
  refine wpAnyH_takeD hops.q9 hops.nosel (ht (9, _) (.tail _ (.tail _ (.tail _ (.tail _ (.tail _ (.tail _ (.head _)))))))) hQ (run_moves (v := pv) ?_) hSw ?_
  · rw [eval_put_ne (by decide), eval_put_ne (by decide), eval_put_ne (by decide), eval_put_ne (by decide), eval_put_ne (by decide), eval_put_ne (by decide)]
    exact h5
  refine regI_all (S := S) (R := R) (route := route) (ix := ix) (cr := cr) (Ar := Ar) (cv := cv) (nv := nv) (tv := tv) (mv := mv) (pv := pv) (w0 := w.drew) hops (by simp only [put_size]; exact hs) hlr hrt hS hcall ?_ 4 0 false _ _ rfl (by decide) rfl ⟨_, (FrL_self _ _).symm, ⟨?_, ?_, ?_, ?_, ?_, ?_, ?_⟩, Below.refl _ _, ?_⟩
  · intro x w' hR
    have h := hfin x w' hR
    rw [FrL_over _ _ _ _ _ (by decide) (by decide), FrL_over _ _ _ _ _ (by decide) (by decide), FrL_over _ _ _ _ _ (by decide) (by decide), FrL_over _ _ _ _ _ (by decide) (by decide), FrL_over _ _ _ _ _ (by decide) (by decide), FrL_over _ _ _ _ _ (by decide) (by decide), FrL_over _ _ _ _ _ (by decide) (by decide)]
    exact h
  · rw [getD_put_ne (by decide), getD_put_ne (by decide), getD_put_ne (by decide), getD_put_ne (by decide), getD_put_ne (by decide), getD_put_ne (by decide), getD_put_same (by (try simp only [put_size]); omega)]
  · rw [getD_put_ne (by decide), getD_put_ne (by decide), getD_put_ne (by decide), getD_put_ne (by decide), getD_put_ne (by decide), getD_put_same (by (try simp only [put_size]); omega)]
  · rw [getD_put_ne (by decide), getD_put_ne (by decide), getD_put_ne (by decide), getD_put_ne (by decide), getD_put_same (by (try simp only [put_size]); omega)]
  · rw [getD_put_ne (by decide), getD_put_ne (by decide), getD_put_ne (by decide), getD_put_same (by (try simp only [put_size]); omega)]
  · rw [getD_put_ne (by decide), getD_put_ne (by decide), getD_put_same (by (try simp only [put_size]); omega)]
  · rw [getD_put_ne (by decide), getD_put_same (by (try simp only [put_size]); omega)]
  · rw [getD_put_same (by (try simp only [put_size]); omega)]
  · have h : ∀ (x : Nat → Value) k o, tabI route ix 0 false x k ≠ some o := fun x k o e => by
      match k, e with
      | 0, e => cases e
      | 1, e => cases e
      | _ + 2, e => cases e
    exact ⟨fun k o e => absurd e (h _ k o), fun j _ o _ _ e _ => absurd e (h _ j o)⟩
end

end Go.Proofs.Ytjmfgncakegjaaa
