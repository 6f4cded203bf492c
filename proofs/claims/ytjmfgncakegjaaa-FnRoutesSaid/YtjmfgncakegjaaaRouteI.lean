/-
  The contract of points, the program's.
-/
import Derived.Test.YtjmfgncakegjaaaRouteH
import Derived.Test.YtjmfgncakegjaaaGrow
import Derived.Laws.AppendOwn
namespace Go.Proofs.Ytjmfgncakegjaaa
open Go.RowKit

/-- A call that hands back a list of its own and whether there is one. -/
def ResP (t : TypeId) (res : Option (List Int)) (w : World) (e : Ending) (w' : World) : Prop :=
  ∃ A c, e = .returned (.tuple #[.slice A (listOf res).length c, .bool res.isSome]) ∧ Sl w' w.heap.size w'.heap.size A t intAt 1 (listOf res) ∧ Below w.heap.size w w'
theorem ResP.none_ {t : TypeId} {res : Option (List Int)} {w w' : World} (h : res = none) (hb : Below w.heap.size w w') : ResP t res w (.returned (.tuple #[.slice none 0 0, .bool false])) w' := by
  subst h
  exact ⟨none, 0, rfl, .inl ⟨rfl, rfl⟩, hb⟩
theorem ResP.some_ {t : TypeId} {res : Option (List Int)} {l : List Int} {A : Option Addr} {c : Nat} {e : Ending} {w w' : World} (h : res = some l) (he : e = .returned (.tuple #[.slice A l.length c, .bool true])) (hs : Sl w' w.heap.size w'.heap.size A t intAt 1 l) (hb : Below w.heap.size w w') : ResP t res w e w' := by
  subst h
  exact ⟨A, c, he, hs, hb⟩

theorem own_next {base size n : Nat} {e : TypeId} {v : Value} {xs : List Value} {w w' : World} (h : w.ownsRow base e size v n xs) (hb : Below w.heap.size w w') : w'.ownsRow base e size v n xs :=
  ⟨h.1, h.2.imp id fun ⟨g, cap, cur, hv, hg, hh, rest⟩ => ⟨g, cap, cur, hv, hg, (hb.block g (Array.getElem?_eq_some_iff.1 hh).1).trans hh, rest⟩⟩

theorem Marks.start {f : Nat} (hf : f < 8) : Marks ((#[.bool false, .bool false, .bool false, .bool false, .bool false, .bool false, .bool false, .bool false] : Array Value).setIfInBounds f (.bool true)) [(f : Int)] := by
  have h := Marks.add_ (pts := []) (cs := #[.bool false, .bool false, .bool false, .bool false, .bool false, .bool false, .bool false, .bool false]) (j := f) ⟨rfl, fun i hi => by
    match i, hi with
    | 0, _ | 1, _ | 2, _ | 3, _ | 4, _ | 5, _ | 6, _ | 7, _ => rfl⟩ hf
  simpa using h

set_option maxHeartbeats 4000000 in
set_option maxRecDepth 20000 in
theorem implPoints_any (A A' R : Option Addr) (c c' d : Nat) (ps : List Point) (ss : List Segment) (f : Int) (rs : List Int) (w : World) (hr' : Rd w w.heap.size Segment.at_ 5 A' ss) (hq : Rd w w.heap.size intAt 1 R rs) (hok : chartOk ps ss = true) (hlq : rs.length ≤ 1048576) :
    Calls Try.prog 60 #[.agg #[.slice A ps.length c, .slice A' ss.length c'], .int .i64 f, .slice R rs.length d] w (ResP 3 (pointsF ps.length ss f rs) w) := by
  have hsl := chartOk_len hok
  have hB0 : Below w.heap.size w (w.alloc (.cells #[.slice A ps.length c, .slice A' ss.length c'] 31)) := (Below.refl _ _).alloc (Nat.le_refl _) _
  cases hf : idxB f ps.length
  · go_enter Try.func60, Try.ntmps60
    go_wp2_with (go_at_call 54; refine (isIndex_any _ _ _).mono ?_; rintro e w' ⟨rfl, rfl⟩)
    go_ret2
    exact ResP.none_ (by simp [pointsF, hf]) hB0
  have hgg : 0 ≤ f ∧ f < ps.length := by simpa [idxB] using hf
  obtain ⟨j, rfl⟩ : ∃ j : Nat, f = j := ⟨f.toNat, by omega⟩
  obtain ⟨i0, hi, hz0, hz1, hz2⟩ := info_parts infoInt
  have hM := Blk.new (w.alloc (.cells #[.slice A ps.length c, .slice A' ss.length c'] 31)) 81 #[.bool false, .bool false, .bool false, .bool false, .bool false, .bool false, .bool false, .bool false]
  rw [show (w.alloc (.cells #[.slice A ps.length c, .slice A' ss.length c'] 31)).heap.size = w.heap.size + 1 by simp] at hM
  have m0 := (hM.cell j).trans (show _ = some (.bool false) by
    have : j < 8 := by omega
    match j, this with
    | 0, _ | 1, _ | 2, _ | 3, _ | 4, _ | 5, _ | 6, _ | 7, _ => rfl)
  have m1 := hM.frozen j
  have HR' := Lib.hid hr'
  clear hr'
  go_enter Try.func60, Try.ntmps60
  go_wp2_with (go_at_call 54; refine (isIndex_any _ _ _).mono ?_; rintro e w' ⟨rfl, rfl⟩)
  go_loopw [1, 9, 24] (fun x v i wr => ∃ k : Nat, k ≤ rs.length ∧ i = .int .i64 k ∧ (∃ (cur : Nat) (pts : List Int), x = .int .i64 cur ∧ cur < ps.length ∧ wr.ownsRow (w.heap.size + 2) 3 1 v pts.length (flat intAt 1 pts) ∧ (∃ cs, Blk wr (w.heap.size + 1) 81 cs ∧ Marks cs pts) ∧ pts.length ≤ k + 1 ∧ pointsF ps.length ss (j : Int) rs = walkR ss pts cur (rs.drop k)) ∧ w.heap.size + 2 ≤ wr.heap.size ∧ Blk wr w.heap.size 31 #[.slice A ps.length c, .slice A' ss.length c'] ∧ Below w.heap.size w wr) (fun _ _ i _ => rs.length - (intOf i).toNat)
  case atStart =>
    have hs1 : (w.alloc (.cells #[.slice A ps.length c, .slice A' ss.length c'] 31)).heap.size = w.heap.size + 1 := by simp
    have hset := Blk.new (w.alloc (.cells #[.slice A ps.length c, .slice A' ss.length c'] 31)) 81 ([Value.bool false, .bool false, .bool false, .bool false, .bool false, .bool false, .bool false, .bool false].set j (.bool true)).toArray
    rw [hs1] at hset
    refine ⟨0, Nat.zero_le _, rfl, ⟨j, [(j : Int)], rfl, by omega, ?_, ⟨_, hset.alloc _, ?_⟩, by simp, ?_⟩, ?_, ?_, ?_⟩
    · have hz : ∀ W : World, W.heap.size = w.heap.size + 1 + 1 → (W.alloc (.cells #[.int .i64 j] 3)).ownsRow (w.heap.size + 2) 3 1 (.slice (some ⟨w.heap.size + 1 + 1, 0, none⟩) 1 1) 1 [.int .i64 j] := fun W e => by
        have h := World.ownsRow_lit (base := w.heap.size + 2) (e := 3) (size := 1) W #[.int .i64 j] 1 (by omega) (by decide) rfl
        rw [e] at h
        exact h
      exact hz _ (by simp)
    · have h := Marks.start (f := j) (by omega)
      simpa only [List.setIfInBounds_toArray] using h
    · simp [pointsF, hf]
    · simp
    · exact ((Blk.new w _ _).alloc _).alloc _
    · exact (hB0.alloc hB0.size _).alloc (by simp; omega) _
  case round =>
    obtain ⟨k, hk, rfl, ⟨cur, pts, rfl, hcur, hown, ⟨cs, hms, hmk⟩, hpl, hno⟩, hsz, hkr, hbel⟩ := hrel
    have hs := hbel.size
    have HN := Lib.hid hno
    have c0 := hkr.cell 0
    have c1 := hkr.cell 1
    clear hno
    by_cases hlt : k < rs.length
    · obtain ⟨g, off, rfl, hg, hc⟩ := hq (by omega)
      obtain ⟨r, hrk⟩ : ∃ r, rs[k]? = some r := ⟨_, List.getElem?_eq_getElem hlt⟩
      have d0 := (hbel.cell (p := ⟨g, off + k * 1 + 0, none⟩) hg).trans (hc k r hrk 0 (by omega))
      simp only [intAt, Nat.add_zero, Nat.mul_one] at d0
      have HQ := Lib.hid hq
      have HC := Lib.hid hc
      have HK := Lib.hid hrk
      clear hq hc hrk
      cases t : idxB r ss.length
      · have HX := Lib.hid (walkR_bad HN.out HK.out t)
        go_wp2_with (go_at_call 54; refine (isIndex_any _ _ _).mono ?_; rintro e w' ⟨rfl, rfl⟩)
        go_ret2
        exact ResP.none_ HX.out hbel
      have hgr : 0 ≤ r ∧ r < ss.length := by
        simpa [idxB] using t
      obtain ⟨q, rfl⟩ : ∃ q : Nat, r = q := ⟨r.toNat, by omega⟩
      obtain ⟨s, hsj⟩ : ∃ s, ss[q]? = some s := ⟨_, List.getElem?_eq_getElem (by omega)⟩
      obtain ⟨gs, os, rfl, hgs, hcs⟩ := HR'.out (by omega)
      have e0 := (hbel.cell (p := ⟨gs, os + q * 5 + 0, none⟩) hgs).trans (hcs q s hsj 0 (by omega))
      have e1 := (hbel.cell (p := ⟨gs, os + q * 5 + 1, none⟩) hgs).trans (hcs q s hsj 1 (by omega))
      have e2 := (hbel.cell (p := ⟨gs, os + q * 5 + 2, none⟩) hgs).trans (hcs q s hsj 2 (by omega))
      have e3 := (hbel.cell (p := ⟨gs, os + q * 5 + 3, none⟩) hgs).trans (hcs q s hsj 3 (by omega))
      have e4 := (hbel.cell (p := ⟨gs, os + q * 5 + 4, none⟩) hgs).trans (hcs q s hsj 4 (by omega))
      simp only [Segment.at_, Nat.add_zero] at e0 e1 e2 e3 e4
      have hot := otherV_in (chartOk_seg hok hsj) cur
      obtain ⟨nx, hnx⟩ : ∃ nx, nx = otherV s cur := ⟨_, rfl⟩
      rw [← hnx] at hot
      have hend : ∀ W, Calls Try.prog 58 #[.agg #[.int .i64 s.a, .int .i64 s.b, .int .i64 s.depth, .int .i64 s.mins, .bool s.meet], .int .i64 cur] W fun e w' => e = .returned (.int .i64 nx) ∧ Below W.heap.size W w' := fun W => by
        rw [hnx]; exact implEnd_any s _ _
      have hj0 : (0 : Int) ≤ (q : Int) := Int.natCast_nonneg _
      have hj1 : (q : Int) < (ss.length : Int) := hgr.2
      have HM2 := Lib.hid hmk
      have HS := Lib.hid hsj
      have HNX := Lib.hid hnx
      clear hgs hcs hsj hnx hmk
      by_cases hneg : nx < 0
      · have HX := Lib.hid (walkR_stop HN.out HK.out t HS.out HNX.out (.inl hneg))
        have hnd : decide (nx < 0) = true := decide_eq_true hneg
        go_wp2_with (first | (go_at_call 54; refine (isIndex_any _ _ _).mono ?_; rintro e w' ⟨rfl, rfl⟩) | (go_at_call 58; refine (hend _).mono ?_; rintro e w1 ⟨rfl, hb1⟩))
        have hb2 := hbel.trans (hb1.mono hbel.size)
        try go_quiet (fail)
        try go_wp2
        go_ret2
        exact ResP.none_ HX.out (by first | exact hb2 | exact hb2.drewN _)
      obtain ⟨m, rfl⟩ : ∃ m : Nat, nx = m := ⟨nx.toNat, by omega⟩
      have hm8 : m < 8 := by omega
      have hm0 : (0 : Int) ≤ (m : Int) := Int.natCast_nonneg _
      have hm1 : (m : Int) < 8 := by omega
      have hnd : decide ((m : Int) < 0) = false := decide_eq_false hneg
      by_cases hmem : (m : Int) ∈ pts
      · have HX := Lib.hid (walkR_stop HN.out HK.out t HS.out HNX.out (.inr hmem))
        have hat := HM2.out.at_ hm8
        simp only [hmem, decide_true] at hat
        have hmc : ∀ W, Below wr.heap.size wr W → W.cell? ⟨w.heap.size + 1, m, none⟩ = some (.bool true) := fun W hb => ((hms.next hb).cell m).trans hat
        have HA := Lib.hid hat
        clear hat hmem
        go_wp2_with (first | (go_at_call 54; refine (isIndex_any _ _ _).mono ?_; rintro e w' ⟨rfl, rfl⟩) | (go_at_call 58; refine (hend _).mono ?_; rintro e w1 ⟨rfl, hb1⟩; have hmc1 := hmc _ hb1))
        have hb2 := hbel.trans (hb1.mono hbel.size)
        try go_quiet (fail)
        try go_wp2
        go_ret2
        exact ResP.none_ HX.out (by first | exact hb2 | exact hb2.drewN _)
      have HX := Lib.hid (walkR_next HN.out HK.out t HS.out HNX.out (fun h => h.elim hneg hmem))
      have hat := HM2.out.at_ hm8
      simp only [hmem, decide_false] at hat
      have hmc : ∀ W, Below wr.heap.size wr W → W.cell? ⟨w.heap.size + 1, m, none⟩ = some (.bool false) := fun W hb => ((hms.next hb).cell m).trans hat
      have hmf : ∀ W, Below wr.heap.size wr W → W.frozen? ⟨w.heap.size + 1, m, none⟩ = false := fun W hb => (hms.next hb).frozen m
      have HA := Lib.hid hat
      clear hat hmem
      go_wp2_with (first | (go_at_call 54; refine (isIndex_any _ _ _).mono ?_; rintro e w' ⟨rfl, rfl⟩) | (go_at_call 58; refine (hend _).mono ?_; rintro e w1 ⟨rfl, hb1⟩; have hmc1 := hmc _ hb1; have hmf1 := hmf _ hb1) | (at_builtin; refine wpList_append_own _ rfl _ _ 39 rfl (w.heap.size + 2) 3 i0 (.int .i64 0) 1 8 Try.underlying39 hi hz0 hz1 hz2 rfl (by decide) _ _ _ rfl ((ownsRow_setCell_below (own_next hown hb1) (a := ⟨w.heap.size + 1, m, none⟩) (Nat.lt_succ_self _) (.bool true)).alloc _) ⟨w1.heap.size, 0, none⟩ 1 1 [.int .i64 m] rfl rfl ?c1 ?c2 ?c3 ?c4 ?c5 ?_))
      case c1 =>
        intro i u hj
        match i, hj with
        | 0, hj =>
          simp only [List.getElem?_cons_zero, Option.some.injEq] at hj
          subst hj
          have h := (Blk.new (w1.setCell ⟨w.heap.size + 1, m, none⟩ (.bool true)) 3 #[.int .i64 m]).cell 0
          rw [show (w1.setCell ⟨w.heap.size + 1, m, none⟩ (.bool true)).heap.size = w1.heap.size by simp [World.setCell]] at h
          simpa [Addr.add] using h
      case c2 => intro u hu; simp at hu; rcases hu with rfl; rfl
      case c3 => unfold maxLen; omega
      case c4 => omega
      case c5 => have := hb1.size; simp; omega
      intro v' w2 hown' hgrow _
      have hb2 := hbel.trans (hb1.mono hbel.size)
      have hz1' := hb1.size
      have R := own_snoc (enc := intAt) (x := (m : Int)) hown' rfl rfl
      have hbn : Below w.heap.size w w2 := ((hb2.setCell (p := ⟨w.heap.size + 1, m, none⟩) (Nat.le_succ _) (.bool true)).alloc (by simp; omega) _).grown hgrow (by simp; omega) (fun q hq => Nat.le_trans (Nat.le_add_right _ 2) (hown.lt q hq).1)
      have hkn := ((((hkr.next hb1).far (p := ⟨w.heap.size + 1, m, none⟩) (Nat.ne_of_lt (Nat.lt_succ_self _)) (.bool true)).alloc _).grown hgrow (fun e => by have := (hown.lt _ e.symm).1; omega))
      have hmn := ((((hms.next hb1).set_ m (.bool true)).alloc _).grown hgrow (fun e => by have := (hown.lt _ e.symm).1; omega))
      have HR2 := Lib.hid R
      have HZ := Lib.hid (show w.heap.size + 2 ≤ w2.heap.size by have := hgrow.size; simp at this; omega)
      clear R hown' hgrow hown
      go_wp2_with fail
      go_roundw
      case rel => exact ⟨k + 1, by omega, by go_num, ⟨m, _, rfl, by omega, HR2.out, ⟨_, hmn, HM2.out.add_ hm8⟩, by simp; omega, HX.out⟩, HZ.out, hkn, hbn⟩
      case measure => simp [intOf]; omega
    · have hk' : k = rs.length := by omega
      subst hk'
      have HX := Lib.hid (walkR_done HN.out)
      obtain ⟨A1, c1', rfl, hsl1⟩ := Sl.of_own hown
      go_wp2_with fail
      go_ret2
      exact ResP.some_ HX.out rfl (hsl1.mono (by omega) (Nat.le_refl _)) hbel

end Go.Proofs.Ytjmfgncakegjaaa
