/-
  The contract of points, the reference's.
-/
import Derived.Test.YtjmfgncakegjaaaRouteI
namespace Go.Proofs.Ytjmfgncakegjaaa
open Go.RowKit

set_option maxHeartbeats 4000000 in
set_option maxRecDepth 20000 in
theorem specPoints_any (A A' R : Option Addr) (c c' d : Nat) (ps : List Point) (ss : List Segment) (f : Int) (rs : List Int) (w : World) (hr' : Rd w w.heap.size Segment.at_ 5 A' ss) (hq : Rd w w.heap.size intAt 1 R rs) (hok : chartOk ps ss = true) (hf : idxB f ps.length = true) (hlq : rs.length ≤ 1048576) :
    Calls Try.prog 59 #[.agg #[.slice A ps.length c, .slice A' ss.length c'], .int .i64 f, .slice R rs.length d] w (ResP 3 (pointsF ps.length ss f rs) w) := by
  have hsl := chartOk_len hok
  have hB0 : Below w.heap.size w (w.alloc (.cells #[.slice A ps.length c, .slice A' ss.length c'] 31)) := (Below.refl _ _).alloc (Nat.le_refl _) _
  have hgg : 0 ≤ f ∧ f < ps.length := by simpa [idxB] using hf
  obtain ⟨i0, hi, hz0, hz1, hz2⟩ := info_parts infoInt
  have HR' := Lib.hid hr'
  clear hr'
  go_enter Try.func59, Try.ntmps59
  go_wp2_with fail
  go_loopw [8, 16] (fun v i wr => ∃ k : Nat, k ≤ rs.length ∧ i = .int .i64 k ∧ (∃ (cur : Int) (pre : List Int), 0 ≤ cur ∧ cur < ps.length ∧ wr.ownsRow (w.heap.size + 1) 3 1 v (pre ++ [cur]).length (flat intAt 1 (pre ++ [cur])) ∧ pre.length ≤ k ∧ pointsF ps.length ss f rs = walkR ss (pre ++ [cur]) cur (rs.drop k)) ∧ w.heap.size + 1 ≤ wr.heap.size ∧ Blk wr w.heap.size 31 #[.slice A ps.length c, .slice A' ss.length c'] ∧ Below w.heap.size w wr) (fun _ i _ => rs.length - (intOf i).toNat)
  case atStart =>
    have hs1 : (w.alloc (.cells #[.slice A ps.length c, .slice A' ss.length c'] 31)).heap.size = w.heap.size + 1 := by simp
    refine ⟨0, Nat.zero_le _, rfl, ⟨f, [], by omega, by omega, ?_, by simp, ?_⟩, ?_, ?_, ?_⟩
    · have hz : ∀ W : World, W.heap.size = w.heap.size + 1 → (W.alloc (.cells #[.int .i64 f] 3)).ownsRow (w.heap.size + 1) 3 1 (.slice (some ⟨w.heap.size + 1, 0, none⟩) 1 1) 1 [.int .i64 f] := fun W e => by
        have h := World.ownsRow_lit (base := w.heap.size + 1) (e := 3) (size := 1) W #[.int .i64 f] 1 (by omega) (by decide) rfl
        rw [e] at h
        exact h
      exact hz _ hs1
    · simp [pointsF, hf]
    · simp
    · exact (Blk.new w _ _).alloc _
    · exact hB0.alloc hB0.size _
  case round =>
    obtain ⟨k, hk, rfl, ⟨cur, pre, hcur0, hcur1, hown, hpl, hno⟩, hsz, hkr, hbel⟩ := hrel
    obtain ⟨pts, hpts⟩ : ∃ pts, pts = pre ++ [cur] := ⟨_, rfl⟩
    have hlp : pts.length = pre.length + 1 := by rw [hpts]; simp
    have hla : pts[pre.length]? = some cur := by rw [hpts]; simp
    rw [← hpts] at hown hno
    have hs := hbel.size
    have HN := Lib.hid hno
    have c0 := hkr.cell 0
    have c1 := hkr.cell 1
    obtain ⟨A1, cc, rfl, hs1⟩ := Sl.of_own hown
    clear hno
    by_cases hlt : k < rs.length
    · obtain ⟨g, off, rfl, hg, hc⟩ := hq (by omega)
      obtain ⟨r, hrk⟩ : ∃ r, rs[k]? = some r := ⟨_, List.getElem?_eq_getElem hlt⟩
      have d0 := (hbel.cell (p := ⟨g, off + k * 1 + 0, none⟩) hg).trans (hc k r hrk 0 (by omega))
      simp only [intAt, Nat.add_zero, Nat.mul_one] at d0
      have HQ := Lib.hid hq
      have HC := Lib.hid hc
      have HK := Lib.hid hrk
      clear hq hc hrk
      cases t : idxB r ss.length
      · have HX := Lib.hid (walkR_bad HN.out HK.out t)
        rw [idxB_inB] at t
        go_wp2_with (go_at_call 51; refine (l01In_any _ _ _ _).mono ?_; rintro e w' ⟨rfl, rfl⟩)
        go_ret2
        exact ResP.none_ HX.out hbel
      have hgr : 0 ≤ r ∧ r < ss.length := by
        simpa [idxB] using t
      obtain ⟨q, rfl⟩ : ∃ q : Nat, r = q := ⟨r.toNat, by omega⟩
      obtain ⟨s, hsj⟩ : ∃ s, ss[q]? = some s := ⟨_, List.getElem?_eq_getElem (by omega)⟩
      obtain ⟨gs, os, rfl, hgs, hcs⟩ := HR'.out (by omega)
      have e0 := (hbel.cell (p := ⟨gs, os + q * 5 + 0, none⟩) hgs).trans (hcs q s hsj 0 (by omega))
      have e1 := (hbel.cell (p := ⟨gs, os + q * 5 + 1, none⟩) hgs).trans (hcs q s hsj 1 (by omega))
      have e2 := (hbel.cell (p := ⟨gs, os + q * 5 + 2, none⟩) hgs).trans (hcs q s hsj 2 (by omega))
      have e3 := (hbel.cell (p := ⟨gs, os + q * 5 + 3, none⟩) hgs).trans (hcs q s hsj 3 (by omega))
      have e4 := (hbel.cell (p := ⟨gs, os + q * 5 + 4, none⟩) hgs).trans (hcs q s hsj 4 (by omega))
      simp only [Segment.at_, Nat.add_zero] at e0 e1 e2 e3 e4
      have hot := otherV_in (chartOk_seg hok hsj) cur
      obtain ⟨nx, hnx⟩ : ∃ nx, nx = otherV s cur := ⟨_, rfl⟩
      rw [← hnx] at hot
      have hend : ∀ W, Calls Try.prog 57 #[.agg #[.int .i64 s.a, .int .i64 s.b, .int .i64 s.depth, .int .i64 s.mins, .bool s.meet], .int .i64 cur] W fun e w' => e = .returned (.int .i64 nx) ∧ Below W.heap.size W w' := fun W => by
        rw [hnx]; exact specOther_any s _ _
      have hj0 : (0 : Int) ≤ (q : Int) := Int.natCast_nonneg _
      have hj1 : (q : Int) < (ss.length : Int) := hgr.2
      obtain ⟨g1, rfl, hg1, hg2, hhas⟩ : ∃ g1, A1 = some ⟨g1, 0, none⟩ ∧ w.heap.size + 1 ≤ g1 ∧ g1 < wr.heap.size ∧ Has wr g1 3 intAt 1 pts := by
        rcases hs1 with ⟨_, h⟩ | h
        · rw [h] at hlp; simp at hlp
        · exact h
      have hrd := hhas.rd
      have f0 : wr.cell? ⟨g1, pre.length, none⟩ = some (.int .i64 cur) := by
        obtain ⟨g2, o2, e2, _, h2⟩ := hrd (by omega)
        cases e2
        have h3 := h2 _ _ hla 0 (by omega)
        simpa [intAt] using h3
      have p1 : IntKind.i64.wrap ((pts.length : Int) - 1) = (pre.length : Int) := by
        rw [IntWalk.i64_in _ (by omega)]; omega
      have p2 : pre.length < pts.length := by omega
      have p3 : (pre.length : Int) < (pts.length : Int) := by omega
      have p4 : (0 : Int) ≤ (pre.length : Int) := Int.natCast_nonneg _
      have z1 : gs < wr.heap.size := by omega
      have z2 : w.heap.size < wr.heap.size := by omega
      have HS := Lib.hid hsj
      have HNX := Lib.hid hnx
      have HHAS := Lib.hid hhas
      have HT := Lib.hid t
      have HLP := Lib.hid hlp
      have HPT := Lib.hid hpts
      have hlim : pts.length ≤ 1048577 := by omega
      clear hgs hcs hsj hnx hhas hla hlp hpts
      rw [idxB_inB] at t
      by_cases hneg : nx < 0
      · have HX := Lib.hid (walkR_stop HN.out HK.out HT.out HS.out HNX.out (.inl hneg))
        have hnd : decide (nx < 0) = true := decide_eq_true hneg
        go_wp2_with (go_at_call 51; refine (l01In_any _ _ _ _).mono ?_; rintro e w' ⟨rfl, rfl⟩)
        go_region_held3 (fun w' => w'.cell? ⟨w.heap.size, 1, none⟩ = some (.slice (some ⟨gs, os, none⟩) ss.length c') ∧ w'.cell? ⟨gs, os + q * 5, none⟩ = some (.int .i64 s.a) ∧ w'.cell? ⟨gs, os + q * 5 + 1, none⟩ = some (.int .i64 s.b) ∧ w'.cell? ⟨gs, os + q * 5 + 2, none⟩ = some (.int .i64 s.depth) ∧ w'.cell? ⟨gs, os + q * 5 + 3, none⟩ = some (.int .i64 s.mins) ∧ w'.cell? ⟨gs, os + q * 5 + 4, none⟩ = some (.bool s.meet) ∧ w'.cell? ⟨g1, pre.length, none⟩ = some (.int .i64 cur)) (go_keep)
          (first
            | (go_at_call 57; refine (hend _).mono ?_; rintro e w1 ⟨rfl, hb1'⟩; have hcc1 : ∀ b o, b < wr.heap.size → w1.cell? ⟨b, o, none⟩ = wr.cell? ⟨b, o, none⟩ := (bcell hb1').1))
        have hb1 : Below wr.heap.size wr w1 := (Below.refl _ wr).drew.trans hb1'
        go_wp2_with fail
        have hb2 := hbel.trans (hb1.mono hbel.size)
        go_ret2
        exact ResP.none_ HX.out (by first | exact hb2 | exact hb2.drewN _)
      obtain ⟨m, rfl⟩ : ∃ m : Nat, nx = m := ⟨nx.toNat, by omega⟩
      have hm0 : (0 : Int) ≤ (m : Int) := Int.natCast_nonneg _
      have hnd : decide ((m : Int) < 0) = false := decide_eq_false hneg
      by_cases hmem : (m : Int) ∈ pts
      · have HX := Lib.hid (walkR_stop HN.out HK.out HT.out HS.out HNX.out (.inr hmem))
        have hhc : ∀ W, Below wr.heap.size wr W → Calls Try.prog 73 #[.slice (some ⟨g1, 0, none⟩) pts.length cc, .int .i64 m] W fun e w' => e = .returned (.bool true) ∧ W = w' := fun W hb => by
          have h := l05Has_any (some ⟨g1, 0, none⟩) cc pts m W (HHAS.out.next hb).rd hlim
          rw [decide_eq_true hmem] at h
          exact h
        go_wp2_with (go_at_call 51; refine (l01In_any _ _ _ _).mono ?_; rintro e w' ⟨rfl, rfl⟩)
        go_region_held3 (fun w' => w'.cell? ⟨w.heap.size, 1, none⟩ = some (.slice (some ⟨gs, os, none⟩) ss.length c') ∧ w'.cell? ⟨gs, os + q * 5, none⟩ = some (.int .i64 s.a) ∧ w'.cell? ⟨gs, os + q * 5 + 1, none⟩ = some (.int .i64 s.b) ∧ w'.cell? ⟨gs, os + q * 5 + 2, none⟩ = some (.int .i64 s.depth) ∧ w'.cell? ⟨gs, os + q * 5 + 3, none⟩ = some (.int .i64 s.mins) ∧ w'.cell? ⟨gs, os + q * 5 + 4, none⟩ = some (.bool s.meet) ∧ w'.cell? ⟨g1, pre.length, none⟩ = some (.int .i64 cur)) (go_keep)
          (first
            | (go_at_call 57; refine (hend _).mono ?_; rintro e w1 ⟨rfl, hb1'⟩; have hcc1 : ∀ b o, b < wr.heap.size → w1.cell? ⟨b, o, none⟩ = wr.cell? ⟨b, o, none⟩ := (bcell hb1').1))
        have hb1 : Below wr.heap.size wr w1 := (Below.refl _ wr).drew.trans hb1'
        go_wp2_with (first | (go_at_call 73; refine (hhc _ hb1).mono ?_; rintro e w' ⟨rfl, rfl⟩))
        have hb2 := hbel.trans (hb1.mono hbel.size)
        go_ret2
        exact ResP.none_ HX.out (by first | exact hb2 | exact hb2.drewN _)
      have HX := Lib.hid (walkR_next HN.out HK.out HT.out HS.out HNX.out (fun h => h.elim hneg hmem))
      have hhc : ∀ W, Below wr.heap.size wr W → Calls Try.prog 73 #[.slice (some ⟨g1, 0, none⟩) pts.length cc, .int .i64 m] W fun e w' => e = .returned (.bool false) ∧ W = w' := fun W hb => by
        have h := l05Has_any (some ⟨g1, 0, none⟩) cc pts m W (HHAS.out.next hb).rd hlim
        rw [decide_eq_false hmem] at h
        exact h
      go_wp2_with (go_at_call 51; refine (l01In_any _ _ _ _).mono ?_; rintro e w' ⟨rfl, rfl⟩)
      go_region_held3 (fun w' => w'.cell? ⟨w.heap.size, 1, none⟩ = some (.slice (some ⟨gs, os, none⟩) ss.length c') ∧ w'.cell? ⟨gs, os + q * 5, none⟩ = some (.int .i64 s.a) ∧ w'.cell? ⟨gs, os + q * 5 + 1, none⟩ = some (.int .i64 s.b) ∧ w'.cell? ⟨gs, os + q * 5 + 2, none⟩ = some (.int .i64 s.depth) ∧ w'.cell? ⟨gs, os + q * 5 + 3, none⟩ = some (.int .i64 s.mins) ∧ w'.cell? ⟨gs, os + q * 5 + 4, none⟩ = some (.bool s.meet) ∧ w'.cell? ⟨g1, pre.length, none⟩ = some (.int .i64 cur)) (go_keep)
        (first
          | (go_at_call 57; refine (hend _).mono ?_; rintro e w1 ⟨rfl, hb1'⟩; have hcc1 : ∀ b o, b < wr.heap.size → w1.cell? ⟨b, o, none⟩ = wr.cell? ⟨b, o, none⟩ := (bcell hb1').1))
      have hb1 : Below wr.heap.size wr w1 := (Below.refl _ wr).drew.trans hb1'
      go_wp2_with (first | (go_at_call 73; refine (hhc _ hb1).mono ?_; rintro e w' ⟨rfl, rfl⟩) | (at_builtin; refine wpList_append_own _ rfl _ _ 39 rfl (w.heap.size + 1) 3 i0 (.int .i64 0) 1 8 Try.underlying39 hi hz0 hz1 hz2 rfl (by decide) _ _ _ rfl ((own_next hown hb1).alloc _) ⟨w1.heap.size, 0, none⟩ 1 1 [.int .i64 m] rfl rfl ?c1 ?c2 ?c3 ?c4 ?c5 ?_))
      case c1 =>
        intro i u hj
        match i, hj with
        | 0, hj =>
          simp only [List.getElem?_cons_zero, Option.some.injEq] at hj
          subst hj
          simp [Addr.add]
      case c2 => intro u hu; simp at hu; rcases hu with rfl; rfl
      case c3 => unfold maxLen; omega
      case c4 => omega
      case c5 => have := hb1.size; simp; omega
      intro v' w2 hown' hgrow _
      have hb2 := hbel.trans (hb1.mono hbel.size)
      have hz1' := hb1.size
      have R := own_snoc (enc := intAt) (x := (m : Int)) hown' rfl rfl
      have hbn : Below w.heap.size w w2 := (hb2.alloc (by omega) _).grown hgrow (by simp; omega) (fun q hq => Nat.le_trans (Nat.le_add_right _ 1) (hown.lt q hq).1)
      have hkn := (((hkr.next hb1).alloc _).grown hgrow (fun e => by have := (hown.lt _ e.symm).1; omega))
      have HR2 := Lib.hid R
      have HZ := Lib.hid (show w.heap.size + 1 ≤ w2.heap.size by have := hgrow.size; simp at this; omega)
      clear R hown' hgrow hown
      go_wp2_with fail
      go_roundw
      case rel => exact ⟨k + 1, by omega, by go_num, ⟨m, pts, by omega, by omega, HR2.out, by have := HLP.out; omega, HX.out⟩, HZ.out, hkn, hbn⟩
      case measure => simp [intOf]; omega
    · have hk' : k = rs.length := by omega
      subst hk'
      have HX := Lib.hid (walkR_done HN.out)
      go_wp2_with fail
      go_ret2
      exact ResP.some_ HX.out rfl (hs1.mono (by omega) (Nat.le_refl _)) hbel

end Go.Proofs.Ytjmfgncakegjaaa
