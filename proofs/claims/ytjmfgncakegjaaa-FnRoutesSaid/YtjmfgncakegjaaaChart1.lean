/-
  The contracts of the small functions on charts, the program's and the reference's: isIndex, joins, end, PointNamed.
-/
import Derived.Test.YtjmfgncakegjaaaText1
import Derived.Test.YtjmfgncakegjaaaModelC
namespace Go.Proofs.Ytjmfgncakegjaaa
open Go.RowKit

set_option maxHeartbeats 400000 in
theorem isIndex_any (i n : Int) (w : World) :
    Calls Try.prog 54 #[.int .i64 i, .int .i64 n] w fun e w' => e = .returned (.bool (idxB i n)) ∧ w = w' := by
  by_cases h1 : 0 ≤ i
  · by_cases h2 : i < n
    all_goals
      go_enter Try.func54, Try.ntmps54
      go_wp2
      go_ret
      exact ⟨ret_bool (by simp [idxB, h1, h2]), rfl⟩
  · go_enter Try.func54, Try.ntmps54
    go_wp2
    go_ret
    exact ⟨ret_bool (by simp [idxB]; omega), rfl⟩

set_option maxHeartbeats 2000000 in
theorem implJoins_any (p : Segment) (a b : Int) (w : World) :
    Calls Try.prog 56 #[.agg #[.int .i64 p.a, .int .i64 p.b, .int .i64 p.depth, .int .i64 p.mins, .bool p.meet], .int .i64 a, .int .i64 b] w fun e w' => e = .returned (.bool (joinsB p a b)) ∧ Below w.heap.size w w' := by
  obtain ⟨x, y, d, m, t⟩ := p
  cases h1 : (x == a) <;> cases h2 : (y == b) <;> cases h3 : (x == b) <;> cases h4 : (y == a)
  all_goals
    go_enter Try.func56, Try.ntmps56
    go_wp2_with fail
    go_ret
    refine ⟨ret_bool (by simp only [joinsB, h1, h2, h3, h4, Bool.and_true, Bool.and_false, Bool.or_true, Bool.or_false]), ?_⟩
    repeat (first | exact Below.refl _ _ | assumption | refine Below.alloc ?_ (by simp <;> omega) _ | refine Below.setCell ?_ (by simp <;> omega) _ | refine Below.drew ?_)
set_option maxHeartbeats 2000000 in
theorem specJoins_any (p : Segment) (a b : Int) (w : World) :
    Calls Try.prog 52 #[.agg #[.int .i64 p.a, .int .i64 p.b, .int .i64 p.depth, .int .i64 p.mins, .bool p.meet], .int .i64 a, .int .i64 b] w fun e w' => e = .returned (.bool (joinsB p a b)) ∧ Below w.heap.size w w' := by
  obtain ⟨x, y, d, m, t⟩ := p
  cases h1 : (x == a) <;> cases h2 : (y == b) <;> cases h3 : (x == b) <;> cases h4 : (y == a)
  all_goals
    go_enter Try.func52, Try.ntmps52
    go_wp2_with fail
    go_ret
    refine ⟨ret_bool (by simp only [joinsB, h1, h2, h3, h4, Bool.and_true, Bool.and_false, Bool.or_true, Bool.or_false]), ?_⟩
    repeat (first | exact Below.refl _ _ | assumption | refine Below.alloc ?_ (by simp <;> omega) _ | refine Below.setCell ?_ (by simp <;> omega) _ | refine Below.drew ?_)
set_option maxHeartbeats 2000000 in
theorem implEnd_any (p : Segment) (a : Int) (w : World) :
    Calls Try.prog 58 #[.agg #[.int .i64 p.a, .int .i64 p.b, .int .i64 p.depth, .int .i64 p.mins, .bool p.meet], .int .i64 a] w fun e w' => e = .returned (.int .i64 (otherV p a)) ∧ Below w.heap.size w w' := by
  obtain ⟨x, y, d, m, t⟩ := p
  cases h1 : (a == x) <;> cases h2 : (a == y)
  all_goals
    go_enter Try.func58, Try.ntmps58
    go_wp2_with fail
    go_ret
    refine ⟨ret_int (by simp [otherV, h1, h2]), ?_⟩
    repeat (first | exact Below.refl _ _ | assumption | refine Below.alloc ?_ (by simp <;> omega) _ | refine Below.setCell ?_ (by simp <;> omega) _ | refine Below.drew ?_)
set_option maxHeartbeats 2000000 in
theorem specOther_any (p : Segment) (a : Int) (w : World) :
    Calls Try.prog 57 #[.agg #[.int .i64 p.a, .int .i64 p.b, .int .i64 p.depth, .int .i64 p.mins, .bool p.meet], .int .i64 a] w fun e w' => e = .returned (.int .i64 (otherV p a)) ∧ Below w.heap.size w w' := by
  obtain ⟨x, y, d, m, t⟩ := p
  cases h1 : (a == x) <;> cases h2 : (a == y)
  all_goals
    go_enter Try.func57, Try.ntmps57
    go_wp2_with fail
    go_ret
    refine ⟨ret_int (by simp [otherV, h1, h2]), ?_⟩
    repeat (first | exact Below.refl _ _ | assumption | refine Below.alloc ?_ (by simp <;> omega) _ | refine Below.setCell ?_ (by simp <;> omega) _ | refine Below.drew ?_)

set_option maxHeartbeats 2000000 in
theorem implPointNamed_any (A A' : Option Addr) (c c' : Nat) (ps : List Point) (ss : List Segment) (n : ByteArray) (w : World) (hr : Rd w w.heap.size Point.at_ 2 A ps) (_hr' : Rd w w.heap.size Segment.at_ 5 A' ss) (_hwf : ∀ p ∈ ps, p.wf) (_hwf' : ∀ p ∈ ss, p.wf) (hlen : ps.length ≤ 1048576) (_hlen' : ss.length ≤ 1048576) (_hcap : ss.length ≤ c') :
    Calls Try.prog 16 #[.agg #[.slice A ps.length c, .slice A' ss.length c'], .string n] w fun e w' => e = .returned (.int .i64 (pointAt ps n)) ∧ Below w.heap.size w w' := by
  unfold pointAt
  go_enter Try.func16, Try.ntmps16
  go_wp2_with fail
  go_loopw [10] (fun i wr => ∃ k : Nat, k ≤ ps.length ∧ i = .int .i64 k ∧ findI (nameAt n) 0 ps = findI (nameAt n) k (ps.drop k) ∧ Below w.heap.size w wr) (fun i _ => ps.length - (intOf i).toNat)
  case atStart => exact ⟨0, Nat.zero_le _, rfl, rfl, (Below.refl _ _).alloc (Nat.le_refl _) _⟩
  case round =>
    obtain ⟨k, hk, rfl, hno, hbel⟩ := hrel
    have hs := hbel.size
    have HN := Lib.hid hno
    clear hno
    by_cases hlt : k < ps.length
    · obtain ⟨g, off, rfl, hg, hc⟩ := hr (by omega)
      obtain ⟨p, hp⟩ : ∃ p, ps[k]? = some p := ⟨_, List.getElem?_eq_getElem hlt⟩
      have c0 := (hbel.cell (p := ⟨g, off + k * 2 + 0, none⟩) hg).trans (hc k p hp 0 (by omega))
      have c1 := (hbel.cell (p := ⟨g, off + k * 2 + 1, none⟩) hg).trans (hc k p hp 1 (by omega))
      simp only [Point.at_, Nat.add_zero] at c0 c1
      have HC := Lib.hid hc
      have HR := Lib.hid hr
      have HP := Lib.hid hp
      clear hc hr hp
      by_cases t : p.name = n
      · have HX := Lib.hid (findI_hit HN.out HP.out (by simp [nameAt, t]))
        have t2 := str_same t
        clear t
        go_wp2_with fail
        go_ret
        exact ⟨ret_int HX.out.symm, hbel.alloc hs _⟩
      · have HX := Lib.hid (findI_miss HN.out HP.out (by simp [nameAt, t]))
        have t2 := str_diff t
        clear t
        go_wp2_with fail
        go_roundw
        case rel => exact ⟨k + 1, by omega, by go_num, HX.out, hbel.alloc hs _⟩
        case measure => simp [intOf]; omega
    · have hk' : k = ps.length := by omega
      subst hk'
      have HX := Lib.hid (findI_done HN.out)
      go_wp2_with fail
      go_ret
      exact ⟨ret_int HX.out.symm, hbel⟩
set_option maxHeartbeats 2000000 in
theorem specPointNamed_any (A A' : Option Addr) (c c' : Nat) (ps : List Point) (ss : List Segment) (n : ByteArray) (w : World) (hr : Rd w w.heap.size Point.at_ 2 A ps) (_hr' : Rd w w.heap.size Segment.at_ 5 A' ss) (_hwf : ∀ p ∈ ps, p.wf) (_hwf' : ∀ p ∈ ss, p.wf) (hlen : ps.length ≤ 1048576) (_hlen' : ss.length ≤ 1048576) (_hcap : ss.length ≤ c') :
    Calls Try.prog 14 #[.agg #[.slice A ps.length c, .slice A' ss.length c'], .string n] w fun e w' => e = .returned (.int .i64 (pointAt ps n)) ∧ Below w.heap.size w w' := by
  unfold pointAt
  go_enter Try.func14, Try.ntmps14
  go_wp2_with fail
  go_loopw [10] (fun i wr => ∃ k : Nat, k ≤ ps.length ∧ i = .int .i64 k ∧ findI (nameAt n) 0 ps = findI (nameAt n) k (ps.drop k) ∧ Below w.heap.size w wr) (fun i _ => ps.length - (intOf i).toNat)
  case atStart => exact ⟨0, Nat.zero_le _, rfl, rfl, (Below.refl _ _).alloc (Nat.le_refl _) _⟩
  case round =>
    obtain ⟨k, hk, rfl, hno, hbel⟩ := hrel
    have hs := hbel.size
    have HN := Lib.hid hno
    clear hno
    by_cases hlt : k < ps.length
    · obtain ⟨g, off, rfl, hg, hc⟩ := hr (by omega)
      obtain ⟨p, hp⟩ : ∃ p, ps[k]? = some p := ⟨_, List.getElem?_eq_getElem hlt⟩
      have c0 := (hbel.cell (p := ⟨g, off + k * 2 + 0, none⟩) hg).trans (hc k p hp 0 (by omega))
      have c1 := (hbel.cell (p := ⟨g, off + k * 2 + 1, none⟩) hg).trans (hc k p hp 1 (by omega))
      simp only [Point.at_, Nat.add_zero] at c0 c1
      have HC := Lib.hid hc
      have HR := Lib.hid hr
      have HP := Lib.hid hp
      clear hc hr hp
      by_cases t : p.name = n
      · have HX := Lib.hid (findI_hit HN.out HP.out (by simp [nameAt, t]))
        have t2 := str_same t
        clear t
        go_wp2_with fail
        go_ret
        exact ⟨ret_int HX.out.symm, hbel.alloc hs _⟩
      · have HX := Lib.hid (findI_miss HN.out HP.out (by simp [nameAt, t]))
        have t2 := str_diff t
        clear t
        go_wp2_with fail
        go_roundw
        case rel => exact ⟨k + 1, by omega, by go_num, HX.out, hbel.alloc hs _⟩
        case measure => simp [intOf]; omega
    · have hk' : k = ps.length := by omega
      subst hk'
      have HX := Lib.hid (findI_done HN.out)
      go_wp2_with fail
      go_ret
      exact ⟨ret_int HX.out.symm, hbel⟩
end Go.Proofs.Ytjmfgncakegjaaa
