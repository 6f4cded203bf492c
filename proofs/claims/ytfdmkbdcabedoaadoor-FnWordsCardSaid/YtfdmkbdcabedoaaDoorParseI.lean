/-
  The contract of ParseInt, the program's.
-/
import Derived.Test.YtfdmkbdcabedoaaDoorModelPI
import Derived.Test.YtfdmkbdcabedoaaDoorFmtN
import Derived.Test.YtfdmkbdcabedoaaDoorLaidP
import Derived.Test.YtfdmkbdcabedoaaDoorScal
namespace Go.Proofs.YtfdmkbdcabedoaaDoor
open Go.RowKit

set_option maxHeartbeats 4000000 in
theorem implParseInt_any (s : ByteArray) (w : World) (hs : s.size ≤ 1048576) (htab : Lib.TabIs Tryd.prog w "internal/strconv.uint64pow10" .u64 Lib.pow10Tab) (t1 t2 : TypeId) (p1 p2 : Value)
    (hv1 : w.var? Tryd.prog "strconv.ErrSyntax" = some #[.iface t1 p1]) (hv2 : w.var? Tryd.prog "strconv.ErrRange" = some #[.iface t2 p2]) :
    Calls Tryd.prog 9 #[.string s] w fun e w' => ∃ n b, e = .returned (.tuple #[.int .i64 n, .bool b]) ∧ ParseRes s.data.toList n b ∧ Below w.heap.size w w' := by
  have HT := Lib.hid (Lib.tabBelow_of_tabIs htab)
  cases ha : Lib.atoiAll s.data.toList
  · rename_i v
    have hb := Lib.atoiAll_bounds ha
    have HC := Lib.hid (Tryd.strconv_Atoi_ok s (by omega) v ha w)
    obtain ⟨S, hS⟩ : ∃ S : ByteArray, S = ⟨(Lib.itoa v).toArray⟩ := ⟨_, rfl⟩
    have HC2 : Hid (∀ W, Below w.heap.size w W → Calls Tryd.prog 16 #[.int .i64 v] W fun e w' => e = .returned (.string S) ∧ Below W.heap.size W w') := Lib.hid fun W h => by
      rw [hS]
      refine (Tryd.strconv_Itoa v hb.1 hb.2 W (HT.out.on h).here).mono ?_
      rintro e w1 ⟨rfl, k, os, hw⟩
      rw [hw]
      exact ⟨rfl, Lib.below_grow _ _ (Nat.le_refl _) _ _⟩
    have HS := Lib.hid hS
    have HA := Lib.hid ha
    have HB := Lib.hid hb
    have hp : ∀ k : Bool, k = true → (S.toList == s.toList) = true → ParseRes s.data.toList v true := fun _ _ h => by
      refine ParseRes.yes hb ?_
      have h1 := beq_iff_eq.1 h
      rw [ByteArray.toList_eq, ByteArray.toList_eq, hS] at h1
      simpa using h1
    have hq : (S.toList == s.toList) = false → ParseRes s.data.toList 0 false := fun h => by
      refine ParseRes.no (no_of_atoi fun v' h' e => ?_)
      rw [ha] at h'
      injection h' with h'
      rw [h'] at hS
      have h1 : S.toList = s.toList := by rw [ByteArray.toList_eq, ByteArray.toList_eq, hS, e]
      rw [h1] at h
      simp at h
    have HP := Lib.hid hp
    have HQ := Lib.hid hq
    clear hS ha hb htab hv1 hv2 hp hq
    cases hc : (S.toList == s.toList)
    all_goals
      go_enter Tryd.func9, Tryd.ntmps9
      go_wp2_with fail
      refine HC.out.mono ?_
      rintro e w1 ⟨rfl, hw⟩
      have hb1 : Below w.heap.size w w1 := by
        rcases hw with rfl | ⟨t, rfl⟩
        · exact Below.refl _ _
        · exact Lib.bytesWorld_below _ _ _
      clear hw
      go_wp2_with fail
      refine (HC2.out _ hb1).mono ?_
      rintro e w2 ⟨rfl, hb2⟩
      have HBW := Lib.hid (hb1.trans (hb2.mono hb1.size))
      go_wp2_with fail
    · refine bodyPost_ret (v := .tuple #[.int .i64 0, .bool false]) ?_ rfl ?_
      · simp [results, Tryd.results9, go_sem]
      · exact ⟨_, _, rfl, HQ.out hc, HBW.out⟩
    · refine bodyPost_ret (v := .tuple #[.int .i64 v, .bool true]) ?_ rfl ?_
      · simp [results, Tryd.results9, go_sem]
      · exact ⟨_, _, rfl, HP.out true rfl hc, HBW.out⟩
  · have HC := Lib.hid (Tryd.strconv_Atoi_syntax_var s (by omega) ha t1 p1 w hv1)
    have HN := Lib.hid (no_of_atoi (l := s.data.toList) fun v h => by rw [ha] at h; cases h)
    clear ha htab hv1 hv2 HT
    go_enter Tryd.func9, Tryd.ntmps9
    go_wp2_with fail
    refine HC.out.mono ?_
    rintro e w1 ⟨N, rfl, _, _, hb1⟩
    go_wp2_with fail
    refine bodyPost_ret (v := .tuple #[.int .i64 0, .bool false]) ?_ rfl ?_
    · simp [results, Tryd.results9, go_sem]
    · exact ⟨_, _, rfl, ParseRes.no HN.out, hb1⟩
  · have HC := Lib.hid (Tryd.strconv_Atoi_range_var s (by omega) ha t2 p2 w hv2)
    have HN := Lib.hid (no_of_atoi (l := s.data.toList) fun v h => by rw [ha] at h; cases h)
    clear ha htab hv1 hv2 HT
    go_enter Tryd.func9, Tryd.ntmps9
    go_wp2_with fail
    refine HC.out.mono ?_
    rintro e w1 ⟨N, rfl, _, _, hb1⟩
    go_wp2_with fail
    refine bodyPost_ret (v := .tuple #[.int .i64 0, .bool false]) ?_ rfl ?_
    · simp [results, Tryd.results9, go_sem]
    · exact ⟨_, _, rfl, ParseRes.no HN.out, hb1⟩

end Go.Proofs.YtfdmkbdcabedoaaDoor
