/-
  The contracts of ChartOk, the program's and the reference's. Printed by a program of the claim's author.
-/
import Derived.Test.YtjmfgncakegjaaaChart1
import Derived.Test.YtjmfgncakegjaaaChartL
namespace Go.Proofs.Ytjmfgncakegjaaa
open Go.RowKit

set_option maxHeartbeats 4000000 in
theorem implChartOk_any (A A' : Option Addr) (c c' : Nat) (ps : List Point) (ss : List Segment) (w : World) (hr : Rd w w.heap.size Point.at_ 2 A ps) (hr' : Rd w w.heap.size Segment.at_ 5 A' ss) (hwf : ∀ p ∈ ps, p.wf) (hwf' : ∀ p ∈ ss, p.wf) (hlen : ps.length ≤ 1048576) (hlen' : ss.length ≤ 1048576) (hcap : ss.length ≤ c') :
    Calls Try.prog 19 #[.agg #[.slice A ps.length c, .slice A' ss.length c']] w fun e w' => e = .returned (.bool (chartOk ps ss)) ∧ Below w.heap.size w w' := by
  have hk0 := Blk.new w 31 #[.slice A ps.length c, .slice A' ss.length c']
  have hB0 : Below w.heap.size w (w.alloc (.cells #[.slice A ps.length c, .slice A' ss.length c'] 31)) := (Below.refl _ _).alloc (Nat.le_refl _) _
  by_cases h8 : 8 < ps.length
  · go_enter Try.func19, Try.ntmps19
    go_wp2_with fail
    go_ret
    exact ⟨ret_bool (by simp [chartOk]; omega), hB0⟩
  by_cases h10 : 10 < ss.length
  · go_enter Try.func19, Try.ntmps19
    go_wp2_with fail
    go_ret
    exact ⟨ret_bool (by simp [chartOk]; omega), hB0⟩
  have h8' : ps.length ≤ 8 := by omega
  have h10' : ss.length ≤ 10 := by omega
  have HW := Lib.hid hwf'
  clear h8 h10 hwf'
  go_enter Try.func19, Try.ntmps19
  go_wp2_with fail
  go_loopw [22] (fun i wr => ∃ k : Nat, k ≤ ps.length ∧ i = .int .i64 k ∧ allI (ptF ps) 0 ps = allI (ptF ps) k (ps.drop k) ∧ Blk wr w.heap.size 31 #[.slice A ps.length c, .slice A' ss.length c'] ∧ Below w.heap.size w wr) (fun i _ => ps.length - (intOf i).toNat)
  case atStart => exact ⟨0, Nat.zero_le _, rfl, rfl, hk0, hB0⟩
  case round =>
    obtain ⟨k, hk, rfl, hno, hkr, hbel⟩ := hrel
    have hs := hbel.size
    have HN := Lib.hid hno
    clear hno hk0 hB0
    by_cases hlt : k < ps.length
    · obtain ⟨g, off, rfl, hg, hc⟩ := hr (by omega)
      obtain ⟨p, hp⟩ : ∃ p, ps[k]? = some p := ⟨_, List.getElem?_eq_getElem hlt⟩
      have c0 := (hbel.cell (p := ⟨g, off + k * 2 + 0, none⟩) hg).trans (hc k p hp 0 (by omega))
      have c1 := (hbel.cell (p := ⟨g, off + k * 2 + 1, none⟩) hg).trans (hc k p hp 1 (by omega))
      simp only [Point.at_, Nat.add_zero] at c0 c1
      have HC := Lib.hid hc
      have HR := Lib.hid hr
      have HP := Lib.hid hp
      clear hc hr hp
      have hnm := (hwf p (List.mem_of_getElem? HP.out)).1
      unfold maxLen at hnm
      have hnm' : p.name.size ≤ 9223372036854775807 := by omega
      clear hnm
      have hB1 : Below w.heap.size w (wr.alloc (.cells #[.string p.name, .bool p.wait] 59)) := hbel.alloc hs _
      have hbn := hkr.alloc (.cells #[.string p.name, .bool p.wait] 59)
      have k0 := hbn.cell 0
      have k1 := hbn.cell 1
      have HBN := Lib.hid hbn
      clear hkr hbn
      cases t : nameOk p.name.data.toList
      · have HF := Lib.hid (allI_bad HN.out HP.out (by simp [ptF, t]))
        go_wp2_with (go_at_call 53; refine (implIsName_any _ _ hnm').mono ?_; rintro e w' ⟨rfl, rfl⟩)
        go_ret
        exact ⟨ret_bool (by simp [chartOk, HF.out]), hB1⟩
      by_cases t2 : pointAt ps p.name = (k : Int)
      · have HX := Lib.hid (allI_next HN.out HP.out (by simp [ptF, t, t2]))
        have t3 : (pointAt ps p.name == (k : Int)) = true := by simp [t2]
        have t4 : (pointAt ps p.name != (k : Int)) = false := by simp [t2]
        clear t2
        go_wp2_with (first | (go_at_call 53; refine (implIsName_any _ _ hnm').mono ?_; rintro e w' ⟨rfl, rfl⟩) | (go_at_call 16; refine (implPointNamed_any _ _ _ _ ps ss _ _ ((HR.out.below hB1).more hB1.size) ((hr'.below hB1).more hB1.size) hwf HW.out hlen hlen' hcap).mono ?_; rintro e w2 ⟨rfl, hb2⟩))
        go_roundw
        case rel => exact ⟨k + 1, by omega, by go_num, HX.out, HBN.out.next hb2, hB1.trans (hb2.mono hB1.size)⟩
        case measure => simp [intOf]; omega
      · have HX := Lib.hid (allI_bad HN.out HP.out (by simp [ptF, t2]))
        have t3 : (pointAt ps p.name == (k : Int)) = false := by simp [t2]
        have t4 : (pointAt ps p.name != (k : Int)) = true := by simp [t2]
        clear t2
        go_wp2_with (first | (go_at_call 53; refine (implIsName_any _ _ hnm').mono ?_; rintro e w' ⟨rfl, rfl⟩) | (go_at_call 16; refine (implPointNamed_any _ _ _ _ ps ss _ _ ((HR.out.below hB1).more hB1.size) ((hr'.below hB1).more hB1.size) hwf HW.out hlen hlen' hcap).mono ?_; rintro e w2 ⟨rfl, hb2⟩))
        go_ret
        exact ⟨ret_bool (by simp [chartOk, HX.out]), hB1.trans (hb2.mono hB1.size)⟩
    · have hk' : k = ps.length := by omega
      subst hk'
      have H1 := Lib.hid (allI_done HN.out)
      have c0 := hkr.cell 0
      have c1 := hkr.cell 1
      clear HN hlt hk hr hwf hlen
      go_wp2_with fail
      clear c0 c1
      go_loopw [43] (fun i wr => ∃ k : Nat, k ≤ ss.length ∧ i = .int .i64 k ∧ allI (sgF ps.length ss) 0 ss = allI (sgF ps.length ss) k (ss.drop k) ∧ Blk wr w.heap.size 31 #[.slice A ps.length c, .slice A' ss.length c'] ∧ Below w.heap.size w wr) (fun i _ => ss.length - (intOf i).toNat)
      case atStart => exact ⟨0, Nat.zero_le _, rfl, rfl, hkr, hbel⟩
      case round =>
        clear hkr hbel hs
        obtain ⟨k, hk, rfl, hno, hkr, hbel⟩ := hrel
        obtain ⟨wo, rfl⟩ : ∃ wo : World, wo = wr := ⟨_, rfl⟩
        have hs := hbel.size
        have HN := Lib.hid hno
        clear hno
        by_cases hlt : k < ss.length
        · obtain ⟨g, off, rfl, hg, hc⟩ := hr' (by omega)
          obtain ⟨p, hp⟩ : ∃ p, ss[k]? = some p := ⟨_, List.getElem?_eq_getElem hlt⟩
          have c0 := (hbel.cell (p := ⟨g, off + k * 5 + 0, none⟩) hg).trans (hc k p hp 0 (by omega))
          have c1 := (hbel.cell (p := ⟨g, off + k * 5 + 1, none⟩) hg).trans (hc k p hp 1 (by omega))
          have c2 := (hbel.cell (p := ⟨g, off + k * 5 + 2, none⟩) hg).trans (hc k p hp 2 (by omega))
          have c3 := (hbel.cell (p := ⟨g, off + k * 5 + 3, none⟩) hg).trans (hc k p hp 3 (by omega))
          have c4 := (hbel.cell (p := ⟨g, off + k * 5 + 4, none⟩) hg).trans (hc k p hp 4 (by omega))
          simp only [Segment.at_, Nat.add_zero] at c0 c1 c2 c3 c4
          have HC := Lib.hid hc
          have HR' := Lib.hid hr'
          have HP := Lib.hid hp
          clear hc hr' hp
          have hB1 : Below w.heap.size w (wo.alloc (.cells #[.int .i64 p.a, .int .i64 p.b, .int .i64 p.depth, .int .i64 p.mins, .bool p.meet] 69)) := hbel.alloc hs _
          have hbn := hkr.alloc (.cells #[.int .i64 p.a, .int .i64 p.b, .int .i64 p.depth, .int .i64 p.mins, .bool p.meet] 69)
          have hqn := Blk.new wo 69 #[.int .i64 p.a, .int .i64 p.b, .int .i64 p.depth, .int .i64 p.mins, .bool p.meet]
          have k0 := hbn.cell 0
          have k1 := hbn.cell 1
          have HBN := Lib.hid hbn
          have HQN := Lib.hid hqn
          clear hkr hbn hqn
          cases t1 : idxB p.a ps.length
          · have HF := Lib.hid (allI_bad HN.out HP.out (by simp [sgF, segOk, ← idxB_inB, t1]))
            go_wp2_with (first | (go_at_call 54; refine (isIndex_any _ _ _).mono ?_; rintro e w' ⟨rfl, rfl⟩) | (go_at_call 55; refine (within_any _ _ _ _).mono ?_; rintro e w' ⟨rfl, rfl⟩))
            go_ret
            exact ⟨ret_bool (by simp [chartOk, HF.out]), hB1⟩
          cases t2 : idxB p.b ps.length
          · have HF := Lib.hid (allI_bad HN.out HP.out (by simp [sgF, segOk, ← idxB_inB, t2]))
            go_wp2_with (first | (go_at_call 54; refine (isIndex_any _ _ _).mono ?_; rintro e w' ⟨rfl, rfl⟩) | (go_at_call 55; refine (within_any _ _ _ _).mono ?_; rintro e w' ⟨rfl, rfl⟩))
            go_ret
            exact ⟨ret_bool (by simp [chartOk, HF.out]), hB1⟩
          cases t3 : (p.a == p.b)
          case true =>
            have HF := Lib.hid (allI_bad HN.out HP.out (by simp [sgF, segOk, t3]))
            go_wp2_with (first | (go_at_call 54; refine (isIndex_any _ _ _).mono ?_; rintro e w' ⟨rfl, rfl⟩) | (go_at_call 55; refine (within_any _ _ _ _).mono ?_; rintro e w' ⟨rfl, rfl⟩))
            go_ret
            exact ⟨ret_bool (by simp [chartOk, HF.out]), hB1⟩
          cases t4 : inB p.depth 0 3000
          · have HF := Lib.hid (allI_bad HN.out HP.out (by simp [sgF, segOk, t4]))
            go_wp2_with (first | (go_at_call 54; refine (isIndex_any _ _ _).mono ?_; rintro e w' ⟨rfl, rfl⟩) | (go_at_call 55; refine (within_any _ _ _ _).mono ?_; rintro e w' ⟨rfl, rfl⟩))
            go_ret
            exact ⟨ret_bool (by simp [chartOk, HF.out]), hB1⟩
          cases t5 : inB p.mins 1 240
          · have HF := Lib.hid (allI_bad HN.out HP.out (by simp [sgF, segOk, t5]))
            go_wp2_with (first | (go_at_call 54; refine (isIndex_any _ _ _).mono ?_; rintro e w' ⟨rfl, rfl⟩) | (go_at_call 55; refine (within_any _ _ _ _).mono ?_; rintro e w' ⟨rfl, rfl⟩))
            go_ret
            exact ⟨ret_bool (by simp [chartOk, HF.out]), hB1⟩
          have hso : segOk ps.length p = true := by simp only [segOk, ← idxB_inB, t1, t2, t3, t4, t5, Bool.not_false, Bool.and_true]
          have HSO := Lib.hid hso
          clear hso
          go_wp2_with (first | (go_at_call 54; refine (isIndex_any _ _ _).mono ?_; rintro e w' ⟨rfl, rfl⟩) | (go_at_call 55; refine (within_any _ _ _ _).mono ?_; rintro e w' ⟨rfl, rfl⟩))
          clear c0 c1 c2 c3 c4 k0 k1
          go_loopw [88] (fun i wr => ∃ j : Nat, j ≤ k ∧ i = .int .i64 j ∧ ((ss.take j).any fun o => joinsB o p.a p.b) = false ∧ Blk wr w.heap.size 31 #[.slice A ps.length c, .slice (some ⟨g, off, none⟩) ss.length c'] ∧ Blk wr wo.heap.size 69 #[.int .i64 p.a, .int .i64 p.b, .int .i64 p.depth, .int .i64 p.mins, .bool p.meet] ∧ Below w.heap.size w wr) (fun i _ => k - (intOf i).toNat)
          case atStart => exact ⟨0, Nat.zero_le _, rfl, by simp, HBN.out, HQN.out, hB1⟩
          case round =>
            clear hB1 hbel hs
            obtain ⟨j, hj, rfl, hany, hk2, hq2, hbel2⟩ := hrel
            have hs2 := hbel2.size
            have HA := Lib.hid hany
            clear hany
            by_cases hlt2 : j < k
            · obtain ⟨q, hq⟩ : ∃ q, ss[j]? = some q := ⟨_, List.getElem?_eq_getElem (by omega)⟩
              have d0 := (hbel2.cell (p := ⟨g, off + j * 5 + 0, none⟩) hg).trans (HC.out j q hq 0 (by omega))
              have d1 := (hbel2.cell (p := ⟨g, off + j * 5 + 1, none⟩) hg).trans (HC.out j q hq 1 (by omega))
              have d2 := (hbel2.cell (p := ⟨g, off + j * 5 + 2, none⟩) hg).trans (HC.out j q hq 2 (by omega))
              have d3 := (hbel2.cell (p := ⟨g, off + j * 5 + 3, none⟩) hg).trans (HC.out j q hq 3 (by omega))
              have d4 := (hbel2.cell (p := ⟨g, off + j * 5 + 4, none⟩) hg).trans (HC.out j q hq 4 (by omega))
              simp only [Segment.at_, Nat.add_zero] at d0 d1 d2 d3 d4
              have hB2 : Below w.heap.size w (wr.alloc (.cells #[.int .i64 q.a, .int .i64 q.b, .int .i64 q.depth, .int .i64 q.mins, .bool q.meet] 69)) := hbel2.alloc hs2 _
              have hqa := hq2.alloc (.cells #[.int .i64 q.a, .int .i64 q.b, .int .i64 q.depth, .int .i64 q.mins, .bool q.meet] 69)
              have hka := hk2.alloc (.cells #[.int .i64 q.a, .int .i64 q.b, .int .i64 q.depth, .int .i64 q.mins, .bool q.meet] 69)
              have e0 := hqa.cell 0
              have e1 := hqa.cell 1
              have HQ := Lib.hid hq
              clear hq
              cases tj : joinsB q p.a p.b
              · have HX := Lib.hid (any_next (f := fun o => joinsB o p.a p.b) HA.out HQ.out tj)
                go_wp2_with (go_at_call 56; refine (implJoins_any q _ _ _).mono ?_; rintro e w3 ⟨rfl, hb3⟩)
                go_roundw
                case rel => exact ⟨j + 1, by omega, by go_num, HX.out, hka.next hb3, hqa.next hb3, hB2.trans (hb3.mono hB2.size)⟩
                case measure => simp [intOf]; omega
              · have HX := Lib.hid (allI_bad HN.out HP.out (by simp [sgF, any_hit (f := fun o => joinsB o p.a p.b) hlt2 HQ.out tj]))
                go_wp2_with (go_at_call 56; refine (implJoins_any q _ _ _).mono ?_; rintro e w3 ⟨rfl, hb3⟩)
                go_ret
                exact ⟨ret_bool (by simp [chartOk, HX.out]), hB2.trans (hb3.mono hB2.size)⟩
            · have hjk : j = k := by omega
              subst hjk
              have HX := Lib.hid (allI_next HN.out HP.out (by simp [sgF, HSO.out, HA.out]))
              go_wp2_with fail
              go_roundw
              case rel => exact ⟨j + 1, by omega, by go_num, HX.out, hk2, hbel2⟩
              case measure => simp [intOf]; omega
        · have hk' : k = ss.length := by omega
          subst hk'
          have H2 := Lib.hid (allI_done HN.out)
          go_wp2_with fail
          go_ret
          exact ⟨ret_bool (by simp [chartOk, H1.out, H2.out, h8', h10']), hbel⟩

end Go.Proofs.Ytjmfgncakegjaaa
