/-
  The contracts of the surge of a minute, the program's and the reference's.
-/
import Derived.Test.YtmhiohijpnmcpaaForeL
namespace Go.Proofs.Ytmhiohijpnmcpaa
open Go.RowKit

set_option maxHeartbeats 2000000 in
theorem implSurge_any (m : Int) (A A' : Option Addr) (c c' : Nat) (ps : List Part) (ss : List Surge) (t : Int) (w : World) (hr' : Rd w w.heap.size Surge.at_ 3 A' ss) (hlen' : ss.length ≤ 1048576) :
    Calls Try.prog 60 #[.agg #[.int .i64 m, .slice A ps.length c, .slice A' ss.length c'], .int .i64 t] w fun e w' => e = .returned (.int .i64 ((surgeIx ss t ss.length : Nat) : Int)) ∧ Below w.heap.size w w' := by
  have hB0 : Below w.heap.size w (w.alloc (.cells #[.int .i64 m, .slice A ps.length c, .slice A' ss.length c'] 35)) := (Below.refl _ _).alloc (Nat.le_refl _) _
  go_enter Try.func60, Try.ntmps60
  go_wp2_with fail
  go_loopw [5, 11] (fun at_ i wr => ∃ k : Nat, k ≤ ss.length ∧ i = .int .i64 k ∧ at_ = .int .i64 ((surgeIx ss t k : Nat) : Int) ∧ Below w.heap.size w wr) (fun _ i _ => ss.length - (intOf i).toNat)
  case atStart => exact ⟨0, Nat.zero_le _, rfl, rfl, hB0⟩
  case round =>
    clear hB0
    obtain ⟨k, hk, rfl, rfl, hbel⟩ := hrel
    have hs := hbel.size
    by_cases hlt : k < ss.length
    · obtain ⟨g, off, rfl, hg, hc⟩ := hr' (by omega)
      obtain ⟨p, hp⟩ : ∃ p, ss[k]? = some p := ⟨_, List.getElem?_eq_getElem hlt⟩
      have c0 := (hbel.cell (p := ⟨g, off + k * 3 + 0, none⟩) hg).trans (hc k p hp 0 (by omega))
      have c1 := (hbel.cell (p := ⟨g, off + k * 3 + 1, none⟩) hg).trans (hc k p hp 1 (by omega))
      have c2 := (hbel.cell (p := ⟨g, off + k * 3 + 2, none⟩) hg).trans (hc k p hp 2 (by omega))
      simp only [Surge.at_, Nat.add_zero] at c0 c1 c2
      have HC := Lib.hid hc
      have HR' := Lib.hid hr'
      have HP := Lib.hid hp
      clear hc hr' hp
      by_cases hle : p.frm ≤ t
      · have HX : Hid (surgeIx ss t (k + 1) = k) := Lib.hid (lastI_yes HP.out (by simp [atB, hle]))
        go_wp2_with fail
        go_roundw
        case rel => exact ⟨k + 1, by omega, by go_num, by rw [HX.out], hbel.alloc hs _⟩
        case measure => simp [intOf]; omega
      · have HX : Hid (surgeIx ss t (k + 1) = surgeIx ss t k) := Lib.hid (lastI_no HP.out (by simp [atB, hle]))
        go_wp2_with fail
        go_roundw
        case rel => exact ⟨k + 1, by omega, by go_num, by rw [HX.out], hbel.alloc hs _⟩
        case measure => simp [intOf]; omega
    · have hk' : k = ss.length := by omega
      subst hk'
      go_wp2_with fail
      go_ret
      exact ⟨rfl, hbel⟩

set_option maxHeartbeats 2000000 in
theorem specSurge_any (m : Int) (A A' : Option Addr) (c c' : Nat) (ps : List Part) (ss : List Surge) (t : Int) (w : World) (hr' : Rd w w.heap.size Surge.at_ 3 A' ss) (hlen' : ss.length ≤ 1048576) (h1 : 1 ≤ ss.length) :
    Calls Try.prog 58 #[.agg #[.int .i64 m, .slice A ps.length c, .slice A' ss.length c'], .int .i64 t] w fun e w' => e = .returned (.agg #[.int .i64 (surgeV ss t).frm, .int .i64 (surgeV ss t).low, .int .i64 (surgeV ss t).high]) ∧ Below w.heap.size w w' := by
  have hB0 : Below w.heap.size w (w.alloc (.cells #[.int .i64 m, .slice A ps.length c, .slice A' ss.length c'] 35)) := (Below.refl _ _).alloc (Nat.le_refl _) _
  obtain ⟨g, off, rfl, hg, hc⟩ := hr' (by omega)
  obtain ⟨z, hz⟩ : ∃ z, ss[0]? = some z := ⟨_, List.getElem?_eq_getElem (by omega)⟩
  have z0 := (hB0.cell (p := ⟨g, off + 0 * 3 + 0, none⟩) hg).trans (hc 0 z hz 0 (by omega))
  have z1 := (hB0.cell (p := ⟨g, off + 0 * 3 + 1, none⟩) hg).trans (hc 0 z hz 1 (by omega))
  have z2 := (hB0.cell (p := ⟨g, off + 0 * 3 + 2, none⟩) hg).trans (hc 0 z hz 2 (by omega))
  simp only [Surge.at_, Nat.add_zero, Nat.zero_mul] at z0 z1 z2
  have HZ := Lib.hid hz
  have HR' := Lib.hid hr'
  have HC := Lib.hid hc
  have hk1 : ∀ o1 cs2 cs3, Blk (((w.alloc o1).alloc (.cells cs2 66)).alloc (.cells cs3 66)) (w.heap.size + 1) 66 cs2 := fun o1 cs2 cs3 => by
    have := (Blk.new (w.alloc o1) 66 cs2).alloc (.cells cs3 66)
    simpa using this
  have hk2 : ∀ o1 o2 cs3, Blk (((w.alloc o1).alloc o2).alloc (.cells cs3 66)) (w.heap.size + 1 + 1) 66 cs3 := fun o1 o2 cs3 => by
    have := Blk.new ((w.alloc o1).alloc o2) 66 cs3
    simpa using this
  have hBA : ∀ o1 o2 o3, Below w.heap.size w (((w.alloc o1).alloc o2).alloc o3) := fun o1 o2 o3 => (((Below.refl _ _).alloc (Nat.le_refl _) _).alloc (by simp) _).alloc (by simp; omega) _
  have HK1 := Lib.hid hk1
  have HK2 := Lib.hid hk2
  have HBA := Lib.hid hBA
  clear hr' hc hz hk1 hk2 hBA
  go_enter Try.func58, Try.ntmps58
  go_wp2_with fail
  clear z0 z1 z2
  go_loopw [15] (fun i wr => ∃ k : Nat, k ≤ ss.length ∧ i = .int .i64 k ∧ (∃ q : Surge, ss[surgeIx ss t k]? = some q ∧ Blk wr (w.heap.size + 1 + 1) 66 #[.int .i64 q.frm, .int .i64 q.low, .int .i64 q.high]) ∧ Blk wr (w.heap.size + 1) 66 #[.int .i64 0, .int .i64 0, .int .i64 0] ∧ Below w.heap.size w wr) (fun i _ => ss.length - (intOf i).toNat)
  case atStart => exact ⟨0, Nat.zero_le _, rfl, ⟨z, HZ.out, HK2.out _ _ _⟩, HK1.out _ _ _, HBA.out _ _ _⟩
  case round =>
    clear hB0
    obtain ⟨k, hk, rfl, ⟨q, hq, hqk⟩, hrk, hbel⟩ := hrel
    have hs := hbel.size
    have HQ := Lib.hid hq
    clear hq
    by_cases hlt : k < ss.length
    · have hc := HC.out
      have hr' := HR'.out
      obtain ⟨p, hp⟩ : ∃ p, ss[k]? = some p := ⟨_, List.getElem?_eq_getElem hlt⟩
      have c0 := (hbel.cell (p := ⟨g, off + k * 3 + 0, none⟩) hg).trans (hc k p hp 0 (by omega))
      have c1 := (hbel.cell (p := ⟨g, off + k * 3 + 1, none⟩) hg).trans (hc k p hp 1 (by omega))
      have c2 := (hbel.cell (p := ⟨g, off + k * 3 + 2, none⟩) hg).trans (hc k p hp 2 (by omega))
      simp only [Surge.at_, Nat.add_zero] at c0 c1 c2
      have HC := Lib.hid hc
      have HR' := Lib.hid hr'
      have HP := Lib.hid hp
      clear hc hr' hp
      have hB2 := hbel.alloc hs (.cells #[.int .i64 p.frm, .int .i64 p.low, .int .i64 p.high] 66)
      have hq2 := hqk.alloc (.cells #[.int .i64 p.frm, .int .i64 p.low, .int .i64 p.high] 66)
      have hr2 := hrk.alloc (.cells #[.int .i64 p.frm, .int .i64 p.low, .int .i64 p.high] 66)
      have e0 := hq2.cell 0
      have e1 := hq2.cell 1
      have e2 := hq2.cell 2
      have g0 := hq2.frozen 0
      have g1 := hq2.frozen 1
      have g2 := hq2.frozen 2
      by_cases hle : p.frm ≤ t
      · have HX : Hid (surgeIx ss t (k + 1) = k) := Lib.hid (lastI_yes HP.out (by simp [atB, hle]))
        go_wp2_with fail
        go_roundw
        case rel =>
          refine ⟨k + 1, by omega, by go_num, ⟨p, by rw [HX.out]; exact HP.out, ?_⟩, ?_, ?_⟩
          · exact ((hq2.set_ 0 (.int .i64 p.frm)).set_ 1 (.int .i64 p.low)).set_ 2 (.int .i64 p.high)
          · exact ((hr2.far (by show w.heap.size + 1 ≠ w.heap.size + 1 + 1; omega) _).far (by show w.heap.size + 1 ≠ w.heap.size + 1 + 1; omega) _).far (by show w.heap.size + 1 ≠ w.heap.size + 1 + 1; omega) _
          · exact ((hB2.setCell (by show w.heap.size ≤ w.heap.size + 1 + 1; omega) _).setCell (by show w.heap.size ≤ w.heap.size + 1 + 1; omega) _).setCell (by show w.heap.size ≤ w.heap.size + 1 + 1; omega) _
        case measure => simp [intOf]; omega
      · have HX : Hid (surgeIx ss t (k + 1) = surgeIx ss t k) := Lib.hid (lastI_no HP.out (by simp [atB, hle]))
        go_wp2_with fail
        go_roundw
        case rel => exact ⟨k + 1, by omega, by go_num, ⟨q, by rw [HX.out]; exact HQ.out, hq2⟩, hr2, hB2⟩
        case measure => simp [intOf]; omega
    · have hk' : k = ss.length := by omega
      subst hk'
      have HV := Lib.hid (surgeV_at rfl HQ.out)
      have e0 := hqk.cell 0
      have e1 := hqk.cell 1
      have e2 := hqk.cell 2
      have r0 := hrk.cell 0
      have r1 := hrk.cell 1
      have r2 := hrk.cell 2
      have g0 := hrk.frozen 0
      have g1 := hrk.frozen 1
      have g2 := hrk.frozen 2
      go_wp2_with fail
      refine bodyPost_ret (v := .agg #[.int .i64 q.frm, .int .i64 q.low, .int .i64 q.high]) ?_ rfl ?_
      · simp [results, Try.results58, go_sem, r0, r1, r2]
      · exact ⟨by rw [HV.out], ((hbel.setCell (by show w.heap.size ≤ w.heap.size + 1; omega) _).setCell (by show w.heap.size ≤ w.heap.size + 1; omega) _).setCell (by show w.heap.size ≤ w.heap.size + 1; omega) _⟩

end Go.Proofs.Ytmhiohijpnmcpaa
