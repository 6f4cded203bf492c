/-
  The contracts of SameTides, the program's and the reference's.
-/
import Derived.Test.YtmhiohijpnmcpaaTideF
namespace Go.Proofs.Ytmhiohijpnmcpaa
open Go.RowKit

set_option maxHeartbeats 1000000 in
theorem implSameTides_any (m n : Int) (A A' : Option Addr) (c c' : Nat) (ps qs : List Part) (w : World) (hr : Rd w w.heap.size Part.at_ 3 A ps) (hr' : Rd w w.heap.size Part.at_ 3 A' qs) (hlen : ps.length ≤ 1048576) (hlen' : qs.length ≤ 1048576) :
    Calls Try.prog 73 #[.agg #[.int .i64 m, .slice A ps.length c], .agg #[.int .i64 n, .slice A' qs.length c']] w fun e w' => e = .returned (.bool (sameB m n ps qs)) ∧ Below w.heap.size w w' := by
  have hr1 : ∀ o1 o2, Rd ((w.alloc o1).alloc o2) ((w.alloc o1).alloc o2).heap.size Part.at_ 3 A ps := fun o1 o2 => ((hr.alloc (Nat.le_refl _) o1).alloc (by simp) o2).more (by simp; omega)
  have hr2 : ∀ o1 o2, Rd ((w.alloc o1).alloc o2) ((w.alloc o1).alloc o2).heap.size Part.at_ 3 A' qs := fun o1 o2 => ((hr'.alloc (Nat.le_refl _) o1).alloc (by simp) o2).more (by simp; omega)
  have HR1 := Lib.hid hr1
  have HR2 := Lib.hid hr2
  clear hr1 hr2
  cases hmn : (m == n)
  · go_enter Try.func73, Try.ntmps73
    go_wp2_with fail
    go_ret
    refine ⟨ret_bool (by simp [sameB, hmn]), ?_⟩
    repeat (first | exact Below.refl _ _ | assumption | refine Below.alloc ?_ (by simp <;> omega) _ | refine Below.setCell ?_ (by simp <;> omega) _ | refine Below.drew ?_)
  · go_enter Try.func73, Try.ntmps73
    go_wp2_with fail
    refine (equalParts_any _ _ _ _ _ _ _ (HR1.out _ _) (HR2.out _ _) hlen hlen').mono ?_
    rintro e w1 ⟨rfl, hb1⟩
    go_wp2_with fail
    go_ret
    exact ⟨ret_bool (by simp [sameB, hmn]), (((Below.refl _ _).alloc (Nat.le_refl _) _).alloc (by simp) _).trans (hb1.mono (by simp; omega))⟩

set_option maxHeartbeats 2000000 in
theorem specSameTides_any (m n : Int) (A A' : Option Addr) (c c' : Nat) (ps qs : List Part) (w : World) (hr : Rd w w.heap.size Part.at_ 3 A ps) (hr' : Rd w w.heap.size Part.at_ 3 A' qs) (hlen : ps.length ≤ 1048576) (hlen' : qs.length ≤ 1048576) :
    Calls Try.prog 72 #[.agg #[.int .i64 m, .slice A ps.length c], .agg #[.int .i64 n, .slice A' qs.length c']] w fun e w' => e = .returned (.bool (sameB m n ps qs)) ∧ Below w.heap.size w w' := by
  cases hmn : (m == n)
  · have hmn' : (m != n) = true := by simp [bne, hmn]
    go_enter Try.func72, Try.ntmps72
    go_wp2_with fail
    go_ret
    refine ⟨ret_bool (by simp [sameB, hmn]), ?_⟩
    repeat (first | exact Below.refl _ _ | assumption | refine Below.alloc ?_ (by simp <;> omega) _ | refine Below.setCell ?_ (by simp <;> omega) _ | refine Below.drew ?_)
  have hmn' : (m != n) = false := by simp [bne, hmn]
  by_cases hl : ps.length = qs.length
  case neg =>
    have HX := Lib.hid (sameL_no hl)
    have t1 : ((ps.length : Int) == (qs.length : Int)) = false := by simp; omega
    have t2 : ((ps.length : Int) != (qs.length : Int)) = true := by simp; omega
    clear hl
    go_enter Try.func72, Try.ntmps72
    go_wp2_with fail
    go_ret
    refine ⟨ret_bool (by simp [sameB, HX.out]), ?_⟩
    repeat (first | exact Below.refl _ _ | assumption | refine Below.alloc ?_ (by simp <;> omega) _ | refine Below.setCell ?_ (by simp <;> omega) _ | refine Below.drew ?_)
  have HL := Lib.hid hl
  have t1 : ((ps.length : Int) == (qs.length : Int)) = true := by simp; omega
  have t2 : ((ps.length : Int) != (qs.length : Int)) = false := by simp; omega
  clear hl
  have HNE := Lib.hid partNeq
  have hkb : ∀ o cs, Blk ((w.alloc o).alloc (.cells cs 32)) (w.heap.size + 1) 32 cs := fun o cs => by
    have := Blk.new (w.alloc o) 32 cs
    simpa using this
  have HKB := Lib.hid hkb
  clear hkb
  go_enter Try.func72, Try.ntmps72
  go_wp2_with fail
  go_loopw [24] (fun i wr => ∃ k : Nat, k ≤ ps.length ∧ i = .int .i64 k ∧ sameL ps qs = sameL (ps.drop k) (qs.drop k) ∧ Blk wr (w.heap.size + 1) 32 #[.int .i64 n, .slice A' qs.length c'] ∧ Below w.heap.size w wr) (fun i _ => ps.length - (intOf i).toNat)
  case atStart => exact ⟨0, Nat.zero_le _, rfl, rfl, HKB.out _ _, ((Below.refl _ _).alloc (Nat.le_refl _) _).alloc (by simp) _⟩
  case round =>
    obtain ⟨k, hk, rfl, hsm, hblk, hbel⟩ := hrel
    have hs := hbel.size
    have HS := Lib.hid hsm
    clear hsm
    by_cases hlt : k < ps.length
    · have hlq : k < qs.length := by have := HL.out; omega
      obtain ⟨g, off, rfl, hg, hc⟩ := hr (by omega)
      obtain ⟨g', off', rfl, hg', hc'⟩ := hr' (by omega)
      obtain ⟨q, hq⟩ : ∃ q, qs[k]? = some q := ⟨_, List.getElem?_eq_getElem hlq⟩
      have d0 : ∀ o, (wr.alloc o).cell? ⟨g', off' + k * 3 + 0, none⟩ = some (q.at_ 0) := fun o => (World.cell?_alloc_lt wr o _ (by show g' < wr.heap.size; omega)).trans ((hbel.cell (p := ⟨g', off' + k * 3 + 0, none⟩) hg').trans (hc' k q hq 0 (by omega)))
      have d1 : ∀ o, (wr.alloc o).cell? ⟨g', off' + k * 3 + 1, none⟩ = some (q.at_ 1) := fun o => (World.cell?_alloc_lt wr o _ (by show g' < wr.heap.size; omega)).trans ((hbel.cell (p := ⟨g', off' + k * 3 + 1, none⟩) hg').trans (hc' k q hq 1 (by omega)))
      have d2 : ∀ o, (wr.alloc o).cell? ⟨g', off' + k * 3 + 2, none⟩ = some (q.at_ 2) := fun o => (World.cell?_alloc_lt wr o _ (by show g' < wr.heap.size; omega)).trans ((hbel.cell (p := ⟨g', off' + k * 3 + 2, none⟩) hg').trans (hc' k q hq 2 (by omega)))
      have hbl := hblk.lt
      have k1 : ∀ o, (wr.alloc o).cell? ⟨w.heap.size + 1, 1, none⟩ = some (.slice (some ⟨g', off', none⟩) qs.length c') := fun o => (World.cell?_alloc_lt wr o _ (by show w.heap.size + 1 < wr.heap.size; omega)).trans (hblk.cell 1)
      simp only [Part.at_, Nat.add_zero] at d0 d1 d2
      obtain ⟨p, hp⟩ : ∃ p, ps[k]? = some p := ⟨_, List.getElem?_eq_getElem hlt⟩
      have c0 := (hbel.cell (p := ⟨g, off + k * 3 + 0, none⟩) hg).trans (hc k p hp 0 (by omega))
      have c1 := (hbel.cell (p := ⟨g, off + k * 3 + 1, none⟩) hg).trans (hc k p hp 1 (by omega))
      have c2 := (hbel.cell (p := ⟨g, off + k * 3 + 2, none⟩) hg).trans (hc k p hp 2 (by omega))
      simp only [Part.at_, Nat.add_zero] at c0 c1 c2
      have HC := Lib.hid hc
      have HR := Lib.hid hr
      have HP := Lib.hid hp
      clear hc hr hp
      have hk0 : (0 : Int) ≤ (k : Int) := Int.natCast_nonneg _
      have hk1 : (k : Int) < (ps.length : Int) := by omega
      have hk2 : (k : Int) < (qs.length : Int) := by omega
      have hbn := hblk.alloc (.cells #[.int .i64 p.amp, .int .i64 p.period, .int .i64 p.phase] 91)
      have HBN := Lib.hid hbn
      have HC' := Lib.hid hc'
      have HR' := Lib.hid hr'
      have HQ := Lib.hid hq
      clear hc' hr' hq hbn hblk
      have hne : ∀ W, (binOp .neq 91 (.agg #[.int .i64 p.amp, .int .i64 p.period, .int .i64 p.phase]) (.agg #[.int .i64 q.amp, .int .i64 q.period, .int .i64 q.phase])).run Try.prog W = .ok (.bool (!(p.eqB q))) W := fun W => HNE.out p q W
      cases he : p.eqB q
      · have HX := Lib.hid (sameL_bad HS.out HP.out HQ.out he)
        go_wp2_with fail
        go_quiet (fail)
        go_wp2
        go_ret
        exact ⟨ret_bool (by simp [sameB, HX.out]), (hbel.alloc hs _).drewN _⟩
      · have HX := Lib.hid (sameL_next HS.out HP.out HQ.out he)
        go_wp2_with fail
        go_quiet (fail)
        go_wp2
        go_roundw
        case rel => exact ⟨k + 1, by omega, by go_num, HX.out, HBN.out.drewN _, (hbel.alloc hs _).drewN _⟩
        case measure => simp [intOf]; omega
    · have hk' : k = ps.length := by omega
      subst hk'
      have HX := Lib.hid (sameL_done HS.out HL.out)
      go_wp2_with fail
      go_ret
      exact ⟨ret_bool (by simp [sameB, hmn, HX.out]), hbel⟩

end Go.Proofs.Ytmhiohijpnmcpaa
