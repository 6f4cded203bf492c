/-
  The contracts of the laws' eqIntSS, markIntSS, heldIntSS.
-/
import Derived.Test.YtjmfgncakegjaaaRtR
namespace Go.Proofs.Ytjmfgncakegjaaa
open Go.RowKit

set_option maxHeartbeats 2000000 in
theorem eqIntSS_same (A A' : Option Addr) (c c' lo hi lo' hi' : Nat) (res : List (List Int)) (w : World) (hr : RowsL w lo hi A res) (hr' : RowsL w lo' hi' A' res) (hlen : res.length ≤ 10000000) (hsh : ∀ l ∈ res, l.length ≤ 8) :
    Calls Try.prog 37 #[.slice A res.length c, .slice A' res.length c'] w fun e w' => e = .returned (.bool true) ∧ Below w.heap.size w w' := by
  go_enter Try.func37, Try.ntmps37
  go_wp2_with fail
  go_loopw [5] (fun i wr => ∃ k : Nat, k ≤ res.length ∧ i = .int .i64 k ∧ Below w.heap.size w wr) (fun i _ => res.length - (intOf i).toNat)
  case atStart => exact ⟨0, Nat.zero_le _, rfl, Below.refl _ _⟩
  case round =>
    obtain ⟨k, hk, rfl, hbel⟩ := hrel
    by_cases hlt : k < res.length
    · obtain ⟨l, hl⟩ : ∃ l, res[k]? = some l := ⟨_, List.getElem?_eq_getElem hlt⟩
      obtain ⟨go, g, d, rfl, _, _, hgo, c0, _, _, hh⟩ := (hr.next hbel).at_ hl
      obtain ⟨go', g', d', rfl, _, _, hgo', c0', _, _, hh'⟩ := (hr'.next hbel).at_ hl
      have hl8 := hsh l (List.mem_of_getElem? hl)
      have hk0 : (0 : Int) ≤ (k : Int) := Int.natCast_nonneg _
      have hk1 : (k : Int) < (res.length : Int) := by omega
      have HR := Lib.hid hr
      have HR' := Lib.hid hr'
      have HSH := Lib.hid hsh
      have HL := Lib.hid hl
      have hcl := eqIntS_same (some ⟨g, 0, none⟩) (some ⟨g', 0, none⟩) d d' l wr.drew (show Rd wr.drew wr.drew.heap.size _ _ _ _ from hh.rd) (show Rd wr.drew wr.drew.heap.size _ _ _ _ from hh'.rd) (by omega)
      clear hr hr' hsh hl hh hh'
      go_wp2_with fail
      go_region_held3 (fun w' => w'.cell? ⟨go, k, none⟩ = some (.slice (some ⟨g, 0, none⟩) l.length d) ∧ w'.cell? ⟨go', k, none⟩ = some (.slice (some ⟨g', 0, none⟩) l.length d')) (go_keep)
        (first
          | (go_at_call 27; refine hcl.mono ?_; rintro e w1 ⟨rfl, hb1⟩; have hcc1 : ∀ b o, b < wr.heap.size → w1.cell? ⟨b, o, none⟩ = wr.cell? ⟨b, o, none⟩ := (bcell hb1).1))
      have hb2 := hbel.drew.trans (hb1.mono hbel.size)
      go_wp2_with fail
      go_roundw
      case rel => exact ⟨k + 1, by omega, by go_num, hb2⟩
      case measure => simp [intOf]; omega
    · have hk' : k = res.length := by omega
      subst hk'
      go_wp2_with fail
      go_ret
      exact ⟨rfl, hbel⟩

set_option maxHeartbeats 2000000 in
theorem markIntSS_any (A : Option Addr) (c lo hi : Nat) (res : List (List Int)) (k : Int) (w : World) (hr : RowsL w lo hi A res) (hlen : res.length ≤ 10000000) (hsh : ∀ l ∈ res, l.length ≤ 8) (hk0 : 0 ≤ k) (hk1 : k ≤ 1048576) :
    Calls Try.prog 38 #[.slice A res.length c, .int .i64 k] w fun e w' => e = .returned (.int .i64 (k + (totL res : Int))) ∧ RowsL w' lo hi A (markL k res) ∧ Out lo hi w w' := by
  have htot := totL_le res hsh
  go_enter Try.func38, Try.ntmps38
  go_wp2_with fail
  go_loopw [1, 5] (fun q i wr => ∃ j : Nat, j ≤ res.length ∧ i = .int .i64 j ∧ q = .int .i64 (k + (totL (res.take j) : Int)) ∧ RowsL wr lo hi A (markAt k res j) ∧ Out lo hi w wr) (fun _ i _ => res.length - (intOf i).toNat)
  case atStart => exact ⟨0, Nat.zero_le _, rfl, by simp [totL], hr, Out.of_below _ _ (Below.refl _ _)⟩
  case round =>
    obtain ⟨j, hj, rfl, rfl, hrl, hout⟩ := hrel
    have htj := totL_part res j
    by_cases hlt : j < res.length
    · obtain ⟨l, hl⟩ : ∃ l, res[j]? = some l := ⟨_, List.getElem?_eq_getElem hlt⟩
      obtain ⟨go, g, d, rfl, _, _, hgo, c0, hg1, hg2, hh⟩ := hrl.at_ (markAt_get hl)
      have hl8 := hsh l (List.mem_of_getElem? hl)
      have htt := totL_take hl
      have hk0' : (0 : Int) ≤ (j : Int) := Int.natCast_nonneg _
      have hk1' : (j : Int) < (res.length : Int) := by omega
      obtain ⟨q, hq⟩ : ∃ q : Int, q = k + (totL (res.take j) : Int) := ⟨_, rfl⟩
      have hcl := markIntB_any (some ⟨g, 0, none⟩) d g (g + 1) l q wr (.inr ⟨g, rfl, Nat.le_refl _, Nat.lt_succ_self _, hh⟩) (by omega) (by omega) (by omega)
      have HSET : Hid (∀ w', Out g (g + 1) wr w' → Has w' g 3 intAt 1 (markIntL q l.length) → RowsL w' lo hi (some ⟨go, 0, none⟩) (markAt k res (j + 1))) := Lib.hid fun w' h1 h2 => by
        have h := hrl.set_ (markAt_get hl) (markIntL_length q l.length) rfl c0 h1 h2 hh
        rw [hq, markAt_next hl] at h
        exact h
      have HQ : Hid (q + (l.length : Int) = k + (totL (res.take (j + 1)) : Int)) := Lib.hid (by rw [htt, hq, Int.natCast_add]; omega)
      have HOUT := Lib.hid hout
      have HR := Lib.hid hr
      have HSH := Lib.hid hsh
      have HL := Lib.hid hl
      rw [← hq]
      clear hr hrl hsh hl hh hq htt hout
      go_wp2_with (go_at_call 33; refine hcl.mono ?_; rintro e w1 ⟨rfl, hs1, ho1⟩)
      go_roundw
      case rel =>
        refine ⟨j + 1, by omega, by go_num, by rw [HQ.out], HSET.out _ ho1 ?_, HOUT.out.trans (ho1.mono hg1 hg2)⟩
        rcases hs1 with ⟨h, _⟩ | ⟨g', e, _, _, h⟩
        · cases h
        · cases e
          exact h
      case measure => simp [intOf]; omega
    · have hk' : j = res.length := by omega
      subst hk'
      rw [List.take_length]
      rw [markAt_all] at hrl
      go_wp2_with fail
      go_ret
      exact ⟨rfl, hrl, hout⟩

set_option maxHeartbeats 2000000 in
theorem heldIntSS_any (A : Option Addr) (c lo hi : Nat) (res : List (List Int)) (k : Int) (w : World) (hr : RowsL w lo hi A (markL k res)) (hlen : res.length ≤ 10000000) (hsh : ∀ l ∈ res, l.length ≤ 8) (hk0 : 0 ≤ k) (hk1 : k ≤ 1048576) :
    Calls Try.prog 39 #[.slice A res.length c, .int .i64 k] w fun e w' => e = .returned (.int .i64 (k + (totL res : Int))) ∧ w = w' := by
  have htot := totL_le res hsh
  go_enter Try.func39, Try.ntmps39
  go_wp2_with fail
  go_loop [1, 5] (fun q i => ∃ j : Nat, j ≤ res.length ∧ i = .int .i64 j ∧ q = .int .i64 (k + (totL (res.take j) : Int))) (fun _ i => res.length - (intOf i).toNat)
  case atStart => exact ⟨0, Nat.zero_le _, rfl, by simp [totL]⟩
  case round =>
    obtain ⟨j, hj, rfl, rfl⟩ := hrel
    have htj := totL_part res j
    by_cases hlt : j < res.length
    · obtain ⟨l, hl⟩ : ∃ l, res[j]? = some l := ⟨_, List.getElem?_eq_getElem hlt⟩
      obtain ⟨go, g, d, rfl, _, _, hgo, c0, hg1, hg2, hh⟩ := hr.at_ (markL_at k res j l hl)
      rw [markIntL_length] at c0
      have hl8 := hsh l (List.mem_of_getElem? hl)
      have htt := totL_take hl
      have hk0' : (0 : Int) ≤ (j : Int) := Int.natCast_nonneg _
      have hk1' : (j : Int) < (res.length : Int) := by omega
      obtain ⟨q, hq⟩ : ∃ q : Int, q = k + (totL (res.take j) : Int) := ⟨_, rfl⟩
      rw [← hq] at hh
      have hcl := heldIntB_any (some ⟨g, 0, none⟩) d l.length q w hh.rd (by omega) (by omega) (by omega)
      have HQ : Hid (q + (l.length : Int) = k + (totL (res.take (j + 1)) : Int)) := Lib.hid (by rw [htt, hq, Int.natCast_add]; omega)
      have hq0 : ¬ q + (l.length : Int) < 0 := by omega
      have hqd : decide (q + (l.length : Int) < 0) = false := decide_eq_false hq0
      have HR := Lib.hid hr
      have HSH := Lib.hid hsh
      have HL := Lib.hid hl
      rw [← hq]
      clear hr hsh hl hh hq htt
      go_wp2_with (go_at_call 34; refine hcl.mono ?_; rintro e w' ⟨rfl, rfl⟩)
      go_round
      case rel => exact ⟨j + 1, by omega, by go_num, by rw [HQ.out]⟩
      case measure => simp [intOf]; omega
    · have hk' : j = res.length := by omega
      subst hk'
      rw [List.take_length]
      go_wp2_with fail
      go_ret
      exact ⟨rfl, rfl⟩

end Go.Proofs.Ytjmfgncakegjaaa
