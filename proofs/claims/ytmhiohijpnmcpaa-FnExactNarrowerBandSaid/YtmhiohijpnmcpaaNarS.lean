/-
  The contract of NarrowerBand, the reference's.
-/
import Derived.Test.YtmhiohijpnmcpaaModelY
import Derived.Test.YtmhiohijpnmcpaaWinApp
import Derived.Test.YtmhiohijpnmcpaaForeG
import Derived.Test.YtmhiohijpnmcpaaForeS
import Derived.Test.YtmhiohijpnmcpaaTideS
namespace Go.Proofs.Ytmhiohijpnmcpaa
open Go.RowKit

set_option maxHeartbeats 4000000 in
theorem specNarrowerBand_any (m n : Int) (A A' B B' : Option Addr) (c c' d d' : Nat) (ps qs : List Part) (ss ts : List Surge) (w : World) (hr : Rd w w.heap.size Part.at_ 3 A ps) (hr' : Rd w w.heap.size Surge.at_ 3 A' ss) (hq : Rd w w.heap.size Part.at_ 3 B qs) (hq' : Rd w w.heap.size Surge.at_ 3 B' ts)
    (hwf : ∀ p ∈ ps, p.wf) (hwf' : ∀ p ∈ qs, p.wf) (hlen : ps.length ≤ 1048576) (hlen' : ss.length ≤ 1048576) (hlq : qs.length ≤ 1048576) (hlq' : ts.length ≤ 1048576) :
    Calls Try.prog 31 #[.agg #[.int .i64 m, .slice A ps.length c, .slice A' ss.length c'], .agg #[.int .i64 n, .slice B qs.length d, .slice B' ts.length d']] w fun e w' => e = .returned (.bool (narF m n ps qs ss ts)) ∧ Below w.heap.size w w' := by
  obtain ⟨wa, hwa⟩ : ∃ wa, wa = (w.alloc (.cells #[.int .i64 m, .slice A ps.length c, .slice A' ss.length c'] 35)).alloc (.cells #[.int .i64 n, .slice B qs.length d, .slice B' ts.length d'] 35) := ⟨_, rfl⟩
  have hB0 : Below w.heap.size w wa := by rw [hwa]; exact ((Below.refl _ _).alloc (Nat.le_refl _) _).alloc (by simp) _
  have hk0 : Blk wa w.heap.size 35 #[.int .i64 m, .slice A ps.length c, .slice A' ss.length c'] := by rw [hwa]; exact (Blk.new _ _ _).alloc _
  have hl0 : Blk wa (w.heap.size + 1) 35 #[.int .i64 n, .slice B qs.length d, .slice B' ts.length d'] := by rw [hwa]; exact Blk.new' _ _ (by simp)
  have HWA := Lib.hid hwa
  have HR := Lib.hid hr
  have HR' := Lib.hid hr'
  have HQ := Lib.hid hq
  have HQ' := Lib.hid hq'
  clear hwa hr hr' hq hq'
  have RR : ∀ W, Below w.heap.size w W → Rd W W.heap.size Part.at_ 3 A ps := fun W h => (HR.out.below h).more h.size
  have RR' : ∀ W, Below w.heap.size w W → Rd W W.heap.size Surge.at_ 3 A' ss := fun W h => (HR'.out.below h).more h.size
  have QQ : ∀ W, Below w.heap.size w W → Rd W W.heap.size Part.at_ 3 B qs := fun W h => (HQ.out.below h).more h.size
  have QQ' : ∀ W, Below w.heap.size w W → Rd W W.heap.size Surge.at_ 3 B' ts := fun W h => (HQ'.out.below h).more h.size
  have hCA : ∀ W, Below w.heap.size w W → Calls Try.prog 15 #[.agg #[.int .i64 m, .slice A ps.length c, .slice A' ss.length c']] W fun e w' => e = .returned (.bool (foreOk m ps ss)) ∧ Below W.heap.size W w' := fun W h => specForecastOk_any _ _ _ _ _ _ _ _ (RR W h) (RR' W h) hwf hlen hlen'
  have hCB : ∀ W, Below w.heap.size w W → Calls Try.prog 15 #[.agg #[.int .i64 n, .slice B qs.length d, .slice B' ts.length d']] W fun e w' => e = .returned (.bool (foreOk n qs ts)) ∧ Below W.heap.size W w' := fun W h => specForecastOk_any _ _ _ _ _ _ _ _ (QQ W h) (QQ' W h) hwf' hlq hlq'
  have hCS : ∀ W, Below w.heap.size w W → Calls Try.prog 72 #[.agg #[.int .i64 m, .slice A ps.length c], .agg #[.int .i64 n, .slice B qs.length d]] W fun e w' => e = .returned (.bool (sameB m n ps qs)) ∧ Below W.heap.size W w' := fun W h => specSameTides_any _ _ _ _ _ _ _ _ _ (RR W h) (QQ W h) hlen hlq
  have HCA := Lib.hid hCA
  have HCB := Lib.hid hCB
  have HCS := Lib.hid hCS
  have HRR' := Lib.hid RR'
  have HQQ' := Lib.hid QQ'
  clear hCA hCB hCS RR RR' QQ QQ'
  have c0 := hk0.cell 0
  have c1 := hk0.cell 1
  have c2 := hk0.cell 2
  have hlt0 := hl0.lt
  go_enter Try.func31, Try.ntmps31
  go_wp2_with fail
  rw [← HWA.out]
  refine (HCA.out _ hB0).mono ?_
  rintro e w1 ⟨rfl, hb1⟩
  have hB1 := hB0.trans (hb1.mono hB0.size)
  have hk1 := hk0.next hb1
  have hl1 := hl0.next hb1
  clear hk0 hl0 hb1 c0 c1 c2
  cases h1 : foreOk m ps ss
  · go_wp2_with fail
    go_ret
    exact ⟨by simp [narF, h1], hB1⟩
  have d0 := hl1.cell 0
  have d1 := hl1.cell 1
  have d2 := hl1.cell 2
  have HOK1 := Lib.hid h1
  clear h1
  go_wp2_with fail
  refine (HCB.out _ hB1).mono ?_
  rintro e w2 ⟨rfl, hb2⟩
  have hB2 := hB1.trans (hb2.mono hB1.size)
  have hk2 := hk1.next hb2
  have hl2 := hl1.next hb2
  clear hk1 hl1 hb2 d0 d1 d2
  cases h2 : foreOk n qs ts
  · go_wp2_with fail
    go_ret
    exact ⟨by simp [narF, h2], hB2⟩
  have HOK2 := Lib.hid h2
  clear h2
  have c0 := hk2.cell 0
  have c1 := hk2.cell 1
  have d0 := hl2.cell 0
  have d1 := hl2.cell 1
  go_wp2_with fail
  refine (HCS.out _ hB2).mono ?_
  rintro e w3 ⟨rfl, hb3⟩
  have hB3 := hB2.trans (hb3.mono hB2.size)
  have hk3 := hk2.next hb3
  have hl3 := hl2.next hb3
  clear hk2 hl2 hb3 c0 c1 d0 d1
  cases h3 : sameB m n ps qs
  · go_wp2_with fail
    go_ret
    exact ⟨by simp [narF, h3], hB3⟩
  have HRES := Lib.hid (show narF m n ps qs ss ts = narS ss ts by simp [narF, HOK1.out, HOK2.out, h3])
  clear h3
  have hls := (foreOk_len HOK1.out).1
  have hlt := (foreOk_len HOK2.out).1
  have HX1 := Lib.hid hk3
  have HX2 := Lib.hid hl3
  clear hk3 hl3
  go_wp2_with fail
  go_loopw [5] (fun i wr => ∃ k : Nat, k ≤ 2881 ∧ i = .int .i64 k ∧ (∀ j : Nat, j < k → inAt ss ts j = true) ∧ Blk wr w.heap.size 35 #[.int .i64 m, .slice A ps.length c, .slice A' ss.length c'] ∧ Blk wr (w.heap.size + 1) 35 #[.int .i64 n, .slice B qs.length d, .slice B' ts.length d'] ∧ Below w.heap.size w wr) (fun i _ => 2881 - (intOf i).toNat)
  case atStart => exact ⟨0, Nat.zero_le _, rfl, fun j h => absurd h (Nat.not_lt_zero _), HX1.out, HX2.out, hB3⟩
  case round =>
    obtain ⟨k, hk, rfl, hall, hka, hkb, hbel⟩ := hrel
    have hs := hbel.size
    have HALL := Lib.hid hall
    have hbl := hkb.lt
    clear hall HX1 HX2 hB3
    by_cases hlt2 : k ≤ 2880
    · have hk0 : (0 : Int) ≤ (k : Int) := by omega
      have hk1 : (k : Int) ≤ 2880 := by omega
      obtain ⟨sv, hsv⟩ : ∃ sv, sv = surgeV ss k := ⟨_, rfl⟩
      obtain ⟨tv, htv⟩ : ∃ tv, tv = surgeV ts k := ⟨_, rfl⟩
      have HC1 : Hid (∀ W, Below w.heap.size w W → Calls Try.prog 58 #[.agg #[.int .i64 m, .slice A ps.length c, .slice A' ss.length c'], .int .i64 k] W fun e w' => e = .returned (.agg #[.int .i64 sv.frm, .int .i64 sv.low, .int .i64 sv.high]) ∧ Below W.heap.size W w') := Lib.hid fun W h => by
        rw [hsv]
        exact specSurge_any _ _ _ _ _ _ _ _ _ (HRR'.out W h) hlen' hls
      have HC2 : Hid (∀ W, Below w.heap.size w W → Calls Try.prog 58 #[.agg #[.int .i64 n, .slice B qs.length d, .slice B' ts.length d'], .int .i64 k] W fun e w' => e = .returned (.agg #[.int .i64 tv.frm, .int .i64 tv.low, .int .i64 tv.high]) ∧ Below W.heap.size W w') := Lib.hid fun W h => by
        rw [htv]
        exact specSurge_any _ _ _ _ _ _ _ _ _ (HQQ'.out W h) hlq' hlt
      have HS1 := Lib.hid hsv
      have HS2 := Lib.hid htv
      have c0 := hka.cell 0
      have c1 := hka.cell 1
      have c2 := hka.cell 2
      clear hsv htv
      go_wp2_with fail
      refine (HC1.out _ hbel).mono ?_
      rintro e w4 ⟨rfl, hb4⟩
      have hB4 := hbel.trans (hb4.mono hs)
      have hz4 := hB4.size
      have hk4 := hka.next hb4
      have hl4 := hkb.next hb4
      have hn4 := Blk.new w4 66 #[.int .i64 sv.frm, .int .i64 sv.low, .int .i64 sv.high]
      have hB4' := hB4.alloc hz4 (.cells #[.int .i64 sv.frm, .int .i64 sv.low, .int .i64 sv.high] 66)
      have hk4' := hk4.alloc (.cells #[.int .i64 sv.frm, .int .i64 sv.low, .int .i64 sv.high] 66)
      have hl4' := hl4.alloc (.cells #[.int .i64 sv.frm, .int .i64 sv.low, .int .i64 sv.high] 66)
      have d0 := hl4.cell 0
      have d1 := hl4.cell 1
      have d2 := hl4.cell 2
      have hlt4 := hl4.lt
      clear hka hkb hb4 c0 c1 c2
      go_wp2_with fail
      refine (HC2.out _ hB4').mono ?_
      rintro e w5 ⟨rfl, hb5⟩
      have hB5 := hB4'.trans (hb5.mono hB4'.size)
      have hz5 := hB5.size
      have HK5 := Lib.hid ((hk4'.next hb5).alloc (.cells #[.int .i64 tv.frm, .int .i64 tv.low, .int .i64 tv.high] 66))
      have HL5 := Lib.hid ((hl4'.next hb5).alloc (.cells #[.int .i64 tv.frm, .int .i64 tv.low, .int .i64 tv.high] 66))
      have HB5 := Lib.hid (hB5.alloc hz5 (.cells #[.int .i64 tv.frm, .int .i64 tv.low, .int .i64 tv.high] 66))
      have hn5 := hn4.next hb5
      have s1 := hn5.cell 1
      have s2 := hn5.cell 2
      have hns := hn5.lt
      clear hb5 hk4' hl4' hk4 hl4 hn4 d0 d1 d2
      by_cases t1 : sv.low < tv.low
      · have HX := Lib.hid (narS_bad hlt2 (inAt_bad HS1.out.symm HS2.out.symm (.inl t1)))
        go_wp2_with fail
        go_ret
        exact ⟨by rw [HRES.out, HX.out]; rfl, HB5.out⟩
      by_cases t2 : tv.high < sv.high
      · have HX := Lib.hid (narS_bad hlt2 (inAt_bad HS1.out.symm HS2.out.symm (.inr t2)))
        go_wp2_with fail
        go_ret
        exact ⟨by rw [HRES.out, HX.out]; rfl, HB5.out⟩
      have HX := Lib.hid (inAt_good HS1.out.symm HS2.out.symm t1 t2)
      go_wp2_with fail
      go_roundw
      case rel => exact ⟨k + 1, by omega, by go_num, fun j hj => by
        by_cases e : j = k
        · rw [e]; exact HX.out
        · exact HALL.out j (by omega), HK5.out, HL5.out, HB5.out⟩
      case measure => simp [intOf]; omega
    · have HX := Lib.hid (narS_good (ss := ss) (ts := ts) fun j hj => HALL.out j (by omega))
      have hk1 : ¬ (k : Int) ≤ 2880 := by omega
      go_wp2_with fail
      go_ret
      exact ⟨by rw [HRES.out, HX.out]; rfl, hbel⟩

end Go.Proofs.Ytmhiohijpnmcpaa
