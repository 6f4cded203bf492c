/-
  FnBands: a reading narrows the band and never widens it. No condition.
-/
import Derived.Test.YtmhiohijpnmcpaaDrawG
import Derived.Test.YtmhiohijpnmcpaaRevI
import Derived.Test.YtmhiohijpnmcpaaNarI
import Derived.Test.YtmhiohijpnmcpaaForeA
import Derived.Test.YtmhiohijpnmcpaaForeB
import Derived.Test.YtmhiohijpnmcpaaForeI
import Derived.Test.YtmhiohijpnmcpaaModelRv
import Derived.Test.YtmhiohijpnmcpaaModelFD
import Derived.Test.YtmhiohijpnmcpaaOpenB
namespace Go.Proofs.Ytmhiohijpnmcpaa


theorem lastI_uniq {α : Type} {f : α → Bool} {ps : List α} {j : Nat} {p : α} (hp : ps[j]? = some p) (hf : f p = true) : ∀ k, j < k → k ≤ ps.length → (∀ (i : Nat) (q : α), j < i → i < k → ps[i]? = some q → f q = false) → lastI f ps k = j
  | 0, h, _, _ => by omega
  | k + 1, hj, hk, h => by
    by_cases e : j = k
    · subst e
      exact lastI_yes hp hf
    · obtain ⟨q, hq⟩ : ∃ q, ps[k]? = some q := ⟨_, List.getElem?_eq_getElem (show k < ps.length by omega)⟩
      rw [lastI_no hq (h k q (by omega) (by omega) hq)]
      exact lastI_uniq hp hf k (by omega) (by omega) fun i q' h1 h2 h3 => h i q' h1 (by omega) h3
theorem surgeV_eq {L : List Surge} {u : Int} {p : Surge} (hasc : Asc L) (hp : p ∈ L) (h1 : p.frm ≤ u) (h2 : ∀ q ∈ L, q.frm ≤ u → q.frm ≤ p.frm) : surgeV L u = p := by
  obtain ⟨j, hj⟩ := List.getElem?_of_mem hp
  have hl : j < L.length := (List.getElem?_eq_some_iff.1 hj).1
  refine surgeV_at (k := j) ?_ hj
  unfold surgeIx
  refine lastI_uniq hj (decide_eq_true h1) _ hl (Nat.le_refl _) fun i q h3 _ hq => ?_
  have h5 := hasc j i p q h3 hj hq
  refine decide_eq_false fun hle => ?_
  have := h2 q (List.mem_of_getElem? hq) hle
  omega
theorem surgeV_sp {m : Int} {ps : List Part} {ss : List Surge} (h : foreOk m ps ss = true) {u : Int} (hu : 0 ≤ u) : surgeV ss u ∈ ss ∧ (surgeV ss u).frm ≤ u ∧ ∀ q ∈ ss, q.frm ≤ u → q.frm ≤ (surgeV ss u).frm := by
  obtain ⟨s, hs, hsf, hlater⟩ := surgeIx_spec h hu
  have hasc := foreOk_asc h
  have e := surgeV_at rfl hs
  rw [e]
  refine ⟨List.mem_of_getElem? hs, hsf, fun q hq hqu => ?_⟩
  obtain ⟨j, hj⟩ := List.getElem?_of_mem hq
  rcases Nat.lt_trichotomy j (surgeIx ss u ss.length) with h1 | h1 | h1
  · have := hasc _ _ _ _ h1 hj hs
    omega
  · rw [h1, hs] at hj
    cases hj
    exact Int.le_refl _
  · have := hlater j q h1 hj
    omega
theorem asc_iff {L : List Surge} : Asc L ↔ L.Pairwise fun p q => p.frm < q.frm := by
  rw [List.pairwise_iff_getElem]
  constructor
  · intro h i j hi hj hij
    exact h i j _ _ hij (List.getElem?_eq_getElem hi) (List.getElem?_eq_getElem hj)
  · intro h i j p q hij hp hq
    obtain ⟨hi, e1⟩ := List.getElem?_eq_some_iff.1 hp
    obtain ⟨hj, e2⟩ := List.getElem?_eq_some_iff.1 hq
    rw [← e1, ← e2]
    exact h i j hi hj hij

section
variable {m : Int} {ps : List Part} {ss : List Surge} {t x y : Int}
theorem revL_mem {q : Surge} (hq : q ∈ revL ss t x y) : (q ∈ ss ∧ q.frm < t) ∨ q = cutS (surgeV ss t) t x y ∨ (q ∈ ss ∧ t < q.frm) := by
  unfold revL at hq
  rcases List.mem_append.1 hq with h | h
  · have := List.mem_filter.1 h
    exact .inl ⟨this.1, of_decide_eq_true this.2⟩
  · rcases List.mem_cons.1 h with h | h
    · exact .inr (.inl h)
    · have := List.mem_filter.1 h
      exact .inr (.inr ⟨this.1, of_decide_eq_true this.2⟩)
theorem revL_lo {q : Surge} (hq : q ∈ ss) (h : q.frm < t) : q ∈ revL ss t x y := List.mem_append_left _ (List.mem_filter.2 ⟨hq, decide_eq_true h⟩)
theorem revL_cut : cutS (surgeV ss t) t x y ∈ revL ss t x y := List.mem_append_right _ (List.mem_cons_self ..)
theorem revL_hi {q : Surge} (hq : q ∈ ss) (h : t < q.frm) : q ∈ revL ss t x y := List.mem_append_right _ (List.mem_cons_of_mem _ (List.mem_filter.2 ⟨hq, decide_eq_true h⟩))
theorem revL_asc (h : foreOk m ps ss = true) : Asc (revL ss t x y) := by
  have hp := asc_iff.1 (foreOk_asc h)
  refine asc_iff.2 ?_
  unfold revL
  refine List.pairwise_append.2 ⟨hp.filter _, List.pairwise_cons.2 ⟨fun b hb => of_decide_eq_true (List.mem_filter.1 hb).2, hp.filter _⟩, fun a ha b hb => ?_⟩
  have h1 := of_decide_eq_true (List.mem_filter.1 ha).2
  rcases List.mem_cons.1 hb with rfl | hb
  · exact h1
  · have h2 := of_decide_eq_true (List.mem_filter.1 hb).2
    omega
theorem filt_two : ∀ ss : List Surge, (ss.filter fun s => decide (s.frm < t)).length + (ss.filter fun s => decide (t < s.frm)).length ≤ ss.length
  | [] => Nat.le_refl _
  | s :: ss => by
    have ih := filt_two ss
    rw [List.filter_cons, List.filter_cons]
    by_cases h1 : s.frm < t
    · rw [if_pos (decide_eq_true h1), if_neg (by simp; omega)]
      simp only [List.length_cons]
      omega
    · rw [if_neg (by simp; omega)]
      by_cases h2 : t < s.frm
      · rw [if_pos (decide_eq_true h2)]
        simp only [List.length_cons]
        omega
      · rw [if_neg (by simp; omega)]
        simp only [List.length_cons]
        omega
theorem revL_ok (h : foreOk m ps ss = true) (h5 : ss.length ≤ 5) (ht : 0 ≤ t ∧ t ≤ 2880) (hx : (surgeV ss t).low ≤ x ∧ x ≤ (surgeV ss t).high) (hy : (surgeV ss t).high ≤ y) : foreOk m ps (revL ss t x y) = true := by
  have hb := surgeV_bd t h
  have hlen : 1 ≤ (revL ss t x y).length ∧ (revL ss t x y).length ≤ 6 := by
    have := filt_two (t := t) ss
    unfold revL
    rw [List.length_append, List.length_cons]
    omega
  have hz : zeroB (revL ss t x y) = true := by
    obtain ⟨z, hz⟩ : ∃ z, ss[0]? = some z := ⟨_, List.getElem?_eq_getElem (by have := (foreOk_len h).1; omega)⟩
    have hz0 := foreOk_zero h hz
    match ss, hz with
    | z' :: rest, hz =>
      simp at hz
      subst hz
      unfold zeroB revL
      by_cases h0 : 0 < t
      · rw [List.filter_cons, if_pos (decide_eq_true (by omega))]
        exact decide_eq_true hz0
      · have e : (z' :: rest).filter (fun s => decide (s.frm < t)) = [] := filter_no fun q hq => by
          obtain ⟨j, hj⟩ := List.getElem?_of_mem hq
          have := (surgeOk_true (foreOk_mem h hj)).1
          exact decide_eq_false (by omega)
        rw [e]
        exact decide_eq_true (show t = 0 by omega)
  unfold foreOk
  rw [foreOk_tide h, inB_mk (by omega), hz, allI_mk (revL ss t x y) 0 fun j p hp => ?_]
  · rfl
  · rw [Nat.zero_add]
    unfold srgF
    have hok : surgeOk p = true := by
      rcases revL_mem (List.mem_of_getElem? hp) with ⟨h1, _⟩ | h1 | ⟨h1, _⟩
      · obtain ⟨i, hi⟩ := List.getElem?_of_mem h1
        exact foreOk_mem h hi
      · rw [h1]
        unfold surgeOk cutS
        rw [inB_mk (show 0 ≤ t ∧ t ≤ 2880 from ht), inB_mk (show -500 ≤ max _ x ∧ max _ x ≤ 500 by omega), inB_mk (show max _ x ≤ min _ y ∧ min _ y ≤ 500 by omega)]
        rfl
      · obtain ⟨i, hi⟩ := List.getElem?_of_mem h1
        exact foreOk_mem h hi
    rw [hok, Bool.true_and]
    cases j with
    | zero => rfl
    | succ k =>
      have hk : k < (revL ss t x y).length := by
        have := (List.getElem?_eq_some_iff.1 hp).1
        omega
      have e := List.getElem?_eq_getElem hk
      rw [show k + 1 - 1 = k by omega, e, Bool.or_eq_true]
      right
      exact decide_eq_true (revL_asc h k (k + 1) _ _ (by omega) e hp)
theorem revV_before (h : foreOk m ps ss = true) {u : Int} (hu : 0 ≤ u) (hut : u < t) : surgeV (revL ss t x y) u = surgeV ss u := by
  obtain ⟨h1, h2, h3⟩ := surgeV_sp h hu
  refine surgeV_eq (revL_asc h) (revL_lo h1 (by omega)) h2 fun q hq hqu => ?_
  rcases revL_mem hq with ⟨h4, _⟩ | h4 | ⟨h4, h5⟩
  · exact h3 q h4 hqu
  · rw [h4] at hqu
    have : t ≤ u := hqu
    omega
  · omega
theorem revV_after (h : foreOk m ps ss = true) (ht : 0 ≤ t) {u : Int} (hut : t ≤ u) (hs : t < (surgeV ss u).frm) : surgeV (revL ss t x y) u = surgeV ss u := by
  obtain ⟨h1, h2, h3⟩ := surgeV_sp h (show 0 ≤ u by omega)
  refine surgeV_eq (revL_asc h) (revL_hi h1 hs) h2 fun q hq hqu => ?_
  rcases revL_mem hq with ⟨h4, h5⟩ | h4 | ⟨h4, h5⟩
  · omega
  · rw [h4]
    exact Int.le_of_lt hs
  · exact h3 q h4 hqu
theorem revV_at (h : foreOk m ps ss = true) (ht : 0 ≤ t) {u : Int} (hut : t ≤ u) (hs : ¬ t < (surgeV ss u).frm) : surgeV (revL ss t x y) u = cutS (surgeV ss t) t x y ∧ surgeV ss t = surgeV ss u := by
  obtain ⟨h1, h2, h3⟩ := surgeV_sp h (show 0 ≤ u by omega)
  constructor
  · refine surgeV_eq (revL_asc h) revL_cut hut fun q hq hqu => ?_
    show q.frm ≤ t
    rcases revL_mem hq with ⟨h4, h5⟩ | h4 | ⟨h4, h5⟩
    · omega
    · rw [h4]
      exact Int.le_refl _
    · have := h3 q h4 hqu
      omega
  · exact surgeV_eq (foreOk_asc h) h1 (by omega) fun q hq hqt => h3 q hq (by omega)
theorem revV_t (h : foreOk m ps ss = true) (ht : 0 ≤ t) : surgeV (revL ss t x y) t = cutS (surgeV ss t) t x y := (revV_at h ht (Int.le_refl _) (by have := (surgeV_sp h ht).2.1; omega)).1
theorem inAt_self (ss : List Surge) (u : Int) : inAt ss ss u = true := by
  unfold inAt
  simp
theorem narS_self (ss : List Surge) : narS ss ss = true := narS_good fun k _ => inAt_self ss k
theorem narS_rev (h : foreOk m ps ss = true) (ht : 0 ≤ t) : narS (revL ss t x y) ss = true := narS_good fun k _ => by
  by_cases h1 : (k : Int) < t
  · unfold inAt
    rw [revV_before h (by omega) h1]
    simp
  · by_cases h2 : t < (surgeV ss k).frm
    · unfold inAt
      rw [revV_after h ht (by omega) h2]
      simp
    · obtain ⟨h3, h4⟩ := revV_at (x := x) (y := y) h ht (show t ≤ (k : Int) by omega) h2
      unfold inAt
      rw [h3, ← h4]
      unfold cutS
      simp
      omega
end

/-- What the law FnBands asks of the first forecast and of the one behind the reading. -/
structure Bands (m : Int) (ps : List Part) (ss L : List Surge) (t lo hi lev cut : Int) : Prop where
  surge : surgeV ss t = ⟨(surgeV ss t).frm, lo, hi⟩
  low : lowF m ps ss t = lev + lo
  high : highF m ps ss t = lev + hi
  lev_ : levelF m ps t = lev
  in_ : bandB m ps ss t (lev + lo) = true
  out_ : bandB m ps ss t (lev + hi + 1) = false
  nar : narF m m ps ps L ss = true
  glow : lowF m ps L t = lev + cut
  ghigh : highF m ps L t = lev + hi
  gprev : 1 ≤ t → lowF m ps L (t - 1) = lowF m ps ss (t - 1)
  self : narF m m ps ps ss ss = true

theorem sameL_self : ∀ ps : List Part, sameL ps ps = true
  | [] => rfl
  | p :: ps => by
    unfold sameL
    rw [sameL_self ps, Bool.and_true]
    simp [Part.eqB]
theorem sameB_self (m : Int) (ps : List Part) : sameB m m ps ps = true := by
  unfold sameB
  rw [beq_self_eq_true, Bool.true_and, sameL_self]
theorem bands_of {m : Int} {ps : List Part} {ss : List Surge} (h : foreOk m ps ss = true) {t cut : Int} (h5 : ss.length ≤ 5) (ht : 0 ≤ t ∧ t ≤ 2880) (hx : (surgeV ss t).low ≤ cut ∧ cut ≤ (surgeV ss t).high) :
    foreOk m ps (revL ss t cut ((surgeV ss t).high + 5)) = true ∧ Bands m ps ss (revL ss t cut ((surgeV ss t).high + 5)) t (surgeV ss t).low (surgeV ss t).high (levelV t m ps) cut := by
  have hL := revL_ok (y := (surgeV ss t).high + 5) h h5 ht hx (by omega)
  have hb := surgeV_bd t h
  have hsc : ∀ u, 0 ≤ u → u ≤ 2880 → surgeC m ps ss u = true := fun u h1 h2 => by rw [surgeC, h, inB_mk ⟨h1, h2⟩]; rfl
  have hsL : ∀ u, 0 ≤ u → u ≤ 2880 → surgeC m ps (revL ss t cut ((surgeV ss t).high + 5)) u = true := fun u h1 h2 => by rw [surgeC, hL, inB_mk ⟨h1, h2⟩]; rfl
  have e1 : lowF m ps ss t = levelV t m ps + (surgeV ss t).low := by rw [lowF, if_pos (hsc t ht.1 ht.2)]; rfl
  have e2 : highF m ps ss t = levelV t m ps + (surgeV ss t).high := by rw [highF, if_pos (hsc t ht.1 ht.2)]; rfl
  have ev := revV_t (x := cut) (y := (surgeV ss t).high + 5) h ht.1
  refine ⟨hL, rfl, e1, e2, ?_, ?_, ?_, ?_, ?_, ?_, ?_, ?_⟩
  · rw [levelF, if_pos ⟨foreOk_tide h, inB_mk ht⟩]
  · rw [bandB, hsc t ht.1 ht.2, e1, e2, inB_mk (by omega)]
    rfl
  · rw [bandB, e1, e2, inB_no (by omega), Bool.and_false]
  · rw [narF, hL, h, sameB_self, narS_rev h ht.1]
    rfl
  · rw [lowF, if_pos (hsL t ht.1 ht.2), lowV, ev]
    unfold cutS
    show levelV t m ps + max _ cut = _
    omega
  · rw [highF, if_pos (hsL t ht.1 ht.2), highV, ev]
    unfold cutS
    show levelV t m ps + min _ _ = _
    omega
  · intro h1
    rw [lowF, lowF, if_pos (hsL (t - 1) (by omega) (by omega)), if_pos (hsc (t - 1) (by omega) (by omega)), lowV, lowV, revV_before h (by omega) (by omega)]
  · rw [narF, h, sameB_self, narS_self]
    rfl

open Go.ChangeShapes Go.WideShapes Go.ChangeAt Go.RowKit

theorem ResRev.get {m : Int} {ps : List Part} {ss : List Surge} {t x y : Int} {w w' : World} {e : Ending} (h : revC m ps ss t x y = true) (hr : ResRev m ps ss t x y w e w') :
    ∃ A c A' c', e = .returned (.tuple #[.agg #[.int .i64 m, .slice A ps.length c, .slice A' (revL ss t x y).length c'], .bool true]) ∧
      Sl w' w.heap.size w'.heap.size A 91 Part.at_ 3 ps ∧ Sl w' w.heap.size w'.heap.size A' 66 Surge.at_ 3 (revL ss t x y) ∧ Below w.heap.size w w' := by
  unfold ResRev revM revP revS at hr
  rw [h] at hr
  exact hr

set_option maxRecDepth 20000 in
set_option maxHeartbeats 16000000 in
theorem fnBands_walk {v0 : Value} {zs : List Int} (w : World) (h0 : IsBytes w v0 zs) :
    Calls Try.prog 12 #[v0] w fun e w' => e = .returned (.bool true) ∧ Below w.heap.size w w' := by
  obtain ⟨A, c, rfl, hr, hml, hz⟩ := h0
  unfold maxLen at hml
  go_enter Try.func12, Try.ntmps12
  by_cases hlen : zs.length ≤ 1048576
  case neg =>
    go_wp2_with fail
    go_ret
    exact ⟨rfl, Below.refl _ _⟩
  have hB0 : Below w.heap.size w w := Below.refl _ _
  have HC1 := Lib.hid (MakeForecast_any A c zs w hr hlen hz)
  go_wp2_with fail
  refine HC1.out.mono ?_
  rintro e w1 ⟨m, ps, ss, A1, A2, c1, c2, rfl, hfo, hs1, hs2, hB1, hl1, hl2, hcp⟩
  clear HC1
  have hp2 : ps.length ≤ 1048576 := by omega
  have hq2 : ss.length ≤ 1048576 := by omega
  have hwf : ∀ p ∈ ps, p.wf := fun p hp => by
    have h1 := foreOk_tide hfo
    unfold tideOk at h1
    rw [Bool.and_eq_true] at h1
    have h2 := partOk_true (List.all_eq_true.1 h1.2 p hp)
    have h3 := isPer_true h2.2.1
    unfold Part.wf I64
    omega
  have hlv : ∀ u, -5000 ≤ levelV u m ps ∧ levelV u m ps ≤ 5000 := fun u => by
    have ht := foreOk_tide hfo
    have h1 := levelV_amp ht u ps.length (Nat.le_refl _)
    have h2 := ampV_bd ht ps.length (Nat.le_refl _)
    have h3 := tideOk_mean ht
    rw [List.take_length] at h1 h2
    omega
  have HFO := Lib.hid hfo
  obtain ⟨wb, hwb⟩ : ∃ wb, wb = w1.alloc (.cells #[.int .i64 m, .slice A1 ps.length c1, .slice A2 ss.length c2] 35) := ⟨_, rfl⟩
  have hbb : Below w1.heap.size w1 wb := by rw [hwb]; exact (Below.refl _ _).alloc (Nat.le_refl _) _
  have hbk : Blk wb w1.heap.size 35 #[.int .i64 m, .slice A1 ps.length c1, .slice A2 ss.length c2] := by rw [hwb]; exact Blk.new _ _ _
  have hBb := hB1.trans (hbb.mono hB1.size)
  have hzb := hbb.size
  have sp_b := hs1.next hbb
  have sq_b := hs2.next hbb
  have HWB := Lib.hid hwb
  clear hwb hs1 hs2
  have HC2 := Lib.hid (MakeNum_any A c 60 zs wb ((hr.below hBb).more hBb.size) hlen hz (by omega))
  go_wp2_with fail
  rw [← HWB.out]
  refine HC2.out.mono ?_
  rintro e w2 ⟨x, rfl, hx0, hx1, hb2⟩
  have hB2 := hBb.trans (hb2.mono hBb.size)
  have f_2 := hbk.next hb2
  have p_2 := sp_b.next hb2
  have q_2 := sq_b.next hb2
  clear HC2 hbk sp_b sq_b
  obtain ⟨t, ht⟩ : ∃ t, t = x % 1500 := ⟨_, rfl⟩
  have ht0 : 0 ≤ t := by omega
  have ht1 : t ≤ 1499 := by omega
  have HT := Lib.hid ht
  clear ht
  have hsc : surgeC m ps ss t = true := by rw [surgeC, hfo, inB_mk (by omega)]; rfl
  obtain ⟨sl, hsl⟩ : ∃ sl, sl = (surgeV ss t).low := ⟨_, rfl⟩
  obtain ⟨sh, hsh⟩ : ∃ sh, sh = (surgeV ss t).high := ⟨_, rfl⟩
  have hsb := surgeV_bd t hfo
  rw [← hsl, ← hsh] at hsb
  have HCS : Hid (∀ W, Below w2.heap.size w2 W → Calls Try.prog 20 #[.agg #[.int .i64 m, .slice A1 ps.length c1, .slice A2 ss.length c2], .int .i64 t] W fun e w' => e = .returned (.tuple #[.int .i64 sl, .int .i64 sh, .bool true]) ∧ Below W.heap.size W w') := Lib.hid fun W h => by
    have h1 := implSurgeAt_any m A1 A2 c1 c2 ps ss t W (p_2.next h).rd (q_2.next h).rd hwf hp2 hq2
    rw [lowS, highS, hsc, if_pos rfl, if_pos rfl, ← hsl, ← hsh] at h1
    exact h1
  have HBANDS : Hid (∀ cut, sl ≤ cut ∧ cut ≤ sh → foreOk m ps (revL ss t cut (sh + 5)) = true ∧ Bands m ps ss (revL ss t cut (sh + 5)) t sl sh (levelV t m ps) cut) := Lib.hid fun cut h => by
    rw [hsl, hsh] at h ⊢
    exact bands_of hfo (by omega) (by omega) h
  obtain ⟨lev, hlev⟩ : ∃ lev, lev = levelV t m ps := ⟨_, rfl⟩
  have hlb := hlv t
  rw [← hlev] at hlb HBANDS
  clear hlv hlev hsl hsh hfo
  have c0 := f_2.cell 0
  have c1_ := f_2.cell 1
  have c2_ := f_2.cell 2
  have HF2 := Lib.hid f_2
  have HP2 := Lib.hid p_2
  have HQ2 := Lib.hid q_2
  have HB2 := Lib.hid hB2
  have hbf2 : w1.heap.size < w2.heap.size := f_2.lt
  clear f_2 p_2 q_2 hsc hbb hBb hb2 hB2
  go_wp2_with fail
  rw [← HT.out]
  refine (HCS.out _ (Below.refl _ _)).mono ?_
  rintro e w3 ⟨rfl, hb3⟩
  have hY0 : Below w2.heap.size w2 w3.drew := hb3.drew
  have hf3 := HF2.out.next hb3
  have n0 := hf3.cell 0
  have n1 := hf3.cell 1
  have n2 := hf3.cell 2
  have hbf3 : w1.heap.size < w3.heap.size := hf3.lt
  have m0 := HF2.out.cell 0
  have m1 := HF2.out.cell 1
  have m2 := HF2.out.cell 2
  obtain ⟨lv, hlvv⟩ : ∃ lv, lv = lev + sl := ⟨_, rfl⟩
  obtain ⟨hv, hhvv⟩ : ∃ hv, hv = lev + sh := ⟨_, rfl⟩
  have hb00 := HBANDS.out sl ⟨by omega, by omega⟩
  have CF : Hid (∀ W, Below w2.heap.size w2 W → Calls Try.prog 17 #[.agg #[.int .i64 m, .slice A1 ps.length c1, .slice A2 ss.length c2]] W fun e w' => e = .returned (.bool true) ∧ Below W.heap.size W w') := Lib.hid fun W h => by
    have h1 := implForecastOk_any m A1 A2 c1 c2 ps ss W (HP2.out.next h).rd (HQ2.out.next h).rd hwf hp2 hq2
    rw [HFO.out] at h1
    exact h1
  have CL : Hid (∀ W, Below w2.heap.size w2 W → Calls Try.prog 22 #[.agg #[.int .i64 m, .slice A1 ps.length c1, .slice A2 ss.length c2], .int .i64 t] W fun e w' => e = .returned (.int .i64 lv) ∧ Below W.heap.size W w') := Lib.hid fun W h => by
    have h1 := implLowAt_any m A1 A2 c1 c2 ps ss t W (HP2.out.next h).rd (HQ2.out.next h).rd hwf hp2 hq2
    rw [hb00.2.low, ← hlvv] at h1
    exact h1
  have CH : Hid (∀ W, Below w2.heap.size w2 W → Calls Try.prog 24 #[.agg #[.int .i64 m, .slice A1 ps.length c1, .slice A2 ss.length c2], .int .i64 t] W fun e w' => e = .returned (.int .i64 hv) ∧ Below W.heap.size W w') := Lib.hid fun W h => by
    have h1 := implHighAt_any m A1 A2 c1 c2 ps ss t W (HP2.out.next h).rd (HQ2.out.next h).rd hwf hp2 hq2
    rw [hb00.2.high, ← hhvv] at h1
    exact h1
  have CI : Hid (∀ W, Below w2.heap.size w2 W → Calls Try.prog 26 #[.agg #[.int .i64 m, .slice A1 ps.length c1, .slice A2 ss.length c2], .int .i64 t, .int .i64 lv] W fun e w' => e = .returned (.bool true) ∧ Below W.heap.size W w') := Lib.hid fun W h => by
    have h1 := implInBand_any m A1 A2 c1 c2 ps ss t lv W (HP2.out.next h).rd (HQ2.out.next h).rd hwf hp2 hq2
    rw [hlvv, hb00.2.in_, ← hlvv] at h1
    exact h1
  have CJ : Hid (∀ W, Below w2.heap.size w2 W → Calls Try.prog 26 #[.agg #[.int .i64 m, .slice A1 ps.length c1, .slice A2 ss.length c2], .int .i64 t, .int .i64 (hv + 1)] W fun e w' => e = .returned (.bool false) ∧ Below W.heap.size W w') := Lib.hid fun W h => by
    have h1 := implInBand_any m A1 A2 c1 c2 ps ss t (hv + 1) W (HP2.out.next h).rd (HQ2.out.next h).rd hwf hp2 hq2
    rw [hhvv, hb00.2.out_, ← hhvv] at h1
    exact h1
  have e1 : IntKind.i64.wrap (hv + 1) = hv + 1 := IntWalk.i64_in _ (by omega)
  have e2 : IntKind.i64.wrap (hv - lv) = hv - lv := IntWalk.i64_in _ (by omega)
  have e3 : IntKind.i64.wrap (sh - sl) = sh - sl := IntWalk.i64_in _ (by omega)
  have e4 : (hv - lv == sh - sl) = true := beq_iff_eq.2 (by omega)
  have e5 : (hv - lv != sh - sl) = false := by rw [bne, e4]; rfl
  have e6 : decide (hv - lv = sh - sl) = true := decide_eq_true (by omega)
  have HHV := Lib.hid hhvv
  have HLVV := Lib.hid hlvv
  clear hb00 hhvv hlvv c0 c1_ c2_ hf3
  go_wp2_with fail
  refine wp_region_held_drew (S := (fun w' => w'.cell? ⟨w1.heap.size, 0, none⟩ = some (.int .i64 m) ∧ w'.cell? ⟨w1.heap.size, 1, none⟩ = some (.slice A1 ps.length c1) ∧ w'.cell? ⟨w1.heap.size, 2, none⟩ = some (.slice A2 ss.length c2))) (by kernel_rfl) ?_ (fun hHeld => ?_)
  · go_keep
  refine take_yes (i := 0) 26 (v := ?_) rfl rfl (by kernel_rfl) (by kernel_rfl) (by kernel_rfl) (fun _ _ _ h => h) (by rfl) ?_ (by assumption) ?_
  rotate_left
  · intro w hSw
    try dsimp only at hSw
    go_simp
    all_goals with_reducible rfl
  try simp only [Act.put, List.setIfInBounds_toArray, List.set_cons_zero, List.set_cons_succ]
  refine take_yes (i := 1) 27 (v := ?_) rfl rfl (by kernel_rfl) (by kernel_rfl) (by kernel_rfl) (fun _ _ _ h => h) (by rfl) ?_ (by assumption) ?_
  rotate_left
  · intro w hSw
    try dsimp only at hSw
    go_simp
    all_goals with_reducible rfl
  try simp only [Act.put, List.setIfInBounds_toArray, List.set_cons_zero, List.set_cons_succ]
  refine take_yes (i := 2) 28 (v := ?_) rfl rfl (by kernel_rfl) (by kernel_rfl) (by kernel_rfl) (fun _ _ _ h => h) (by rfl) ?_ (by assumption) ?_
  rotate_left
  · intro w hSw
    try dsimp only at hSw
    go_simp
    all_goals with_reducible rfl
  try simp only [Act.put, List.setIfInBounds_toArray, List.set_cons_zero, List.set_cons_succ]
  refine take_yes (i := 3) 29 (v := ?_) rfl rfl (by kernel_rfl) (by kernel_rfl) (by kernel_rfl) (fun _ _ _ h => h) (by rfl) ?_ (by assumption) ?_
  rotate_left
  · intro w hSw
    try dsimp only at hSw
    go_simp
    all_goals with_reducible rfl
  try simp only [Act.put, List.setIfInBounds_toArray, List.set_cons_zero, List.set_cons_succ]
  refine wpAnyH_ready (rs := [4]) (by kernel_rfl) (by simp) ?_
  refine AllReadyH.cons rfl (fun K hK => ?_) AllReadyH.nil
  go_simp
  go_at_call 17; refine (CF.out _ hY0).mono ?_; rintro e y1 ⟨rfl, hy1⟩; have hY1 := hY0.trans (hy1.mono hY0.size); have hcc1 : ∀ b o, b < w2.heap.size → y1.cell? ⟨b, o, none⟩ = w2.cell? ⟨b, o, none⟩ := (bcell hY1).1
  go_wp2_with fail
  refine hK.out _ _ ?_ (fun hHeld => ?_)
  · go_keep
  clear hK K
  refine take_yes (i := 5) 31 (v := ?_) rfl rfl (by kernel_rfl) (by kernel_rfl) (by kernel_rfl) (fun _ _ _ h => h) (by rfl) ?_ (by assumption) ?_
  rotate_left
  · intro w hSw
    try dsimp only at hSw
    go_simp
    all_goals with_reducible rfl
  try simp only [Act.put, List.setIfInBounds_toArray, List.set_cons_zero, List.set_cons_succ]
  refine take_yes (i := 6) 32 (v := ?_) rfl rfl (by kernel_rfl) (by kernel_rfl) (by kernel_rfl) (fun _ _ _ h => h) (by rfl) ?_ (by assumption) ?_
  rotate_left
  · intro w hSw
    try dsimp only at hSw
    go_simp
    all_goals with_reducible rfl
  try simp only [Act.put, List.setIfInBounds_toArray, List.set_cons_zero, List.set_cons_succ]
  refine take_yes (i := 7) 33 (v := ?_) rfl rfl (by kernel_rfl) (by kernel_rfl) (by kernel_rfl) (fun _ _ _ h => h) (by rfl) ?_ (by assumption) ?_
  rotate_left
  · intro w hSw
    try dsimp only at hSw
    go_simp
    all_goals with_reducible rfl
  try simp only [Act.put, List.setIfInBounds_toArray, List.set_cons_zero, List.set_cons_succ]
  refine take_yes (i := 8) 34 (v := ?_) rfl rfl (by kernel_rfl) (by kernel_rfl) (by kernel_rfl) (fun _ _ _ h => h) (by rfl) ?_ (by assumption) ?_
  rotate_left
  · intro w hSw
    try dsimp only at hSw
    go_simp
    all_goals with_reducible rfl
  try simp only [Act.put, List.setIfInBounds_toArray, List.set_cons_zero, List.set_cons_succ]
  refine take_yes (i := 9) 35 (v := ?_) rfl rfl (by kernel_rfl) (by kernel_rfl) (by kernel_rfl) (fun _ _ _ h => h) (by rfl) ?_ (by assumption) ?_
  rotate_left
  · intro w hSw
    try dsimp only at hSw
    go_simp
    all_goals with_reducible rfl
  try simp only [Act.put, List.setIfInBounds_toArray, List.set_cons_zero, List.set_cons_succ]
  refine take_yes (i := 10) 36 (v := ?_) rfl rfl (by kernel_rfl) (by kernel_rfl) (by kernel_rfl) (fun _ _ _ h => h) (by rfl) ?_ (by assumption) ?_
  rotate_left
  · intro w hSw
    try dsimp only at hSw
    go_simp
    all_goals with_reducible rfl
  try simp only [Act.put, List.setIfInBounds_toArray, List.set_cons_zero, List.set_cons_succ]
  refine take_yes (i := 11) 37 (v := ?_) rfl rfl (by kernel_rfl) (by kernel_rfl) (by kernel_rfl) (fun _ _ _ h => h) (by rfl) ?_ (by assumption) ?_
  rotate_left
  · intro w hSw
    try dsimp only at hSw
    go_simp
    all_goals with_reducible rfl
  try simp only [Act.put, List.setIfInBounds_toArray, List.set_cons_zero, List.set_cons_succ]
  refine wpAnyH_ready (rs := [12]) (by kernel_rfl) (by simp) ?_
  refine AllReadyH.cons rfl (fun K hK => ?_) AllReadyH.nil
  go_simp
  go_at_call 22; refine (CL.out _ hY1).mono ?_; rintro e y2 ⟨rfl, hy2⟩; have hY2 := hY1.trans (hy2.mono hY1.size); have hcc2 : ∀ b o, b < w2.heap.size → y2.cell? ⟨b, o, none⟩ = w2.cell? ⟨b, o, none⟩ := (bcell hY2).1
  go_wp2_with fail
  refine hK.out _ _ ?_ (fun hHeld => ?_)
  · go_keep
  clear hK K
  refine wpAnyH_ready (rs := [13]) (by kernel_rfl) (by simp) ?_
  refine AllReadyH.cons rfl (fun K hK => ?_) AllReadyH.nil
  go_simp
  go_at_call 26; refine (CI.out _ hY2).mono ?_; rintro e y3 ⟨rfl, hy3⟩; have hY3 := hY2.trans (hy3.mono hY2.size); have hcc3 : ∀ b o, b < w2.heap.size → y3.cell? ⟨b, o, none⟩ = w2.cell? ⟨b, o, none⟩ := (bcell hY3).1
  go_wp2_with fail
  refine hK.out _ _ ?_ (fun hHeld => ?_)
  · go_keep
  clear hK K
  refine take_yes (i := 14) 40 (v := ?_) rfl rfl (by kernel_rfl) (by kernel_rfl) (by kernel_rfl) (fun _ _ _ h => h) (by rfl) ?_ (by assumption) ?_
  rotate_left
  · intro w hSw
    try dsimp only at hSw
    go_simp
    all_goals with_reducible rfl
  try simp only [Act.put, List.setIfInBounds_toArray, List.set_cons_zero, List.set_cons_succ]
  refine take_yes (i := 15) 41 (v := ?_) rfl rfl (by kernel_rfl) (by kernel_rfl) (by kernel_rfl) (fun _ _ _ h => h) (by rfl) ?_ (by assumption) ?_
  rotate_left
  · intro w hSw
    try dsimp only at hSw
    go_simp
    all_goals with_reducible rfl
  try simp only [Act.put, List.setIfInBounds_toArray, List.set_cons_zero, List.set_cons_succ]
  refine take_yes (i := 16) 42 (v := ?_) rfl rfl (by kernel_rfl) (by kernel_rfl) (by kernel_rfl) (fun _ _ _ h => h) (by rfl) ?_ (by assumption) ?_
  rotate_left
  · intro w hSw
    try dsimp only at hSw
    go_simp
    all_goals with_reducible rfl
  try simp only [Act.put, List.setIfInBounds_toArray, List.set_cons_zero, List.set_cons_succ]
  refine take_yes (i := 17) 43 (v := ?_) rfl rfl (by kernel_rfl) (by kernel_rfl) (by kernel_rfl) (fun _ _ _ h => h) (by rfl) ?_ (by assumption) ?_
  rotate_left
  · intro w hSw
    try dsimp only at hSw
    go_simp
    all_goals with_reducible rfl
  try simp only [Act.put, List.setIfInBounds_toArray, List.set_cons_zero, List.set_cons_succ]
  refine take_yes (i := 18) 44 (v := ?_) rfl rfl (by kernel_rfl) (by kernel_rfl) (by kernel_rfl) (fun _ _ _ h => h) (by rfl) ?_ (by assumption) ?_
  rotate_left
  · intro w hSw
    try dsimp only at hSw
    go_simp
    all_goals with_reducible rfl
  try simp only [Act.put, List.setIfInBounds_toArray, List.set_cons_zero, List.set_cons_succ]
  refine take_yes (i := 19) 45 (v := ?_) rfl rfl (by kernel_rfl) (by kernel_rfl) (by kernel_rfl) (fun _ _ _ h => h) (by rfl) ?_ (by assumption) ?_
  rotate_left
  · intro w hSw
    try dsimp only at hSw
    go_simp
    all_goals with_reducible rfl
  try simp only [Act.put, List.setIfInBounds_toArray, List.set_cons_zero, List.set_cons_succ]
  refine take_yes (i := 20) 46 (v := ?_) rfl rfl (by kernel_rfl) (by kernel_rfl) (by kernel_rfl) (fun _ _ _ h => h) (by rfl) ?_ (by assumption) ?_
  rotate_left
  · intro w hSw
    try dsimp only at hSw
    go_simp
    all_goals with_reducible rfl
  try simp only [Act.put, List.setIfInBounds_toArray, List.set_cons_zero, List.set_cons_succ]
  refine wpAnyH_ready (rs := [21]) (by kernel_rfl) (by simp) ?_
  refine AllReadyH.cons rfl (fun K hK => ?_) AllReadyH.nil
  go_simp
  go_at_call 24; refine (CH.out _ hY3).mono ?_; rintro e y4 ⟨rfl, hy4⟩; have hY4 := hY3.trans (hy4.mono hY3.size); have hcc4 : ∀ b o, b < w2.heap.size → y4.cell? ⟨b, o, none⟩ = w2.cell? ⟨b, o, none⟩ := (bcell hY4).1
  go_wp2_with fail
  refine hK.out _ _ ?_ (fun hHeld => ?_)
  · go_keep
  clear hK K
  refine take_yes (i := 22) 48 (v := ?_) rfl rfl (by kernel_rfl) (by kernel_rfl) (by kernel_rfl) (fun _ _ _ h => h) (by rfl) ?_ (by assumption) ?_
  rotate_left
  · intro w hSw
    try dsimp only at hSw
    go_simp
    all_goals with_reducible rfl
  try simp only [Act.put, List.setIfInBounds_toArray, List.set_cons_zero, List.set_cons_succ]
  refine wpAnyH_ready (rs := [23]) (by kernel_rfl) (by simp) ?_
  refine AllReadyH.cons rfl (fun K hK => ?_) AllReadyH.nil
  go_simp
  go_at_call 26; refine (CJ.out _ hY4).mono ?_; rintro e y5 ⟨rfl, hy5⟩; have hY5 := hY4.trans (hy5.mono hY4.size); have hcc5 : ∀ b o, b < w2.heap.size → y5.cell? ⟨b, o, none⟩ = w2.cell? ⟨b, o, none⟩ := (bcell hY5).1
  go_wp2_with fail
  refine hK.out _ _ ?_ (fun hHeld => ?_)
  · go_keep
  clear hK K
  refine take_yes (i := 24) 50 (v := ?_) rfl rfl (by kernel_rfl) (by kernel_rfl) (by kernel_rfl) (fun _ _ _ h => h) (by rfl) ?_ (by assumption) ?_
  rotate_left
  · intro w hSw
    try dsimp only at hSw
    go_simp
    all_goals with_reducible rfl
  try simp only [Act.put, List.setIfInBounds_toArray, List.set_cons_zero, List.set_cons_succ]
  refine take_yes (i := 25) 51 (v := ?_) rfl rfl (by kernel_rfl) (by kernel_rfl) (by kernel_rfl) (fun _ _ _ h => h) (by rfl) ?_ (by assumption) ?_
  rotate_left
  · intro w hSw
    try dsimp only at hSw
    go_simp
    all_goals with_reducible rfl
  try simp only [Act.put, List.setIfInBounds_toArray, List.set_cons_zero, List.set_cons_succ]
  refine take_yes (i := 26) 52 (v := ?_) rfl rfl (by kernel_rfl) (by kernel_rfl) (by kernel_rfl) (fun _ _ _ h => h) (by rfl) ?_ (by assumption) ?_
  rotate_left
  · intro w hSw
    try dsimp only at hSw
    go_simp
    all_goals with_reducible rfl
  try simp only [Act.put, List.setIfInBounds_toArray, List.set_cons_zero, List.set_cons_succ]
  refine take_yes (i := 27) 53 (v := ?_) rfl rfl (by kernel_rfl) (by kernel_rfl) (by kernel_rfl) (fun _ _ _ h => h) (by rfl) ?_ (by assumption) ?_
  rotate_left
  · intro w hSw
    try dsimp only at hSw
    go_simp
    all_goals with_reducible rfl
  try simp only [Act.put, List.setIfInBounds_toArray, List.set_cons_zero, List.set_cons_succ]
  refine take_yes (i := 29) 55 (v := ?_) rfl rfl (by kernel_rfl) (by kernel_rfl) (by kernel_rfl) (fun _ _ _ h => h) (by rfl) ?_ (by assumption) ?_
  rotate_left
  · intro w hSw
    try dsimp only at hSw
    go_simp
    all_goals with_reducible rfl
  try simp only [Act.put, List.setIfInBounds_toArray, List.set_cons_zero, List.set_cons_succ]
  refine take_yes (i := 30) 56 (v := ?_) rfl rfl (by kernel_rfl) (by kernel_rfl) (by kernel_rfl) (fun _ _ _ h => h) (by rfl) ?_ (by assumption) ?_
  rotate_left
  · intro w hSw
    try dsimp only at hSw
    go_simp
    all_goals with_reducible rfl
  try simp only [Act.put, List.setIfInBounds_toArray, List.set_cons_zero, List.set_cons_succ]
  refine take_yes (i := 33) 59 (v := ?_) rfl rfl (by kernel_rfl) (by kernel_rfl) (by kernel_rfl) (fun _ _ _ h => h) (by rfl) ?_ (by assumption) ?_
  rotate_left
  · intro w hSw
    try dsimp only at hSw
    go_simp
    all_goals with_reducible rfl
  try simp only [Act.put, List.setIfInBounds_toArray, List.set_cons_zero, List.set_cons_succ]
  refine take_yes (i := 34) 60 (v := ?_) rfl rfl (by kernel_rfl) (by kernel_rfl) (by kernel_rfl) (fun _ _ _ h => h) (by rfl) ?_ (by assumption) ?_
  rotate_left
  · intro w hSw
    try dsimp only at hSw
    go_simp
    all_goals with_reducible rfl
  try simp only [Act.put, List.setIfInBounds_toArray, List.set_cons_zero, List.set_cons_succ]
  refine take_yes (i := 35) 61 (v := ?_) rfl rfl (by kernel_rfl) (by kernel_rfl) (by kernel_rfl) (fun _ _ _ h => h) (by rfl) ?_ (by assumption) ?_
  rotate_left
  · intro w hSw
    try dsimp only at hSw
    go_simp
    all_goals with_reducible rfl
  try simp only [Act.put, List.setIfInBounds_toArray, List.set_cons_zero, List.set_cons_succ]
  refine wpAnyH_ready (rs := [28]) (by kernel_rfl) (by simp) ?_
  refine AllReadyH.cons rfl (fun K hK => ?_) AllReadyH.nil
  go_simp
  go_at_call 24; refine (CH.out _ hY5).mono ?_; rintro e y6 ⟨rfl, hy6⟩; have hY6 := hY5.trans (hy6.mono hY5.size); have hcc6 : ∀ b o, b < w2.heap.size → y6.cell? ⟨b, o, none⟩ = w2.cell? ⟨b, o, none⟩ := (bcell hY6).1
  go_wp2_with fail
  refine hK.out _ _ ?_ (fun hHeld => ?_)
  · go_keep
  clear hK K
  refine wpAnyH_ready (rs := [31]) (by kernel_rfl) (by simp) ?_
  refine AllReadyH.cons rfl (fun K hK => ?_) AllReadyH.nil
  go_simp
  go_at_call 22; refine (CL.out _ hY6).mono ?_; rintro e y7 ⟨rfl, hy7⟩; have hY7 := hY6.trans (hy7.mono hY6.size); have hcc7 : ∀ b o, b < w2.heap.size → y7.cell? ⟨b, o, none⟩ = w2.cell? ⟨b, o, none⟩ := (bcell hY7).1
  go_wp2_with fail
  refine hK.out _ _ ?_ (fun hHeld => ?_)
  · go_keep
  clear hK K
  refine take_yes (i := 32) 58 (v := ?_) rfl rfl (by kernel_rfl) (by kernel_rfl) (by kernel_rfl) (fun _ _ _ h => h) (by rfl) ?_ (by assumption) ?_
  rotate_left
  · intro w hSw
    try dsimp only at hSw
    go_simp
    all_goals with_reducible rfl
  try simp only [Act.put, List.setIfInBounds_toArray, List.set_cons_zero, List.set_cons_succ]
  refine take_yes (i := 36) 62 (v := ?_) rfl rfl (by kernel_rfl) (by kernel_rfl) (by kernel_rfl) (fun _ _ _ h => h) (by rfl) ?_ (by assumption) ?_
  rotate_left
  · intro w hSw
    try dsimp only at hSw
    go_simp
    all_goals with_reducible rfl
  try simp only [Act.put, List.setIfInBounds_toArray, List.set_cons_zero, List.set_cons_succ]
  refine take_yes (i := 37) 63 (v := ?_) rfl rfl (by kernel_rfl) (by kernel_rfl) (by kernel_rfl) (fun _ _ _ h => h) (by rfl) ?_ (by assumption) ?_
  rotate_left
  · intro w hSw
    try dsimp only at hSw
    go_simp
    all_goals with_reducible rfl
  try simp only [Act.put, List.setIfInBounds_toArray, List.set_cons_zero, List.set_cons_succ]
  refine wpAnyH_done (by kernel_rfl) ?_ _
  go_wp2_with fail
  have HB7 := Lib.hid (HB2.out.trans (hY7.mono HB2.out.size))
  have HX7 := Lib.hid hY7
  clear m0 m1 m2 n0 n1 n2 hY0 hY1 hY2 hY3 hY4 hY5 hY6 hY7 hy1 hy2 hy3 hy4 hy5 hy6 hy7 hcc1 hcc2 hcc3 hcc4 hcc5 hcc6 hcc7 CF CI CJ e1 e2 e4 e5 e6 HCS
  refine (MakeNum_any A c 62 zs _ ((hr.below HB7.out).more HB7.out.size) hlen hz (by omega)).mono ?_
  rintro e w4 ⟨y, rfl, hyy0, hyy1, hb4⟩
  have hX4 := HX7.out.trans (hb4.mono HX7.out.size)
  have e7 : IntKind.i64.wrap (sh - sl + 1) = sh - sl + 1 := IntWalk.i64_in _ (by omega)
  have e8 : ¬ sh - sl + 1 = 0 := by omega
  have e9 : IntKind.i64.wrap (sh + 5) = sh + 5 := IntWalk.i64_in _ (by omega)
  obtain ⟨cut, hcut⟩ : ∃ cut, cut = sl + y % (sh - sl + 1) := ⟨_, rfl⟩
  have hy1 := Int.emod_nonneg y (show sh - sl + 1 ≠ 0 from e8)
  have hy2 := Int.emod_lt_of_pos y (show 0 < sh - sl + 1 by omega)
  have hc1 : sl ≤ cut := by omega
  have hc2 : cut ≤ sh := by omega
  have e10 : IntKind.i64.wrap (sl + y % (sh - sl + 1)) = sl + y % (sh - sl + 1) := IntWalk.i64_in _ (by omega)
  have HCUT := Lib.hid hcut
  have hbands := HBANDS.out cut ⟨hc1, hc2⟩
  obtain ⟨L, hL⟩ : ∃ L, L = revL ss t cut (sh + 5) := ⟨_, rfl⟩
  have hll := revL_len ss t cut (sh + 5)
  have hrc : revC m ps ss t cut (sh + 5) = true := by rw [revC, hbands.1, Bool.and_true, surgeC, HFO.out, inB_mk (by omega)]; rfl
  rw [← hL] at hbands hll
  have hL2 : L.length ≤ 1048576 := by omega
  have HBD := Lib.hid hbands
  have HRV : Hid (Calls Try.prog 28 #[.agg #[.int .i64 m, .slice A1 ps.length c1, .slice A2 ss.length c2], .int .i64 t, .int .i64 cut, .int .i64 (sh + 5)] w4 fun e w' => ∃ B d B' d', e = .returned (.tuple #[.agg #[.int .i64 m, .slice B ps.length d, .slice B' L.length d'], .bool true]) ∧ Sl w' w4.heap.size w'.heap.size B 91 Part.at_ 3 ps ∧ Sl w' w4.heap.size w'.heap.size B' 66 Surge.at_ 3 L ∧ Below w4.heap.size w4 w') := Lib.hid (by
    rw [hL]
    exact (implReviseBand_any m A1 A2 c1 c2 ps ss t cut (sh + 5) w4 (HP2.out.next hX4).rd (HQ2.out.next hX4).rd hwf hp2 hq2 hcp).mono fun e w' h => ResRev.get hrc h)
  have hf4 := HF2.out.next hX4
  have n0 := hf4.cell 0
  have n1 := hf4.cell 1
  have n2 := hf4.cell 2
  have hbf4 : w1.heap.size < w4.heap.size := hf4.lt
  have HF4 := Lib.hid hf4
  have HX4 := Lib.hid hX4
  clear hcut hy1 hy2 hbands hL hll hrc hf4 hX4 hb4
  go_wp2_with fail
  rw [← HCUT.out]
  refine HRV.out.mono ?_
  rintro e w5 ⟨B1, d1, B2, d2, rfl, hg1, hg2, hb5⟩
  have hX5 := HX4.out.trans (hb5.mono HX4.out.size)
  have hf5 := HF4.out.next hb5
  obtain ⟨wg, hwg⟩ : ∃ wg, wg = w5.alloc (.cells #[.int .i64 m, .slice B1 ps.length d1, .slice B2 L.length d2] 35) := ⟨_, rfl⟩
  have hbg : Below w5.heap.size w5 wg := by rw [hwg]; exact (Below.refl _ _).alloc (Nat.le_refl _) _
  have hgk : Blk wg w5.heap.size 35 #[.int .i64 m, .slice B1 ps.length d1, .slice B2 L.length d2] := by rw [hwg]; exact Blk.new _ _ _
  obtain ⟨bg, hbgn⟩ : ∃ bg, bg = w5.heap.size := ⟨_, rfl⟩
  rw [← hbgn] at hgk
  have hXg := hX5.trans (hbg.mono hX5.size)
  have hfg := hf5.next hbg
  have HG1 := Lib.hid (hg1.next hbg)
  have HG2 := Lib.hid (hg2.next hbg)
  have HFG := Lib.hid hfg
  have HGK := Lib.hid hgk
  have HXG := Lib.hid hXg
  have HWG := Lib.hid hwg
  have HBG := Lib.hid hbgn
  have k0 : ∀ o, (w5.alloc o).cell? ⟨w1.heap.size, 2, none⟩ = some (.slice A2 ss.length c2) := fun o => (hf5.alloc o).cell 2
  have e11 : ¬ 6 ≤ (ss.length : Int) := by omega
  have e12 : decide (6 ≤ (ss.length : Int)) = false := decide_eq_false e11
  have hbf5 : w1.heap.size < w5.heap.size := hf5.lt
  clear n0 n1 n2 hwg hbgn hgk hfg hXg hg1 hg2 hb5 hbg hf5 hX5 e7 e8 e9 e10
  go_wp2_with fail
  rw [← HWG.out, ← HBG.out]
  clear k0 e11 e12 hbf5 hbf4 hbf3 e3
  have hv0 := HHV.out
  have hbd := HBD.out.2
  have hcF : ∀ W, Below wg.heap.size wg W → Rd W W.heap.size Part.at_ 3 A1 ps ∧ Rd W W.heap.size Surge.at_ 3 A2 ss := fun W h => ⟨(HP2.out.next (HXG.out.trans (h.mono HXG.out.size))).rd, (HQ2.out.next (HXG.out.trans (h.mono HXG.out.size))).rd⟩
  have CN : Hid (∀ W, Below wg.heap.size wg W → Calls Try.prog 32 #[.agg #[.int .i64 m, .slice B1 ps.length d1, .slice B2 L.length d2], .agg #[.int .i64 m, .slice A1 ps.length c1, .slice A2 ss.length c2]] W fun e w' => e = .returned (.bool true) ∧ Below W.heap.size W w') := Lib.hid fun W h => by
    have h1 := implNarrowerBand_any m m B1 B2 A1 A2 d1 d2 c1 c2 ps ps L ss W (HG1.out.next h).rd (HG2.out.next h).rd (hcF W h).1 (hcF W h).2 hwf hwf hp2 hL2 hp2 hq2
    rw [hbd.nar] at h1
    exact h1
  have CO : Hid (∀ W, Below wg.heap.size wg W → Calls Try.prog 32 #[.agg #[.int .i64 m, .slice A1 ps.length c1, .slice A2 ss.length c2], .agg #[.int .i64 m, .slice A1 ps.length c1, .slice A2 ss.length c2]] W fun e w' => e = .returned (.bool true) ∧ Below W.heap.size W w') := Lib.hid fun W h => by
    have h1 := implNarrowerBand_any m m A1 A2 A1 A2 c1 c2 c1 c2 ps ps ss ss W (hcF W h).1 (hcF W h).2 (hcF W h).1 (hcF W h).2 hwf hwf hp2 hq2 hp2 hq2
    rw [hbd.self] at h1
    exact h1
  have CP : Hid (∀ W, Below wg.heap.size wg W → Calls Try.prog 22 #[.agg #[.int .i64 m, .slice B1 ps.length d1, .slice B2 L.length d2], .int .i64 t] W fun e w' => e = .returned (.int .i64 (lev + cut)) ∧ Below W.heap.size W w') := Lib.hid fun W h => by
    have h1 := implLowAt_any m B1 B2 d1 d2 ps L t W (HG1.out.next h).rd (HG2.out.next h).rd hwf hp2 hL2
    rw [hbd.glow] at h1
    exact h1
  have CV : Hid (∀ W, Below wg.heap.size wg W → Calls Try.prog 42 #[.agg #[.int .i64 m, .slice A1 ps.length c1], .int .i64 t] W fun e w' => e = .returned (.int .i64 lev) ∧ Below W.heap.size W w') := Lib.hid fun W h => by
    have h1 := implLevelAt_any m A1 c1 ps t W (hcF W h).1 hwf hp2
    rw [hbd.lev_] at h1
    exact h1
  have CQ : Hid (∀ W, Below wg.heap.size wg W → Calls Try.prog 24 #[.agg #[.int .i64 m, .slice B1 ps.length d1, .slice B2 L.length d2], .int .i64 t] W fun e w' => e = .returned (.int .i64 hv) ∧ Below W.heap.size W w') := Lib.hid fun W h => by
    have h1 := implHighAt_any m B1 B2 d1 d2 ps L t W (HG1.out.next h).rd (HG2.out.next h).rd hwf hp2 hL2
    rw [hbd.ghigh, ← hv0] at h1
    exact h1
  have CR : Hid (∀ W, Below wg.heap.size wg W → Calls Try.prog 24 #[.agg #[.int .i64 m, .slice A1 ps.length c1, .slice A2 ss.length c2], .int .i64 t] W fun e w' => e = .returned (.int .i64 hv) ∧ Below W.heap.size W w') := Lib.hid fun W h => CH.out W (HXG.out.trans (h.mono HXG.out.size))
  obtain ⟨pv, hpv⟩ : ∃ pv, pv = lowF m ps ss (t - 1) := ⟨_, rfl⟩
  have CT : Hid (1 ≤ t → ∀ W, Below wg.heap.size wg W → Calls Try.prog 22 #[.agg #[.int .i64 m, .slice B1 ps.length d1, .slice B2 L.length d2], .int .i64 (t - 1)] W fun e w' => e = .returned (.int .i64 pv) ∧ Below W.heap.size W w') := Lib.hid fun ht W h => by
    have h1 := implLowAt_any m B1 B2 d1 d2 ps L (t - 1) W (HG1.out.next h).rd (HG2.out.next h).rd hwf hp2 hL2
    rw [hbd.gprev ht, ← hpv] at h1
    exact h1
  have CU : Hid (∀ W, Below wg.heap.size wg W → Calls Try.prog 22 #[.agg #[.int .i64 m, .slice A1 ps.length c1, .slice A2 ss.length c2], .int .i64 (t - 1)] W fun e w' => e = .returned (.int .i64 pv) ∧ Below W.heap.size W w') := Lib.hid fun W h => by
    have h1 := implLowAt_any m A1 A2 c1 c2 ps ss (t - 1) W (hcF W h).1 (hcF W h).2 hwf hp2 hq2
    rw [← hpv] at h1
    exact h1
  have m0 := HFG.out.cell 0
  have m1 := HFG.out.cell 1
  have m2 := HFG.out.cell 2
  have g0 := HGK.out.cell 0
  have g1 := HGK.out.cell 1
  have g2 := HGK.out.cell 2
  have hbfg : w1.heap.size < wg.heap.size := HFG.out.lt
  have hbgg : bg < wg.heap.size := HGK.out.lt
  have e20 : IntKind.i64.wrap (lev + cut) = lev + cut := IntWalk.i64_in _ (by omega)
  have e21 : IntKind.i64.wrap (t - 1) = t - 1 := IntWalk.i64_in _ (by omega)
  have hY0 : Below wg.heap.size wg wg.drew := (Below.refl _ _).drew
  have HB4 := Lib.hid (HB2.out.trans (HXG.out.mono HB2.out.size))
  clear hpv hbd hv0 hcF hlb hr
  by_cases ht : t = 0
  · have s1 : (t == 0) = true := beq_iff_eq.2 ht
    have s2 : decide (t = 0) = true := decide_eq_true ht
    clear ht CT CU
    refine wp_region_held_drew (S := (fun w' => w'.cell? ⟨w1.heap.size, 0, none⟩ = some (.int .i64 m) ∧ w'.cell? ⟨w1.heap.size, 1, none⟩ = some (.slice A1 ps.length c1) ∧ w'.cell? ⟨w1.heap.size, 2, none⟩ = some (.slice A2 ss.length c2) ∧ w'.cell? ⟨bg, 0, none⟩ = some (.int .i64 m) ∧ w'.cell? ⟨bg, 1, none⟩ = some (.slice B1 ps.length d1) ∧ w'.cell? ⟨bg, 2, none⟩ = some (.slice B2 L.length d2))) (by kernel_rfl) ?_ (fun hHeld => ?_)
    · go_keep
    refine take_yes (i := 0) 86 (v := ?_) rfl rfl (by kernel_rfl) (by kernel_rfl) (by kernel_rfl) (fun _ _ _ h => h) (by rfl) ?_ (by assumption) ?_
    rotate_left
    · intro w hSw
      try dsimp only at hSw
      go_simp
      all_goals with_reducible rfl
    try simp only [Act.put, List.setIfInBounds_toArray, List.set_cons_zero, List.set_cons_succ]
    refine take_yes (i := 1) 87 (v := ?_) rfl rfl (by kernel_rfl) (by kernel_rfl) (by kernel_rfl) (fun _ _ _ h => h) (by rfl) ?_ (by assumption) ?_
    rotate_left
    · intro w hSw
      try dsimp only at hSw
      go_simp
      all_goals with_reducible rfl
    try simp only [Act.put, List.setIfInBounds_toArray, List.set_cons_zero, List.set_cons_succ]
    refine take_yes (i := 2) 88 (v := ?_) rfl rfl (by kernel_rfl) (by kernel_rfl) (by kernel_rfl) (fun _ _ _ h => h) (by rfl) ?_ (by assumption) ?_
    rotate_left
    · intro w hSw
      try dsimp only at hSw
      go_simp
      all_goals with_reducible rfl
    try simp only [Act.put, List.setIfInBounds_toArray, List.set_cons_zero, List.set_cons_succ]
    refine take_yes (i := 3) 89 (v := ?_) rfl rfl (by kernel_rfl) (by kernel_rfl) (by kernel_rfl) (fun _ _ _ h => h) (by rfl) ?_ (by assumption) ?_
    rotate_left
    · intro w hSw
      try dsimp only at hSw
      go_simp
      all_goals with_reducible rfl
    try simp only [Act.put, List.setIfInBounds_toArray, List.set_cons_zero, List.set_cons_succ]
    refine wpAnyH_ready (rs := [4]) (by kernel_rfl) (by simp) ?_
    refine AllReadyH.cons rfl (fun K hK => ?_) AllReadyH.nil
    go_simp
    go_at_call 32; refine (CN.out _ hY0).mono ?_; rintro e z1 ⟨rfl, hz1⟩; have hY1 := hY0.trans (hz1.mono hY0.size); have hcc1 : ∀ b o, b < wg.heap.size → z1.cell? ⟨b, o, none⟩ = wg.cell? ⟨b, o, none⟩ := (bcell hY1).1
    go_wp2_with fail
    refine hK.out _ _ ?_ (fun hHeld => ?_)
    · go_keep
    clear hK K
    refine take_yes (i := 5) 91 (v := ?_) rfl rfl (by kernel_rfl) (by kernel_rfl) (by kernel_rfl) (fun _ _ _ h => h) (by rfl) ?_ (by assumption) ?_
    rotate_left
    · intro w hSw
      try dsimp only at hSw
      go_simp
      all_goals with_reducible rfl
    try simp only [Act.put, List.setIfInBounds_toArray, List.set_cons_zero, List.set_cons_succ]
    refine take_yes (i := 6) 92 (v := ?_) rfl rfl (by kernel_rfl) (by kernel_rfl) (by kernel_rfl) (fun _ _ _ h => h) (by rfl) ?_ (by assumption) ?_
    rotate_left
    · intro w hSw
      try dsimp only at hSw
      go_simp
      all_goals with_reducible rfl
    try simp only [Act.put, List.setIfInBounds_toArray, List.set_cons_zero, List.set_cons_succ]
    refine take_yes (i := 7) 93 (v := ?_) rfl rfl (by kernel_rfl) (by kernel_rfl) (by kernel_rfl) (fun _ _ _ h => h) (by rfl) ?_ (by assumption) ?_
    rotate_left
    · intro w hSw
      try dsimp only at hSw
      go_simp
      all_goals with_reducible rfl
    try simp only [Act.put, List.setIfInBounds_toArray, List.set_cons_zero, List.set_cons_succ]
    refine take_yes (i := 8) 94 (v := ?_) rfl rfl (by kernel_rfl) (by kernel_rfl) (by kernel_rfl) (fun _ _ _ h => h) (by rfl) ?_ (by assumption) ?_
    rotate_left
    · intro w hSw
      try dsimp only at hSw
      go_simp
      all_goals with_reducible rfl
    try simp only [Act.put, List.setIfInBounds_toArray, List.set_cons_zero, List.set_cons_succ]
    refine take_yes (i := 10) 96 (v := ?_) rfl rfl (by kernel_rfl) (by kernel_rfl) (by kernel_rfl) (fun _ _ _ h => h) (by rfl) ?_ (by assumption) ?_
    rotate_left
    · intro w hSw
      try dsimp only at hSw
      go_simp
      all_goals with_reducible rfl
    try simp only [Act.put, List.setIfInBounds_toArray, List.set_cons_zero, List.set_cons_succ]
    refine take_yes (i := 11) 97 (v := ?_) rfl rfl (by kernel_rfl) (by kernel_rfl) (by kernel_rfl) (fun _ _ _ h => h) (by rfl) ?_ (by assumption) ?_
    rotate_left
    · intro w hSw
      try dsimp only at hSw
      go_simp
      all_goals with_reducible rfl
    try simp only [Act.put, List.setIfInBounds_toArray, List.set_cons_zero, List.set_cons_succ]
    refine take_yes (i := 12) 98 (v := ?_) rfl rfl (by kernel_rfl) (by kernel_rfl) (by kernel_rfl) (fun _ _ _ h => h) (by rfl) ?_ (by assumption) ?_
    rotate_left
    · intro w hSw
      try dsimp only at hSw
      go_simp
      all_goals with_reducible rfl
    try simp only [Act.put, List.setIfInBounds_toArray, List.set_cons_zero, List.set_cons_succ]
    refine take_yes (i := 14) 100 (v := ?_) rfl rfl (by kernel_rfl) (by kernel_rfl) (by kernel_rfl) (fun _ _ _ h => h) (by rfl) ?_ (by assumption) ?_
    rotate_left
    · intro w hSw
      try dsimp only at hSw
      go_simp
      all_goals with_reducible rfl
    try simp only [Act.put, List.setIfInBounds_toArray, List.set_cons_zero, List.set_cons_succ]
    refine wpAnyH_ready (rs := [9]) (by kernel_rfl) (by simp) ?_
    refine AllReadyH.cons rfl (fun K hK => ?_) AllReadyH.nil
    go_simp
    go_at_call 22; refine (CP.out _ hY1).mono ?_; rintro e z2 ⟨rfl, hz2⟩; have hY2 := hY1.trans (hz2.mono hY1.size); have hcc2 : ∀ b o, b < wg.heap.size → z2.cell? ⟨b, o, none⟩ = wg.cell? ⟨b, o, none⟩ := (bcell hY2).1
    go_wp2_with fail
    refine hK.out _ _ ?_ (fun hHeld => ?_)
    · go_keep
    clear hK K
    refine wpAnyH_ready (rs := [13]) (by kernel_rfl) (by simp) ?_
    refine AllReadyH.cons rfl (fun K hK => ?_) AllReadyH.nil
    go_simp
    go_at_call 42; refine (CV.out _ hY2).mono ?_; rintro e z3 ⟨rfl, hz3⟩; have hY3 := hY2.trans (hz3.mono hY2.size); have hcc3 : ∀ b o, b < wg.heap.size → z3.cell? ⟨b, o, none⟩ = wg.cell? ⟨b, o, none⟩ := (bcell hY3).1
    go_wp2_with fail
    refine hK.out _ _ ?_ (fun hHeld => ?_)
    · go_keep
    clear hK K
    refine take_yes (i := 15) 101 (v := ?_) rfl rfl (by kernel_rfl) (by kernel_rfl) (by kernel_rfl) (fun _ _ _ h => h) (by rfl) ?_ (by assumption) ?_
    rotate_left
    · intro w hSw
      try dsimp only at hSw
      go_simp
      all_goals with_reducible rfl
    try simp only [Act.put, List.setIfInBounds_toArray, List.set_cons_zero, List.set_cons_succ]
    refine take_yes (i := 16) 102 (v := ?_) rfl rfl (by kernel_rfl) (by kernel_rfl) (by kernel_rfl) (fun _ _ _ h => h) (by rfl) ?_ (by assumption) ?_
    rotate_left
    · intro w hSw
      try dsimp only at hSw
      go_simp
      all_goals with_reducible rfl
    try simp only [Act.put, List.setIfInBounds_toArray, List.set_cons_zero, List.set_cons_succ]
    refine take_yes (i := 17) 103 (v := ?_) rfl rfl (by kernel_rfl) (by kernel_rfl) (by kernel_rfl) (fun _ _ _ h => h) (by rfl) ?_ (by assumption) ?_
    rotate_left
    · intro w hSw
      try dsimp only at hSw
      go_simp
      all_goals with_reducible rfl
    try simp only [Act.put, List.setIfInBounds_toArray, List.set_cons_zero, List.set_cons_succ]
    refine take_yes (i := 18) 104 (v := ?_) rfl rfl (by kernel_rfl) (by kernel_rfl) (by kernel_rfl) (fun _ _ _ h => h) (by rfl) ?_ (by assumption) ?_
    rotate_left
    · intro w hSw
      try dsimp only at hSw
      go_simp
      all_goals with_reducible rfl
    try simp only [Act.put, List.setIfInBounds_toArray, List.set_cons_zero, List.set_cons_succ]
    refine take_yes (i := 19) 105 (v := ?_) rfl rfl (by kernel_rfl) (by kernel_rfl) (by kernel_rfl) (fun _ _ _ h => h) (by rfl) ?_ (by assumption) ?_
    rotate_left
    · intro w hSw
      try dsimp only at hSw
      go_simp
      all_goals with_reducible rfl
    try simp only [Act.put, List.setIfInBounds_toArray, List.set_cons_zero, List.set_cons_succ]
    refine take_yes (i := 20) 106 (v := ?_) rfl rfl (by kernel_rfl) (by kernel_rfl) (by kernel_rfl) (fun _ _ _ h => h) (by rfl) ?_ (by assumption) ?_
    rotate_left
    · intro w hSw
      try dsimp only at hSw
      go_simp
      all_goals with_reducible rfl
    try simp only [Act.put, List.setIfInBounds_toArray, List.set_cons_zero, List.set_cons_succ]
    refine take_yes (i := 22) 108 (v := ?_) rfl rfl (by kernel_rfl) (by kernel_rfl) (by kernel_rfl) (fun _ _ _ h => h) (by rfl) ?_ (by assumption) ?_
    rotate_left
    · intro w hSw
      try dsimp only at hSw
      go_simp
      all_goals with_reducible rfl
    try simp only [Act.put, List.setIfInBounds_toArray, List.set_cons_zero, List.set_cons_succ]
    refine take_yes (i := 23) 109 (v := ?_) rfl rfl (by kernel_rfl) (by kernel_rfl) (by kernel_rfl) (fun _ _ _ h => h) (by rfl) ?_ (by assumption) ?_
    rotate_left
    · intro w hSw
      try dsimp only at hSw
      go_simp
      all_goals with_reducible rfl
    try simp only [Act.put, List.setIfInBounds_toArray, List.set_cons_zero, List.set_cons_succ]
    refine wpAnyH_ready (rs := [21]) (by kernel_rfl) (by simp) ?_
    refine AllReadyH.cons rfl (fun K hK => ?_) AllReadyH.nil
    go_simp
    go_at_call 24; refine (CQ.out _ hY3).mono ?_; rintro e z4 ⟨rfl, hz4⟩; have hY4 := hY3.trans (hz4.mono hY3.size); have hcc4 : ∀ b o, b < wg.heap.size → z4.cell? ⟨b, o, none⟩ = wg.cell? ⟨b, o, none⟩ := (bcell hY4).1
    go_wp2_with fail
    refine hK.out _ _ ?_ (fun hHeld => ?_)
    · go_keep
    clear hK K
    refine wpAnyH_ready (rs := [24]) (by kernel_rfl) (by simp) ?_
    refine AllReadyH.cons rfl (fun K hK => ?_) AllReadyH.nil
    go_simp
    go_at_call 24; refine (CR.out _ hY4).mono ?_; rintro e z5 ⟨rfl, hz5⟩; have hY5 := hY4.trans (hz5.mono hY4.size); have hcc5 : ∀ b o, b < wg.heap.size → z5.cell? ⟨b, o, none⟩ = wg.cell? ⟨b, o, none⟩ := (bcell hY5).1
    go_wp2_with fail
    refine hK.out _ _ ?_ (fun hHeld => ?_)
    · go_keep
    clear hK K
    refine take_yes (i := 25) 111 (v := ?_) rfl rfl (by kernel_rfl) (by kernel_rfl) (by kernel_rfl) (fun _ _ _ h => h) (by rfl) ?_ (by assumption) ?_
    rotate_left
    · intro w hSw
      try dsimp only at hSw
      go_simp
      all_goals with_reducible rfl
    try simp only [Act.put, List.setIfInBounds_toArray, List.set_cons_zero, List.set_cons_succ]
    refine take_yes (i := 26) 112 (v := ?_) rfl rfl (by kernel_rfl) (by kernel_rfl) (by kernel_rfl) (fun _ _ _ h => h) (by rfl) ?_ (by assumption) ?_
    rotate_left
    · intro w hSw
      try dsimp only at hSw
      go_simp
      all_goals with_reducible rfl
    try simp only [Act.put, List.setIfInBounds_toArray, List.set_cons_zero, List.set_cons_succ]
    refine take_yes (i := 27) 113 (v := ?_) rfl rfl (by kernel_rfl) (by kernel_rfl) (by kernel_rfl) (fun _ _ _ h => h) (by rfl) ?_ (by assumption) ?_
    rotate_left
    · intro w hSw
      try dsimp only at hSw
      go_simp
      all_goals with_reducible rfl
    try simp only [Act.put, List.setIfInBounds_toArray, List.set_cons_zero, List.set_cons_succ]
    refine take_yes (i := 28) 114 (v := ?_) rfl rfl (by kernel_rfl) (by kernel_rfl) (by kernel_rfl) (fun _ _ _ h => h) (by rfl) ?_ (by assumption) ?_
    rotate_left
    · intro w hSw
      try dsimp only at hSw
      go_simp
      all_goals with_reducible rfl
    try simp only [Act.put, List.setIfInBounds_toArray, List.set_cons_zero, List.set_cons_succ]
    refine take_yes (i := 29) 115 (v := ?_) rfl rfl (by kernel_rfl) (by kernel_rfl) (by kernel_rfl) (fun _ _ _ h => h) (by rfl) ?_ (by assumption) ?_
    rotate_left
    · intro w hSw
      try dsimp only at hSw
      go_simp
      all_goals with_reducible rfl
    try simp only [Act.put, List.setIfInBounds_toArray, List.set_cons_zero, List.set_cons_succ]
    refine take_yes (i := 30) 116 (v := ?_) rfl rfl (by kernel_rfl) (by kernel_rfl) (by kernel_rfl) (fun _ _ _ h => h) (by rfl) ?_ (by assumption) ?_
    rotate_left
    · intro w hSw
      try dsimp only at hSw
      go_simp
      all_goals with_reducible rfl
    try simp only [Act.put, List.setIfInBounds_toArray, List.set_cons_zero, List.set_cons_succ]
    refine take_no (i := 31) 117 rfl rfl (by kernel_rfl) (by kernel_rfl) (by kernel_rfl) (fun _ _ _ h => h) (by rfl) (by assumption) ?_
    try simp only [Act.put, List.setIfInBounds_toArray, List.set_cons_zero, List.set_cons_succ]
    refine take_no (i := 32) 118 rfl rfl (by kernel_rfl) (by kernel_rfl) (by kernel_rfl) (fun _ _ _ h => h) (by rfl) (by assumption) ?_
    try simp only [Act.put, List.setIfInBounds_toArray, List.set_cons_zero, List.set_cons_succ]
    refine take_no (i := 33) 119 rfl rfl (by kernel_rfl) (by kernel_rfl) (by kernel_rfl) (fun _ _ _ h => h) (by rfl) (by assumption) ?_
    try simp only [Act.put, List.setIfInBounds_toArray, List.set_cons_zero, List.set_cons_succ]
    refine take_no (i := 34) 120 rfl rfl (by kernel_rfl) (by kernel_rfl) (by kernel_rfl) (fun _ _ _ h => h) (by rfl) (by assumption) ?_
    try simp only [Act.put, List.setIfInBounds_toArray, List.set_cons_zero, List.set_cons_succ]
    refine take_no (i := 35) 121 rfl rfl (by kernel_rfl) (by kernel_rfl) (by kernel_rfl) (fun _ _ _ h => h) (by rfl) (by assumption) ?_
    try simp only [Act.put, List.setIfInBounds_toArray, List.set_cons_zero, List.set_cons_succ]
    refine take_no (i := 36) 122 rfl rfl (by kernel_rfl) (by kernel_rfl) (by kernel_rfl) (fun _ _ _ h => h) (by rfl) (by assumption) ?_
    try simp only [Act.put, List.setIfInBounds_toArray, List.set_cons_zero, List.set_cons_succ]
    refine take_no (i := 37) 123 rfl rfl (by kernel_rfl) (by kernel_rfl) (by kernel_rfl) (fun _ _ _ h => h) (by rfl) (by assumption) ?_
    try simp only [Act.put, List.setIfInBounds_toArray, List.set_cons_zero, List.set_cons_succ]
    refine take_no (i := 38) 124 rfl rfl (by kernel_rfl) (by kernel_rfl) (by kernel_rfl) (fun _ _ _ h => h) (by rfl) (by assumption) ?_
    try simp only [Act.put, List.setIfInBounds_toArray, List.set_cons_zero, List.set_cons_succ]
    refine take_no (i := 39) 125 rfl rfl (by kernel_rfl) (by kernel_rfl) (by kernel_rfl) (fun _ _ _ h => h) (by rfl) (by assumption) ?_
    try simp only [Act.put, List.setIfInBounds_toArray, List.set_cons_zero, List.set_cons_succ]
    refine take_yes (i := 40) 126 (v := ?_) rfl rfl (by kernel_rfl) (by kernel_rfl) (by kernel_rfl) (fun _ _ _ h => h) (by rfl) ?_ (by assumption) ?_
    rotate_left
    · intro w hSw
      try dsimp only at hSw
      go_simp
      all_goals with_reducible rfl
    try simp only [Act.put, List.setIfInBounds_toArray, List.set_cons_zero, List.set_cons_succ]
    refine take_yes (i := 41) 127 (v := ?_) rfl rfl (by kernel_rfl) (by kernel_rfl) (by kernel_rfl) (fun _ _ _ h => h) (by rfl) ?_ (by assumption) ?_
    rotate_left
    · intro w hSw
      try dsimp only at hSw
      go_simp
      all_goals with_reducible rfl
    try simp only [Act.put, List.setIfInBounds_toArray, List.set_cons_zero, List.set_cons_succ]
    refine take_yes (i := 42) 128 (v := ?_) rfl rfl (by kernel_rfl) (by kernel_rfl) (by kernel_rfl) (fun _ _ _ h => h) (by rfl) ?_ (by assumption) ?_
    rotate_left
    · intro w hSw
      try dsimp only at hSw
      go_simp
      all_goals with_reducible rfl
    try simp only [Act.put, List.setIfInBounds_toArray, List.set_cons_zero, List.set_cons_succ]
    refine take_yes (i := 43) 129 (v := ?_) rfl rfl (by kernel_rfl) (by kernel_rfl) (by kernel_rfl) (fun _ _ _ h => h) (by rfl) ?_ (by assumption) ?_
    rotate_left
    · intro w hSw
      try dsimp only at hSw
      go_simp
      all_goals with_reducible rfl
    try simp only [Act.put, List.setIfInBounds_toArray, List.set_cons_zero, List.set_cons_succ]
    refine take_yes (i := 44) 130 (v := ?_) rfl rfl (by kernel_rfl) (by kernel_rfl) (by kernel_rfl) (fun _ _ _ h => h) (by rfl) ?_ (by assumption) ?_
    rotate_left
    · intro w hSw
      try dsimp only at hSw
      go_simp
      all_goals with_reducible rfl
    try simp only [Act.put, List.setIfInBounds_toArray, List.set_cons_zero, List.set_cons_succ]
    refine wpAnyH_ready (rs := [45]) (by kernel_rfl) (by simp) ?_
    refine AllReadyH.cons rfl (fun K hK => ?_) AllReadyH.nil
    go_simp
    go_at_call 32; refine (CO.out _ hY5).mono ?_; rintro e z6 ⟨rfl, hz6⟩; have hY6 := hY5.trans (hz6.mono hY5.size); have hcc6 : ∀ b o, b < wg.heap.size → z6.cell? ⟨b, o, none⟩ = wg.cell? ⟨b, o, none⟩ := (bcell hY6).1
    go_wp2_with fail
    refine hK.out _ _ ?_ (fun hHeld => ?_)
    · go_keep
    clear hK K
    refine take_yes (i := 46) 132 (v := ?_) rfl rfl (by kernel_rfl) (by kernel_rfl) (by kernel_rfl) (fun _ _ _ h => h) (by rfl) ?_ (by assumption) ?_
    rotate_left
    · intro w hSw
      try dsimp only at hSw
      go_simp
      all_goals with_reducible rfl
    try simp only [Act.put, List.setIfInBounds_toArray, List.set_cons_zero, List.set_cons_succ]
    refine take_yes (i := 47) 2 (v := ?_) rfl rfl (by kernel_rfl) (by kernel_rfl) (by kernel_rfl) (fun _ _ _ h => h) (by rfl) ?_ (by assumption) ?_
    rotate_left
    · intro w hSw
      try dsimp only at hSw
      go_simp
      all_goals with_reducible rfl
    try simp only [Act.put, List.setIfInBounds_toArray, List.set_cons_zero, List.set_cons_succ]
    refine wpAnyH_done (by kernel_rfl) ?_ _
    go_wp2_with fail
    go_ret
    exact ⟨rfl, HB4.out.trans (hY6.mono HB4.out.size)⟩
  · have s1 : (t == 0) = false := beq_eq_false_iff_ne.2 ht
    have s2 : decide (t = 0) = false := decide_eq_false ht
    have CT' := Lib.hid (CT.out (by omega))
    clear ht CT
    refine wp_region_held_drew (S := (fun w' => w'.cell? ⟨w1.heap.size, 0, none⟩ = some (.int .i64 m) ∧ w'.cell? ⟨w1.heap.size, 1, none⟩ = some (.slice A1 ps.length c1) ∧ w'.cell? ⟨w1.heap.size, 2, none⟩ = some (.slice A2 ss.length c2) ∧ w'.cell? ⟨bg, 0, none⟩ = some (.int .i64 m) ∧ w'.cell? ⟨bg, 1, none⟩ = some (.slice B1 ps.length d1) ∧ w'.cell? ⟨bg, 2, none⟩ = some (.slice B2 L.length d2))) (by kernel_rfl) ?_ (fun hHeld => ?_)
    · go_keep
    refine take_yes (i := 0) 86 (v := ?_) rfl rfl (by kernel_rfl) (by kernel_rfl) (by kernel_rfl) (fun _ _ _ h => h) (by rfl) ?_ (by assumption) ?_
    rotate_left
    · intro w hSw
      try dsimp only at hSw
      go_simp
      all_goals with_reducible rfl
    try simp only [Act.put, List.setIfInBounds_toArray, List.set_cons_zero, List.set_cons_succ]
    refine take_yes (i := 1) 87 (v := ?_) rfl rfl (by kernel_rfl) (by kernel_rfl) (by kernel_rfl) (fun _ _ _ h => h) (by rfl) ?_ (by assumption) ?_
    rotate_left
    · intro w hSw
      try dsimp only at hSw
      go_simp
      all_goals with_reducible rfl
    try simp only [Act.put, List.setIfInBounds_toArray, List.set_cons_zero, List.set_cons_succ]
    refine take_yes (i := 2) 88 (v := ?_) rfl rfl (by kernel_rfl) (by kernel_rfl) (by kernel_rfl) (fun _ _ _ h => h) (by rfl) ?_ (by assumption) ?_
    rotate_left
    · intro w hSw
      try dsimp only at hSw
      go_simp
      all_goals with_reducible rfl
    try simp only [Act.put, List.setIfInBounds_toArray, List.set_cons_zero, List.set_cons_succ]
    refine take_yes (i := 3) 89 (v := ?_) rfl rfl (by kernel_rfl) (by kernel_rfl) (by kernel_rfl) (fun _ _ _ h => h) (by rfl) ?_ (by assumption) ?_
    rotate_left
    · intro w hSw
      try dsimp only at hSw
      go_simp
      all_goals with_reducible rfl
    try simp only [Act.put, List.setIfInBounds_toArray, List.set_cons_zero, List.set_cons_succ]
    refine wpAnyH_ready (rs := [4]) (by kernel_rfl) (by simp) ?_
    refine AllReadyH.cons rfl (fun K hK => ?_) AllReadyH.nil
    go_simp
    go_at_call 32; refine (CN.out _ hY0).mono ?_; rintro e z1 ⟨rfl, hz1⟩; have hY1 := hY0.trans (hz1.mono hY0.size); have hcc1 : ∀ b o, b < wg.heap.size → z1.cell? ⟨b, o, none⟩ = wg.cell? ⟨b, o, none⟩ := (bcell hY1).1
    go_wp2_with fail
    refine hK.out _ _ ?_ (fun hHeld => ?_)
    · go_keep
    clear hK K
    refine take_yes (i := 5) 91 (v := ?_) rfl rfl (by kernel_rfl) (by kernel_rfl) (by kernel_rfl) (fun _ _ _ h => h) (by rfl) ?_ (by assumption) ?_
    rotate_left
    · intro w hSw
      try dsimp only at hSw
      go_simp
      all_goals with_reducible rfl
    try simp only [Act.put, List.setIfInBounds_toArray, List.set_cons_zero, List.set_cons_succ]
    refine take_yes (i := 6) 92 (v := ?_) rfl rfl (by kernel_rfl) (by kernel_rfl) (by kernel_rfl) (fun _ _ _ h => h) (by rfl) ?_ (by assumption) ?_
    rotate_left
    · intro w hSw
      try dsimp only at hSw
      go_simp
      all_goals with_reducible rfl
    try simp only [Act.put, List.setIfInBounds_toArray, List.set_cons_zero, List.set_cons_succ]
    refine take_yes (i := 7) 93 (v := ?_) rfl rfl (by kernel_rfl) (by kernel_rfl) (by kernel_rfl) (fun _ _ _ h => h) (by rfl) ?_ (by assumption) ?_
    rotate_left
    · intro w hSw
      try dsimp only at hSw
      go_simp
      all_goals with_reducible rfl
    try simp only [Act.put, List.setIfInBounds_toArray, List.set_cons_zero, List.set_cons_succ]
    refine take_yes (i := 8) 94 (v := ?_) rfl rfl (by kernel_rfl) (by kernel_rfl) (by kernel_rfl) (fun _ _ _ h => h) (by rfl) ?_ (by assumption) ?_
    rotate_left
    · intro w hSw
      try dsimp only at hSw
      go_simp
      all_goals with_reducible rfl
    try simp only [Act.put, List.setIfInBounds_toArray, List.set_cons_zero, List.set_cons_succ]
    refine take_yes (i := 10) 96 (v := ?_) rfl rfl (by kernel_rfl) (by kernel_rfl) (by kernel_rfl) (fun _ _ _ h => h) (by rfl) ?_ (by assumption) ?_
    rotate_left
    · intro w hSw
      try dsimp only at hSw
      go_simp
      all_goals with_reducible rfl
    try simp only [Act.put, List.setIfInBounds_toArray, List.set_cons_zero, List.set_cons_succ]
    refine take_yes (i := 11) 97 (v := ?_) rfl rfl (by kernel_rfl) (by kernel_rfl) (by kernel_rfl) (fun _ _ _ h => h) (by rfl) ?_ (by assumption) ?_
    rotate_left
    · intro w hSw
      try dsimp only at hSw
      go_simp
      all_goals with_reducible rfl
    try simp only [Act.put, List.setIfInBounds_toArray, List.set_cons_zero, List.set_cons_succ]
    refine take_yes (i := 12) 98 (v := ?_) rfl rfl (by kernel_rfl) (by kernel_rfl) (by kernel_rfl) (fun _ _ _ h => h) (by rfl) ?_ (by assumption) ?_
    rotate_left
    · intro w hSw
      try dsimp only at hSw
      go_simp
      all_goals with_reducible rfl
    try simp only [Act.put, List.setIfInBounds_toArray, List.set_cons_zero, List.set_cons_succ]
    refine take_yes (i := 14) 100 (v := ?_) rfl rfl (by kernel_rfl) (by kernel_rfl) (by kernel_rfl) (fun _ _ _ h => h) (by rfl) ?_ (by assumption) ?_
    rotate_left
    · intro w hSw
      try dsimp only at hSw
      go_simp
      all_goals with_reducible rfl
    try simp only [Act.put, List.setIfInBounds_toArray, List.set_cons_zero, List.set_cons_succ]
    refine wpAnyH_ready (rs := [9]) (by kernel_rfl) (by simp) ?_
    refine AllReadyH.cons rfl (fun K hK => ?_) AllReadyH.nil
    go_simp
    go_at_call 22; refine (CP.out _ hY1).mono ?_; rintro e z2 ⟨rfl, hz2⟩; have hY2 := hY1.trans (hz2.mono hY1.size); have hcc2 : ∀ b o, b < wg.heap.size → z2.cell? ⟨b, o, none⟩ = wg.cell? ⟨b, o, none⟩ := (bcell hY2).1
    go_wp2_with fail
    refine hK.out _ _ ?_ (fun hHeld => ?_)
    · go_keep
    clear hK K
    refine wpAnyH_ready (rs := [13]) (by kernel_rfl) (by simp) ?_
    refine AllReadyH.cons rfl (fun K hK => ?_) AllReadyH.nil
    go_simp
    go_at_call 42; refine (CV.out _ hY2).mono ?_; rintro e z3 ⟨rfl, hz3⟩; have hY3 := hY2.trans (hz3.mono hY2.size); have hcc3 : ∀ b o, b < wg.heap.size → z3.cell? ⟨b, o, none⟩ = wg.cell? ⟨b, o, none⟩ := (bcell hY3).1
    go_wp2_with fail
    refine hK.out _ _ ?_ (fun hHeld => ?_)
    · go_keep
    clear hK K
    refine take_yes (i := 15) 101 (v := ?_) rfl rfl (by kernel_rfl) (by kernel_rfl) (by kernel_rfl) (fun _ _ _ h => h) (by rfl) ?_ (by assumption) ?_
    rotate_left
    · intro w hSw
      try dsimp only at hSw
      go_simp
      all_goals with_reducible rfl
    try simp only [Act.put, List.setIfInBounds_toArray, List.set_cons_zero, List.set_cons_succ]
    refine take_yes (i := 16) 102 (v := ?_) rfl rfl (by kernel_rfl) (by kernel_rfl) (by kernel_rfl) (fun _ _ _ h => h) (by rfl) ?_ (by assumption) ?_
    rotate_left
    · intro w hSw
      try dsimp only at hSw
      go_simp
      all_goals with_reducible rfl
    try simp only [Act.put, List.setIfInBounds_toArray, List.set_cons_zero, List.set_cons_succ]
    refine take_yes (i := 17) 103 (v := ?_) rfl rfl (by kernel_rfl) (by kernel_rfl) (by kernel_rfl) (fun _ _ _ h => h) (by rfl) ?_ (by assumption) ?_
    rotate_left
    · intro w hSw
      try dsimp only at hSw
      go_simp
      all_goals with_reducible rfl
    try simp only [Act.put, List.setIfInBounds_toArray, List.set_cons_zero, List.set_cons_succ]
    refine take_yes (i := 18) 104 (v := ?_) rfl rfl (by kernel_rfl) (by kernel_rfl) (by kernel_rfl) (fun _ _ _ h => h) (by rfl) ?_ (by assumption) ?_
    rotate_left
    · intro w hSw
      try dsimp only at hSw
      go_simp
      all_goals with_reducible rfl
    try simp only [Act.put, List.setIfInBounds_toArray, List.set_cons_zero, List.set_cons_succ]
    refine take_yes (i := 19) 105 (v := ?_) rfl rfl (by kernel_rfl) (by kernel_rfl) (by kernel_rfl) (fun _ _ _ h => h) (by rfl) ?_ (by assumption) ?_
    rotate_left
    · intro w hSw
      try dsimp only at hSw
      go_simp
      all_goals with_reducible rfl
    try simp only [Act.put, List.setIfInBounds_toArray, List.set_cons_zero, List.set_cons_succ]
    refine take_yes (i := 20) 106 (v := ?_) rfl rfl (by kernel_rfl) (by kernel_rfl) (by kernel_rfl) (fun _ _ _ h => h) (by rfl) ?_ (by assumption) ?_
    rotate_left
    · intro w hSw
      try dsimp only at hSw
      go_simp
      all_goals with_reducible rfl
    try simp only [Act.put, List.setIfInBounds_toArray, List.set_cons_zero, List.set_cons_succ]
    refine take_yes (i := 22) 108 (v := ?_) rfl rfl (by kernel_rfl) (by kernel_rfl) (by kernel_rfl) (fun _ _ _ h => h) (by rfl) ?_ (by assumption) ?_
    rotate_left
    · intro w hSw
      try dsimp only at hSw
      go_simp
      all_goals with_reducible rfl
    try simp only [Act.put, List.setIfInBounds_toArray, List.set_cons_zero, List.set_cons_succ]
    refine take_yes (i := 23) 109 (v := ?_) rfl rfl (by kernel_rfl) (by kernel_rfl) (by kernel_rfl) (fun _ _ _ h => h) (by rfl) ?_ (by assumption) ?_
    rotate_left
    · intro w hSw
      try dsimp only at hSw
      go_simp
      all_goals with_reducible rfl
    try simp only [Act.put, List.setIfInBounds_toArray, List.set_cons_zero, List.set_cons_succ]
    refine wpAnyH_ready (rs := [21]) (by kernel_rfl) (by simp) ?_
    refine AllReadyH.cons rfl (fun K hK => ?_) AllReadyH.nil
    go_simp
    go_at_call 24; refine (CQ.out _ hY3).mono ?_; rintro e z4 ⟨rfl, hz4⟩; have hY4 := hY3.trans (hz4.mono hY3.size); have hcc4 : ∀ b o, b < wg.heap.size → z4.cell? ⟨b, o, none⟩ = wg.cell? ⟨b, o, none⟩ := (bcell hY4).1
    go_wp2_with fail
    refine hK.out _ _ ?_ (fun hHeld => ?_)
    · go_keep
    clear hK K
    refine wpAnyH_ready (rs := [24]) (by kernel_rfl) (by simp) ?_
    refine AllReadyH.cons rfl (fun K hK => ?_) AllReadyH.nil
    go_simp
    go_at_call 24; refine (CR.out _ hY4).mono ?_; rintro e z5 ⟨rfl, hz5⟩; have hY5 := hY4.trans (hz5.mono hY4.size); have hcc5 : ∀ b o, b < wg.heap.size → z5.cell? ⟨b, o, none⟩ = wg.cell? ⟨b, o, none⟩ := (bcell hY5).1
    go_wp2_with fail
    refine hK.out _ _ ?_ (fun hHeld => ?_)
    · go_keep
    clear hK K
    refine take_yes (i := 25) 111 (v := ?_) rfl rfl (by kernel_rfl) (by kernel_rfl) (by kernel_rfl) (fun _ _ _ h => h) (by rfl) ?_ (by assumption) ?_
    rotate_left
    · intro w hSw
      try dsimp only at hSw
      go_simp
      all_goals with_reducible rfl
    try simp only [Act.put, List.setIfInBounds_toArray, List.set_cons_zero, List.set_cons_succ]
    refine take_yes (i := 26) 112 (v := ?_) rfl rfl (by kernel_rfl) (by kernel_rfl) (by kernel_rfl) (fun _ _ _ h => h) (by rfl) ?_ (by assumption) ?_
    rotate_left
    · intro w hSw
      try dsimp only at hSw
      go_simp
      all_goals with_reducible rfl
    try simp only [Act.put, List.setIfInBounds_toArray, List.set_cons_zero, List.set_cons_succ]
    refine take_yes (i := 27) 113 (v := ?_) rfl rfl (by kernel_rfl) (by kernel_rfl) (by kernel_rfl) (fun _ _ _ h => h) (by rfl) ?_ (by assumption) ?_
    rotate_left
    · intro w hSw
      try dsimp only at hSw
      go_simp
      all_goals with_reducible rfl
    try simp only [Act.put, List.setIfInBounds_toArray, List.set_cons_zero, List.set_cons_succ]
    refine take_yes (i := 28) 114 (v := ?_) rfl rfl (by kernel_rfl) (by kernel_rfl) (by kernel_rfl) (fun _ _ _ h => h) (by rfl) ?_ (by assumption) ?_
    rotate_left
    · intro w hSw
      try dsimp only at hSw
      go_simp
      all_goals with_reducible rfl
    try simp only [Act.put, List.setIfInBounds_toArray, List.set_cons_zero, List.set_cons_succ]
    refine take_yes (i := 29) 115 (v := ?_) rfl rfl (by kernel_rfl) (by kernel_rfl) (by kernel_rfl) (fun _ _ _ h => h) (by rfl) ?_ (by assumption) ?_
    rotate_left
    · intro w hSw
      try dsimp only at hSw
      go_simp
      all_goals with_reducible rfl
    try simp only [Act.put, List.setIfInBounds_toArray, List.set_cons_zero, List.set_cons_succ]
    refine take_yes (i := 30) 116 (v := ?_) rfl rfl (by kernel_rfl) (by kernel_rfl) (by kernel_rfl) (fun _ _ _ h => h) (by rfl) ?_ (by assumption) ?_
    rotate_left
    · intro w hSw
      try dsimp only at hSw
      go_simp
      all_goals with_reducible rfl
    try simp only [Act.put, List.setIfInBounds_toArray, List.set_cons_zero, List.set_cons_succ]
    refine take_yes (i := 31) 117 (v := ?_) rfl rfl (by kernel_rfl) (by kernel_rfl) (by kernel_rfl) (fun _ _ _ h => h) (by rfl) ?_ (by assumption) ?_
    rotate_left
    · intro w hSw
      try dsimp only at hSw
      go_simp
      all_goals with_reducible rfl
    try simp only [Act.put, List.setIfInBounds_toArray, List.set_cons_zero, List.set_cons_succ]
    refine take_yes (i := 32) 118 (v := ?_) rfl rfl (by kernel_rfl) (by kernel_rfl) (by kernel_rfl) (fun _ _ _ h => h) (by rfl) ?_ (by assumption) ?_
    rotate_left
    · intro w hSw
      try dsimp only at hSw
      go_simp
      all_goals with_reducible rfl
    try simp only [Act.put, List.setIfInBounds_toArray, List.set_cons_zero, List.set_cons_succ]
    refine take_yes (i := 33) 119 (v := ?_) rfl rfl (by kernel_rfl) (by kernel_rfl) (by kernel_rfl) (fun _ _ _ h => h) (by rfl) ?_ (by assumption) ?_
    rotate_left
    · intro w hSw
      try dsimp only at hSw
      go_simp
      all_goals with_reducible rfl
    try simp only [Act.put, List.setIfInBounds_toArray, List.set_cons_zero, List.set_cons_succ]
    refine take_yes (i := 35) 121 (v := ?_) rfl rfl (by kernel_rfl) (by kernel_rfl) (by kernel_rfl) (fun _ _ _ h => h) (by rfl) ?_ (by assumption) ?_
    rotate_left
    · intro w hSw
      try dsimp only at hSw
      go_simp
      all_goals with_reducible rfl
    try simp only [Act.put, List.setIfInBounds_toArray, List.set_cons_zero, List.set_cons_succ]
    refine take_yes (i := 36) 122 (v := ?_) rfl rfl (by kernel_rfl) (by kernel_rfl) (by kernel_rfl) (fun _ _ _ h => h) (by rfl) ?_ (by assumption) ?_
    rotate_left
    · intro w hSw
      try dsimp only at hSw
      go_simp
      all_goals with_reducible rfl
    try simp only [Act.put, List.setIfInBounds_toArray, List.set_cons_zero, List.set_cons_succ]
    refine take_yes (i := 37) 123 (v := ?_) rfl rfl (by kernel_rfl) (by kernel_rfl) (by kernel_rfl) (fun _ _ _ h => h) (by rfl) ?_ (by assumption) ?_
    rotate_left
    · intro w hSw
      try dsimp only at hSw
      go_simp
      all_goals with_reducible rfl
    try simp only [Act.put, List.setIfInBounds_toArray, List.set_cons_zero, List.set_cons_succ]
    refine wpAnyH_ready (rs := [34]) (by kernel_rfl) (by simp) ?_
    refine AllReadyH.cons rfl (fun K hK => ?_) AllReadyH.nil
    go_simp
    go_at_call 22; refine (CT'.out _ hY5).mono ?_; rintro e z6 ⟨rfl, hz6⟩; have hY6 := hY5.trans (hz6.mono hY5.size); have hcc6 : ∀ b o, b < wg.heap.size → z6.cell? ⟨b, o, none⟩ = wg.cell? ⟨b, o, none⟩ := (bcell hY6).1
    go_wp2_with fail
    refine hK.out _ _ ?_ (fun hHeld => ?_)
    · go_keep
    clear hK K
    refine wpAnyH_ready (rs := [38]) (by kernel_rfl) (by simp) ?_
    refine AllReadyH.cons rfl (fun K hK => ?_) AllReadyH.nil
    go_simp
    go_at_call 22; refine (CU.out _ hY6).mono ?_; rintro e z7 ⟨rfl, hz7⟩; have hY7 := hY6.trans (hz7.mono hY6.size); have hcc7 : ∀ b o, b < wg.heap.size → z7.cell? ⟨b, o, none⟩ = wg.cell? ⟨b, o, none⟩ := (bcell hY7).1
    go_wp2_with fail
    refine hK.out _ _ ?_ (fun hHeld => ?_)
    · go_keep
    clear hK K
    refine take_yes (i := 39) 125 (v := ?_) rfl rfl (by kernel_rfl) (by kernel_rfl) (by kernel_rfl) (fun _ _ _ h => h) (by rfl) ?_ (by assumption) ?_
    rotate_left
    · intro w hSw
      try dsimp only at hSw
      go_simp
      all_goals with_reducible rfl
    try simp only [Act.put, List.setIfInBounds_toArray, List.set_cons_zero, List.set_cons_succ]
    refine take_yes (i := 40) 126 (v := ?_) rfl rfl (by kernel_rfl) (by kernel_rfl) (by kernel_rfl) (fun _ _ _ h => h) (by rfl) ?_ (by assumption) ?_
    rotate_left
    · intro w hSw
      try dsimp only at hSw
      go_simp
      all_goals with_reducible rfl
    try simp only [Act.put, List.setIfInBounds_toArray, List.set_cons_zero, List.set_cons_succ]
    refine take_yes (i := 41) 127 (v := ?_) rfl rfl (by kernel_rfl) (by kernel_rfl) (by kernel_rfl) (fun _ _ _ h => h) (by rfl) ?_ (by assumption) ?_
    rotate_left
    · intro w hSw
      try dsimp only at hSw
      go_simp
      all_goals with_reducible rfl
    try simp only [Act.put, List.setIfInBounds_toArray, List.set_cons_zero, List.set_cons_succ]
    refine take_yes (i := 42) 128 (v := ?_) rfl rfl (by kernel_rfl) (by kernel_rfl) (by kernel_rfl) (fun _ _ _ h => h) (by rfl) ?_ (by assumption) ?_
    rotate_left
    · intro w hSw
      try dsimp only at hSw
      go_simp
      all_goals with_reducible rfl
    try simp only [Act.put, List.setIfInBounds_toArray, List.set_cons_zero, List.set_cons_succ]
    refine take_yes (i := 43) 129 (v := ?_) rfl rfl (by kernel_rfl) (by kernel_rfl) (by kernel_rfl) (fun _ _ _ h => h) (by rfl) ?_ (by assumption) ?_
    rotate_left
    · intro w hSw
      try dsimp only at hSw
      go_simp
      all_goals with_reducible rfl
    try simp only [Act.put, List.setIfInBounds_toArray, List.set_cons_zero, List.set_cons_succ]
    refine take_yes (i := 44) 130 (v := ?_) rfl rfl (by kernel_rfl) (by kernel_rfl) (by kernel_rfl) (fun _ _ _ h => h) (by rfl) ?_ (by assumption) ?_
    rotate_left
    · intro w hSw
      try dsimp only at hSw
      go_simp
      all_goals with_reducible rfl
    try simp only [Act.put, List.setIfInBounds_toArray, List.set_cons_zero, List.set_cons_succ]
    refine wpAnyH_ready (rs := [45]) (by kernel_rfl) (by simp) ?_
    refine AllReadyH.cons rfl (fun K hK => ?_) AllReadyH.nil
    go_simp
    go_at_call 32; refine (CO.out _ hY7).mono ?_; rintro e z8 ⟨rfl, hz8⟩; have hY8 := hY7.trans (hz8.mono hY7.size); have hcc8 : ∀ b o, b < wg.heap.size → z8.cell? ⟨b, o, none⟩ = wg.cell? ⟨b, o, none⟩ := (bcell hY8).1
    go_wp2_with fail
    refine hK.out _ _ ?_ (fun hHeld => ?_)
    · go_keep
    clear hK K
    refine take_yes (i := 46) 132 (v := ?_) rfl rfl (by kernel_rfl) (by kernel_rfl) (by kernel_rfl) (fun _ _ _ h => h) (by rfl) ?_ (by assumption) ?_
    rotate_left
    · intro w hSw
      try dsimp only at hSw
      go_simp
      all_goals with_reducible rfl
    try simp only [Act.put, List.setIfInBounds_toArray, List.set_cons_zero, List.set_cons_succ]
    refine take_yes (i := 47) 2 (v := ?_) rfl rfl (by kernel_rfl) (by kernel_rfl) (by kernel_rfl) (fun _ _ _ h => h) (by rfl) ?_ (by assumption) ?_
    rotate_left
    · intro w hSw
      try dsimp only at hSw
      go_simp
      all_goals with_reducible rfl
    try simp only [Act.put, List.setIfInBounds_toArray, List.set_cons_zero, List.set_cons_succ]
    refine wpAnyH_done (by kernel_rfl) ?_ _
    go_wp2_with fail
    go_ret
    exact ⟨rfl, HB4.out.trans (hY8.mono HB4.out.size)⟩

set_option maxRecDepth 100000 in
theorem fnBands_lifted (os : Os) (started : os.Started) (H : Type) (enc : TypeId × Value → H) :
    ReturnsInHanded {} Try.checked os 12 .any (Rows.fnBandsSpec.pre6 enc Try.prog Try.f12 Rows.fnBandsRow.domain false) (Rows.fnBandsSpec.post enc Try.prog Try.f12 false true false false) := by
  refine returnsInHanded_of_change (C := Try.checked) own_ started (by kernel_rfl) Try.func12
    (ChangeSpec.witness6 (enc := enc) (C := Try.checked) false ⟨#[], #[.slice none 0 0], []⟩ 8 (by kernel_rfl) (by kernel_rfl) (by kernel_rfl) (by kernel_rfl)) ?_
  intro W base args ds gs before hval0 hW hcnd _
  have hval : ∀ (j : Nat) t v, Try.f12.params[j]? = some t → args[j]? = some v → Value.okWide Try.prog W .any base t v := hval0
  have hW' := hW
  obtain ⟨p, q, hA0, hV, rfl, hfz, hnd⟩ := hW
  have hA : DataW.TrodAll enc Try.prog W 0 (fun _ => true) true Try.f12.params.toList args.toList ds p := hA0
  rw [Try.params12] at hA hval
  obtain ⟨v0, d0, rfl, rfl, h0⟩ := trodAll_one hA
  obtain ⟨rfl, rfl⟩ := trodVars_none hV
  obtain ⟨x0, hx0⟩ := open_Bytes Try.underlying53 Try.underlying5 (by kernel_rfl) (hval 0 53 v0 rfl rfl) h0
  refine (fnBands_walk W hx0).mono fun e W' ⟨he, hb⟩ => ?_
  subst he
  exact ⟨_, rfl, law_post laidOut_ (by kernel_rfl) rfl (by kernel_rfl) Try.underlying4 hW' rfl hb⟩

theorem fnBands_holds : Rows.FnBandsSaid :=
  OpenClaim.holds_of_wide 12 Try.f12 rfl rfl rfl rfl rfl rfl rfl ⟨rfl, rfl, rfl, rfl, rfl⟩ rfl rfl rfl rfl rfl (by kernel_rfl) Try.func12 (by kernel_rfl)
    (of_decide_eq_true (by kernel_rfl)) (by unfold Func.isWrapper; rw [if_neg (of_decide_eq_false (by kernel_rfl))]; exact ⟨rfl, rfl⟩)
    (fun os started H enc _ => fnBands_lifted os started H enc)
#print axioms fnBands_holds

end Go.Proofs.Ytmhiohijpnmcpaa
