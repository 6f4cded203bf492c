/-
  The contract of GatherWindows, the program's: a row of differences, and a closure that adds them up.
-/
import Derived.Test.YtfcdnaaecfhddaaWinOfI
import Derived.Test.YtfcdnaaecfhddaaGatherS
namespace Go.Proofs.Ytfcdnaaecfhddaa
open Go.RowKit

/-- A row of 2882 numbers. -/
def RowD (cs : Array Value) (g : Nat → Int) : Prop := cs.size = 2882 ∧ ∀ j, j < 2882 → cs[j]? = some (.int .i64 (g j))
theorem RowD.set_ {cs : Array Value} {g h : Nat → Int} (r : RowD cs g) (i : Nat) (b : Int) (hb : ∀ j, j < 2882 → h j = if j = i then b else g j) : RowD (cs.setIfInBounds i (.int .i64 b)) h := by
  refine ⟨by simpa using r.1, fun j hj => ?_⟩
  rw [hb j hj]
  by_cases e : j = i
  · subst e
    rw [if_pos rfl, Array.getElem?_setIfInBounds_self_of_lt (by rw [r.1]; exact hj)]
  · rw [if_neg e, Array.getElem?_setIfInBounds_ne (fun h => e h.symm)]
    exact r.2 j hj
theorem RowD.congr {cs : Array Value} {g h : Nat → Int} (r : RowD cs g) (e : ∀ j, j < 2882 → h j = g j) : RowD cs h := ⟨r.1, fun j hj => by rw [e j hj]; exact r.2 j hj⟩
theorem dL_next {ps : List Window} {k : Nat} {p : Window} (hp : ps[k]? = some p) (j : Nat) : dL (ps.take (k + 1)) j = dL (ps.take k) j + dW p j := by
  have hl : k < ps.length := (List.getElem?_eq_some_iff.1 hp).1
  have hv : ps[k] = p := (List.getElem?_eq_some_iff.1 hp).2
  rw [List.take_succ_eq_append_getElem hl, hv, dL_snoc]
theorem run_zero {P : Program} (t : TypeId) (z : Value) (h : (P.info? t).map (fun i => i.zero) = some (some z)) (w : World) : (zeroValue t).run P w = .ok z w := by
  cases hi : P.info? t with
  | none =>
    rw [hi] at h
    cases h
  | some i =>
    rw [hi] at h
    simp at h
    simp [zeroValue, typeInfo, hi, h]

theorem zeroArr : (Try.prog.info? 51).map (fun i => i.zero) = some (some (.agg (Array.replicate 2882 (.int .i64 0)))) := by kernel_rfl

set_option maxHeartbeats 1000000 in
theorem gatherAccept_any (bc bb : Nat) (cs : Array Value) (v d : Int) (m : Nat) (W : World) (hm : m ≤ 2880) (hc : Blk W bc 3 #[.int .i64 v]) (hb : Blk W bb 51 cs) (hd : cs[m]? = some (.int .i64 d)) (hne : bc ≠ bb)
    (hv : -3020947456 ≤ v ∧ v ≤ 3020947456) (hdb : -3020947456 ≤ d ∧ d ≤ 3020947456) :
    Calls Try.prog 45 #[.int .i64 m, .pointer (some ⟨bc, 0, none⟩), .pointer (some ⟨bb, 0, none⟩)] W fun e W' => e = .returned (.bool (decide (0 < v + d))) ∧ Blk W' bc 3 #[.int .i64 (v + d)] ∧ Blk W' bb 51 cs ∧ Out bc (bc + 1) W W' := by
  obtain ⟨hv1, hv2⟩ := hv
  obtain ⟨hd1, hd2⟩ := hdb
  have c0 := hc.cell 0
  have c1 := (hb.cell m).trans hd
  have f0 := hc.frozen 0
  have hl1 := hc.lt
  have hl2 := hb.lt
  have hm1 : (m : Int) < 2882 := by omega
  have hK1 := Lib.hid (show Blk (W.setCell ⟨bc, 0, none⟩ (.int .i64 (v + d))).drew bc 3 #[.int .i64 (v + d)] from hc.set_ 0 _)
  have hK2 := Lib.hid (show Blk (W.setCell ⟨bc, 0, none⟩ (.int .i64 (v + d))).drew bb 51 cs from hb.far (p := ⟨bc, 0, none⟩) (fun e => hne e.symm) _)
  have hK3 : Hid (Out bc (bc + 1) W (W.setCell ⟨bc, 0, none⟩ (.int .i64 (v + d))).drew) := Lib.hid ⟨rfl, rfl, rfl, by simp [World.setCell, World.drew], fun k hk ho => Below.heap_setCell W ⟨bc, 0, none⟩ _ k (by simp; omega)⟩
  clear hc hb hd
  go_enter Try.func45, Try.ntmps45
  go_wp2_with fail
  go_region
  all_goals (try go_wp2_with fail)
  all_goals
    go_ret
    exact ⟨rfl, hK1.out, hK2.out, hK3.out⟩

set_option maxHeartbeats 4000000 in
theorem windowsOf_gather (bc bb : Nat) (f : Nat → Bool) (lo : Nat) (I : Nat → World → Prop) (w : World) (h0 : I 0 w) (hkeep : ∀ m W W', I m W → w.heap.size ≤ W.heap.size → Below w.heap.size W W' → I m W')
    (hcall : ∀ (m : Nat) W, m ≤ 2880 → w.heap.size ≤ W.heap.size → I m W → Calls Try.prog 45 #[.int .i64 m, .pointer (some ⟨bc, 0, none⟩), .pointer (some ⟨bb, 0, none⟩)] W fun e W' => e = .returned (.bool (f m)) ∧ I (m + 1) W' ∧ Out lo w.heap.size W W') :
    Calls Try.prog 44 #[.func (.func 45) #[] #[.pointer (some ⟨bc, 0, none⟩), .pointer (some ⟨bb, 0, none⟩)]] w fun e w' => ∃ A c, e = .returned (.slice A (winsOf f 2881).length c) ∧ Sl w' w.heap.size w'.heap.size A 41 Window.at_ 2 (winsOf f 2881) ∧ Out lo w.heap.size w w' := by
  obtain ⟨N, hN⟩ : ∃ N : Nat, N = 2881 := ⟨_, rfl⟩
  have HN := Lib.hid hN
  rw [← hN]
  clear hN
  have hN1 : (N : Int) = 2881 := by rw [HN.out]; rfl
  have HN1 := Lib.hid hN1
  clear hN1
  have HI0 := Lib.hid (hkeep 0 w _ h0 (Nat.le_refl _) ((Below.refl _ w).alloc (Nat.le_refl _) (.cells #[] 41)))
  have HK := Lib.hid hkeep
  clear hkeep h0
  go_enter Try.func44, Try.ntmps44
  go_wp2_with fail
  go_loopw [3, 4, 5] (fun v o i wr => ∃ k : Nat, k ≤ N ∧ i = .int .i64 k ∧ o = .bool (prevB f k) ∧ wr.ownsRow w.heap.size 41 2 v (winsOf f k).length (flat Window.at_ 2 (winsOf f k)) ∧ I k wr ∧ Out lo w.heap.size w wr) (fun _ _ i _ => N - (intOf i).toNat)
  case atStart => exact ⟨0, Nat.zero_le _, rfl, rfl, World.ownsRow_lit w #[] 0 (by omega) (by simp [maxLen]) rfl, HI0.out, Out.of_below _ _ ((Below.refl _ _).alloc (Nat.le_refl _) _)⟩
  case round =>
    obtain ⟨k, hk, rfl, rfl, hown, hI, hout⟩ := hrel
    have hs := hout.size
    have hwl := winsOf_le f k
    obtain ⟨acc, hacc⟩ : ∃ acc, acc = winsOf f k := ⟨_, rfl⟩
    rw [← hacc] at hown hwl
    have HACC := Lib.hid hacc
    have HO := Lib.hid hown
    have hn1 := HN1.out
    clear hacc hown
    by_cases hlt : k < N
    · have hk1 : (k : Int) ≤ 2880 := by omega
      have HC := Lib.hid (hcall k wr (by omega) hs hI)
      clear hI
      cases hf : f k
      · have HF := Lib.hid hf
        have HX := Lib.hid (winsOf_off hf)
        rw [hf] at HC
        clear hf
        go_wp2_with fail
        refine HC.out.mono ?_
        rintro e w1 ⟨rfl, hI1, ho1⟩
        go_wp2_with fail
        go_roundw
        case rel => exact ⟨k + 1, by omega, by go_num, by rw [show prevB f (k + 1) = f k from rfl, HF.out], by rw [HX.out, ← HACC.out]; exact ownsRow_out HO.out ho1 (Nat.le_refl _), hI1, hout.trans ho1⟩
        case measure => simp [intOf]; omega
      · have HF := Lib.hid hf
        rw [hf] at HC
        clear hf
        cases hp : prevB f k
        · have HX := Lib.hid (winsOf_new HF.out hp)
          go_wp2_with fail
          refine HC.out.mono ?_
          rintro e w1 ⟨rfl, hI1, ho1⟩
          have hz1 := ho1.size
          have HO1 := Lib.hid (ownsRow_out HO.out ho1 (Nat.le_refl _))
          go_wp2_with (at_builtin; refine wpAppendWindow rfl _ _ rfl w.heap.size _ acc rfl (HO1.out.alloc _) w1.heap.size rfl _ _ (Blk.new' _ _ (by simp)) (by omega) (by simp; omega) ?_)
          intro v' w2 hv' hb2 _ _
          have hbn : Below w.heap.size w1 w2 := ((Below.refl _ _).alloc (by omega) _).trans hb2
          obtain ⟨gb, cap, rfl, hgb, hgl, e0, f0, hset⟩ := ownW_last (acc := acc) (p := ⟨k, 0⟩) (by rw [List.length_append]; exact hv')
          have HS := Lib.hid (hset k)
          have hbs : Below w.heap.size w1 (w2.setCell ⟨gb, acc.length * 2 + 1, none⟩ (.int .i64 k)) := hbn.setCell (by exact hgb) _
          have HBS := Lib.hid hbs
          dsimp only at e0
          clear hv' hset hbn hb2 hbs
          go_wp2_with fail
          go_roundw
          case rel => exact ⟨k + 1, by omega, by go_num, by rw [show prevB f (k + 1) = f k from rfl, HF.out], by rw [HX.out, ← HACC.out]; first | exact HS.out | (rw [List.length_append]; exact HS.out), HK.out _ _ _ hI1 (by omega) HBS.out, (hout.trans ho1).then_ HBS.out⟩
          case measure => simp [intOf]; omega
        · have HX := Lib.hid (winsOf_ext HF.out hp)
          obtain ⟨acc', a, he, ha⟩ := winsOf_last f k hp
          rw [← HACC.out] at he
          subst he
          have hla : (acc' ++ [(⟨a, (k : Int) - 1⟩ : Window)]).length = acc'.length + 1 := by simp
          have hn0 : acc'.length + 1 ≤ k := by rw [← hla]; exact hwl
          clear hla hwl
          go_wp2_with fail
          refine HC.out.mono ?_
          rintro e w1 ⟨rfl, hI1, ho1⟩
          have hz1 := ho1.size
          obtain ⟨gb, cap, rfl, hgb, hgl, e0, f0, hset⟩ := ownW_last (ownsRow_out HO.out ho1 (Nat.le_refl _))
          have HS := Lib.hid (hset k)
          have HBS := Lib.hid (show Below w.heap.size w1 (w1.setCell ⟨gb, acc'.length * 2 + 1, none⟩ (.int .i64 k)) from (Below.refl _ _).setCell (by exact hgb) _)
          dsimp only at e0
          clear hset
          go_wp2_with fail
          go_roundw
          case rel => exact ⟨k + 1, by omega, by go_num, by rw [show prevB f (k + 1) = f k from rfl, HF.out], by rw [HX.out, ← HACC.out, extW_snoc]; first | exact HS.out | (rw [List.length_append]; exact HS.out), HK.out _ _ _ hI1 (by omega) HBS.out, (hout.trans ho1).then_ HBS.out⟩
          case measure => simp [intOf]; omega
    · have hk2 : k = N := by omega
      subst hk2
      obtain ⟨A', c', rfl, hsl⟩ := Sl.of_own HO.out
      go_wp2_with fail
      go_ret
      exact ⟨A', c', by rw [← HACC.out]; rfl, by rw [← HACC.out]; exact hsl, hout⟩
set_option maxHeartbeats 4000000 in
theorem implGatherWindows_any (A : Option Addr) (c : Nat) (ps : List Window) (w : World) (hr : Rd w w.heap.size Window.at_ 2 A ps) (hlen : ps.length ≤ 1048576) :
    Calls Try.prog 33 #[.slice A ps.length c] w (ResSl 41 Window.at_ 2 (gatherF ps) w) := by
  obtain ⟨cs0, hcs0⟩ : ∃ cs0 : Array Value, cs0 = Array.replicate 2882 (.int .i64 0) := ⟨_, rfl⟩
  have hzv : ∀ W, (zeroValue 51).run Try.prog W = .ok (.agg cs0) W := fun W => by
    rw [hcs0]
    exact run_zero _ _ zeroArr W
  have HR0 : Hid (RowD cs0 (dL (ps.take 0))) := Lib.hid (by
    rw [hcs0]
    refine ⟨by simp, fun j hj => ?_⟩
    simp [hj, dL])
  have hmf : ∀ (fn : Fn) (first cap : Array Value) (w : World), (Instr.makeFunc fn first cap).run Try.prog w = .ok (.func fn first cap) w := fun _ _ _ _ => rfl
  clear hcs0
  go_enter Try.func33, Try.ntmps33
  go_wp2_with fail
  go_loopw [11] (fun i wr => ∃ k : Nat, k ≤ ps.length ∧ i = .int .i64 k ∧ (∃ cs, Blk wr w.heap.size 51 cs ∧ RowD cs (dL (ps.take k))) ∧ Below w.heap.size w wr) (fun i _ => ps.length - (intOf i).toNat)
  case atStart => exact ⟨0, Nat.zero_le _, rfl, ⟨cs0, Blk.new _ _ _, HR0.out⟩, (Below.refl _ _).alloc (Nat.le_refl _) _⟩
  case round =>
    obtain ⟨k, hk, rfl, ⟨cs, hblk, hrow⟩, hbel⟩ := hrel
    have HROW := Lib.hid hrow
    have hs := hblk.lt
    have hs1 := hbel.size
    clear hrow
    by_cases hlt : k < ps.length
    · obtain ⟨g, off, rfl, hg, hc⟩ := hr (by omega)
      obtain ⟨p, hp⟩ : ∃ p, ps[k]? = some p := ⟨_, List.getElem?_eq_getElem hlt⟩
      have c0 := (hbel.cell (p := ⟨g, off + k * 2 + 0, none⟩) hg).trans (hc k p hp 0 (by omega))
      have c1 := (hbel.cell (p := ⟨g, off + k * 2 + 1, none⟩) hg).trans (hc k p hp 1 (by omega))
      simp only [Window.at_, Nat.add_zero] at c0 c1
      have HC := Lib.hid hc
      have HR := Lib.hid hr
      have HP := Lib.hid hp
      obtain ⟨a, b⟩ := p
      dsimp only at c0 c1
      clear hc hr hp
      obtain ⟨w1, hw1⟩ : ∃ w1, w1 = (wr.alloc (.cells #[.int .i64 a, .int .i64 b] 41)).drew := ⟨_, rfl⟩
      have HB1 : Hid (Blk w1 w.heap.size 51 cs) := Lib.hid (by rw [hw1]; exact hblk.alloc (.cells #[.int .i64 a, .int .i64 b] 41))
      have HE : Hid (Below w.heap.size w w1) := Lib.hid (by rw [hw1]; exact (hbel.alloc hs1 (.cells #[.int .i64 a, .int .i64 b] 41)).drew)
      have HW1 := Lib.hid hw1
      obtain ⟨m0, hm0⟩ : ∃ m0, m0 = if a < 0 then 0 else a := ⟨_, rfl⟩
      obtain ⟨m1, hm1⟩ : ∃ m1, m1 = if 2880 < b then 2880 else b := ⟨_, rfl⟩
      have HX0 := Lib.hid (show m0 = max a 0 by rw [hm0]; split <;> omega)
      have HX1 := Lib.hid (show m1 = min b 2880 by rw [hm1]; split <;> omega)
      have HM0 := Lib.hid hm0
      have HM1 := Lib.hid hm1
      clear hblk hw1 hm0 hm1
      go_wp2_with fail
      go_region_held3 (fun w' => w'.cell? ⟨wr.heap.size, 0, none⟩ = some (.int .i64 a) ∧ w'.cell? ⟨wr.heap.size, 1, none⟩ = some (.int .i64 b)) (go_keep) (fail)
      all_goals
        rw [← HM0.out, ← HM1.out, ← HW1.out]
        by_cases u : m0 ≤ m1
        · have hX0 := HX0.out
          have hX1 := HX1.out
          obtain ⟨qa, hqa⟩ : ∃ qa : Nat, m0 = qa := ⟨m0.toNat, by omega⟩
          obtain ⟨qb, hqb⟩ : ∃ qb : Nat, m1 = qb := ⟨m1.toNat, by omega⟩
          have hq1 : qa ≤ qb := by omega
          have hq2 : qb ≤ 2880 := by omega
          have HD : Hid (∀ j : Nat, dW ⟨a, b⟩ j = (if j = qa then 1 else 0) - (if j = qb + 1 then 1 else 0)) := Lib.hid fun j => by
            unfold dW
            dsimp only
            rw [← hX0, ← hX1, hqa, hqb, if_pos (by omega)]
            have e1 : ((qa : Int) = (j : Int)) = (j = qa) := by simp; omega
            have e2 : ((qb : Int) + 1 = (j : Int)) = (j = qb + 1) := by simp; omega
            simp only [e1, e2]
          subst hqa hqb
          clear hX0 hX1
          have hv1 := dL_bd qa (ps.take k)
          have hv2 := dL_bd (qb + 1) (ps.take k)
          have htk : (ps.take k).length = k := by simp; omega
          rw [htk] at hv1 hv2
          obtain ⟨va, hva⟩ : ∃ va, va = dL (ps.take k) qa := ⟨_, rfl⟩
          obtain ⟨vb, hvb⟩ : ∃ vb, vb = dL (ps.take k) (qb + 1) := ⟨_, rfl⟩
          rw [← hva] at hv1
          rw [← hvb] at hv2
          have e1 := (HB1.out.cell qa).trans (HROW.out.2 qa (by omega))
          have f1 := HB1.out.frozen qa
          have hK1 := Lib.hid (HB1.out.set_ qa (.int .i64 (va + 1)))
          have e2 := (hK1.out.cell (qb + 1)).trans (((HROW.out.set_ qa (va + 1) (h := fun j => if j = qa then va + 1 else dL (ps.take k) j) fun j hj => rfl)).2 (qb + 1) (by omega))
          have f2 := hK1.out.frozen (qb + 1)
          have hK2 := Lib.hid (hK1.out.set_ (qb + 1) (.int .i64 (vb - 1)))
          have hE2 := Lib.hid ((HE.out.setCell (p := ⟨w.heap.size, qa, none⟩) (Nat.le_refl _) (.int .i64 (va + 1))).setCell (p := ⟨w.heap.size, qb + 1, none⟩) (Nat.le_refl _) (.int .i64 (vb - 1)))
          simp only [if_neg (show ¬ qb + 1 = qa by omega)] at e2
          rw [← hva] at e1
          rw [← hvb] at e2
          obtain ⟨hv1a, hv1b⟩ := hv1
          obtain ⟨hv2a, hv2b⟩ := hv2
          have hVA := Lib.hid hva
          have hVB := Lib.hid hvb
          clear hva hvb
          go_wp2_with fail
          go_roundw
          case rel =>
            refine ⟨k + 1, by omega, by go_num, ⟨_, hK2.out, ((HROW.out.set_ qa (va + 1) (h := fun j => if j = qa then va + 1 else dL (ps.take k) j) fun j hj => rfl)).set_ (qb + 1) (vb - 1) fun j hj => ?_⟩, hE2.out⟩
            rw [dL_next HP.out, HD.out]
            by_cases j1 : j = qb + 1
            · subst j1
              rw [if_neg (show ¬ qb + 1 = qa by omega), if_pos rfl, if_pos rfl, hVB.out]
              omega
            · rw [if_neg j1, if_neg j1]
              by_cases j2 : j = qa
              · subst j2
                rw [if_pos rfl, if_pos rfl, hVA.out]
                omega
              · rw [if_neg j2, if_neg j2]
                omega
          case measure => simp [intOf]; omega
        · have HD : Hid (∀ j : Nat, dW ⟨a, b⟩ j = 0) := Lib.hid fun j => by
            unfold dW
            dsimp only
            rw [← HX0.out, ← HX1.out, if_neg u]
          go_wp2_with fail
          go_roundw
          case rel =>
            refine ⟨k + 1, by omega, by go_num, ⟨cs, HB1.out, HROW.out.congr fun j hj => ?_⟩, HE.out⟩
            rw [dL_next HP.out, HD.out]
            omega
          case measure => simp [intOf]; omega
    · have hk2 : k = ps.length := by omega
      subst hk2
      have hrow := HROW.out
      rw [List.take_length] at hrow
      obtain ⟨w1, hw1⟩ : ∃ w1, w1 = wr.alloc (.cells #[.int .i64 0] 3) := ⟨_, rfl⟩
      have hbc : Blk w1 wr.heap.size 3 #[.int .i64 0] := by rw [hw1]; exact Blk.new _ _ _
      have hbb : Blk w1 w.heap.size 51 cs := by rw [hw1]; exact hblk.alloc _
      have hE1 : Below w.heap.size w w1 := by rw [hw1]; exact hbel.alloc hs1 _
      have hz1 : w1.heap.size = wr.heap.size + 1 := by rw [hw1]; simp
      have HW1 := Lib.hid hw1
      have HC := Lib.hid (windowsOf_gather wr.heap.size w.heap.size (fun m => decide (0 < covN ps (m + 1))) wr.heap.size (fun m W => Blk W wr.heap.size 3 #[.int .i64 (covN ps m)] ∧ Blk W w.heap.size 51 cs) w1 ⟨hbc, hbb⟩
        (fun m W W' hI hz hb => ⟨hI.1.below hb (by omega), hI.2.below hb (by omega)⟩)
        (fun m W hm hz hI => (gatherAccept_any wr.heap.size w.heap.size cs (covN ps m) (dL ps m) m W hm hI.1 hI.2 (hrow.2 m (by omega)) (by omega) (covN_small hlen (by omega)) (by have := dL_bd m ps; omega)).mono
          fun e W' ⟨h1, h2, h3, h4⟩ => ⟨h1, ⟨h2, h3⟩, h4.mono (Nat.le_refl _) (by omega)⟩))
      have HF := Lib.hid (show gatherF ps = winsOf (fun m => decide (0 < covN ps (m + 1))) 2881 from winsOf_congr 2881 fun m hm => (covN_dec (by omega) ps).symm)
      rw [← HF.out] at HC
      clear hblk hbel hw1 hrow hbb hbc
      go_wp2_with fail
      rw [← HW1.out]
      refine HC.out.mono ?_
      rintro e w2 ⟨A2, c2, rfl, hsl, ho⟩
      have hbn := hE1.trans (ho.below (by omega) (by omega))
      go_wp2_with fail
      go_ret
      exact ⟨A2, c2, rfl, hsl.mono (by omega) (Nat.le_refl _), hbn⟩

end Go.Proofs.Ytfcdnaaecfhddaa
