/-
  The contracts of HighWindows and LowWindows, the program's.
-/
import Derived.Test.YtmhiohijpnmcpaaWinOfI
import Derived.Test.YtmhiohijpnmcpaaModelX
import Derived.Test.YtmhiohijpnmcpaaForeB
namespace Go.Proofs.Ytmhiohijpnmcpaa
open Go.RowKit

set_option maxHeartbeats 2000000 in
theorem acceptHigh_any (bf bl : Nat) (m : Int) (A A' : Option Addr) (c c' : Nat) (ps : List Part) (ss : List Surge) (level t : Int) (w : World) (hr : Rd w w.heap.size Part.at_ 3 A ps) (hr' : Rd w w.heap.size Surge.at_ 3 A' ss) (hok : foreOk m ps ss = true) (ht0 : 0 ≤ t) (ht1 : t ≤ 2880)
    (hf : Blk w bf 35 #[.int .i64 m, .slice A ps.length c, .slice A' ss.length c']) (hl : Blk w bl 3 #[.int .i64 level]) :
    Calls Try.prog 76 #[.int .i64 t, .pointer (some ⟨bf, 0, none⟩), .pointer (some ⟨bl, 0, none⟩)] w fun e w' => e = .returned (.bool (decide (level ≤ endV true m ps ss t))) ∧ Below w.heap.size w w' := by
  have HRES := Lib.hid (show endV true m ps ss t = highV m ps ss t from rfl)
  obtain ⟨x, hx⟩ : ∃ x, x = highV m ps ss t := ⟨_, rfl⟩
  have hcl : ∀ W : World, Rd W W.heap.size Part.at_ 3 A ps → Rd W W.heap.size Surge.at_ 3 A' ss → Calls Try.prog 63 #[.agg #[.int .i64 m, .slice A ps.length c, .slice A' ss.length c'], .int .i64 t] W fun e w' => e = .returned (.int .i64 x) ∧ Below W.heap.size W w' := fun W h h' => by
    rw [hx]
    exact implHigh_any _ _ _ _ _ _ _ _ _ h h' hok ht0 ht1
  have c0 := hf.cell 0
  have c1 := hf.cell 1
  have c2 := hf.cell 2
  have d0 := hl.cell 0
  have hlf := hf.lt
  have hll := hl.lt
  have rd1 : Rd w.drew w.drew.heap.size Part.at_ 3 A ps := hr
  have rd2 : Rd w.drew w.drew.heap.size Surge.at_ 3 A' ss := hr'
  have HX := Lib.hid hx
  clear hx hf hl hr hr' hok
  go_enter Try.func76, Try.ntmps76
  go_wp2_with fail
  go_region_held3 (fun w' => w'.cell? ⟨bf, 0, none⟩ = some (.int .i64 m) ∧ w'.cell? ⟨bf, 1, none⟩ = some (.slice A ps.length c) ∧ w'.cell? ⟨bf, 2, none⟩ = some (.slice A' ss.length c') ∧ w'.cell? ⟨bl, 0, none⟩ = some (.int .i64 level)) (go_keep)
    ((go_at_call 63; refine (hcl _ rd1 rd2).mono ?_; rintro e w1 ⟨rfl, hb1⟩; have hcc1 : ∀ b o, b < w.heap.size → w1.cell? ⟨b, o, none⟩ = w.cell? ⟨b, o, none⟩ := (bcell hb1).1))
  go_wp2_with fail
  go_ret
  refine ⟨by rw [HRES.out, ← HX.out]; rfl, ?_⟩
  exact (Below.refl w.heap.size w).drew.trans hb1

set_option maxHeartbeats 4000000 in
theorem windowsOf_High (bf bl : Nat) (f : Nat → Bool) (lo : Nat) (I : Nat → World → Prop) (w : World) (h0 : I 0 w) (hkeep : ∀ m W W', I m W → w.heap.size ≤ W.heap.size → Below w.heap.size W W' → I m W')
    (hcall : ∀ (m : Nat) W, m ≤ 2880 → w.heap.size ≤ W.heap.size → I m W → Calls Try.prog 76 #[.int .i64 m, .pointer (some ⟨bf, 0, none⟩), .pointer (some ⟨bl, 0, none⟩)] W fun e W' => e = .returned (.bool (f m)) ∧ I (m + 1) W' ∧ Out lo w.heap.size W W') :
    Calls Try.prog 75 #[.func (.func 76) #[] #[.pointer (some ⟨bf, 0, none⟩), .pointer (some ⟨bl, 0, none⟩)]] w fun e w' => ∃ A c, e = .returned (.slice A (winsOf f 2881).length c) ∧ Sl w' w.heap.size w'.heap.size A 83 Window.at_ 2 (winsOf f 2881) ∧ Out lo w.heap.size w w' := by
  obtain ⟨N, hN⟩ : ∃ N : Nat, N = 2881 := ⟨_, rfl⟩
  have HN := Lib.hid hN
  rw [← hN]
  clear hN
  have hN1 : (N : Int) = 2881 := by rw [HN.out]; rfl
  have HN1 := Lib.hid hN1
  clear hN1
  have HI0 := Lib.hid (hkeep 0 w _ h0 (Nat.le_refl _) ((Below.refl _ w).alloc (Nat.le_refl _) (.cells #[] 83)))
  have HK := Lib.hid hkeep
  clear hkeep h0
  go_enter Try.func75, Try.ntmps75
  go_wp2_with fail
  go_loopw [3, 4, 5] (fun v o i wr => ∃ k : Nat, k ≤ N ∧ i = .int .i64 k ∧ o = .bool (prevB f k) ∧ wr.ownsRow w.heap.size 83 2 v (winsOf f k).length (flat Window.at_ 2 (winsOf f k)) ∧ I k wr ∧ Out lo w.heap.size w wr) (fun _ _ i _ => N - (intOf i).toNat)
  case atStart => exact ⟨0, Nat.zero_le _, rfl, rfl, World.ownsRow_lit w #[] 0 (by omega) (by simp [maxLen]) rfl, HI0.out, Out.of_below _ _ ((Below.refl _ _).alloc (Nat.le_refl _) _)⟩
  case round =>
    obtain ⟨k, hk, rfl, rfl, hown, hI, hout⟩ := hrel
    have hs := hout.size
    have hwl := winsOf_le f k
    obtain ⟨acc, hacc⟩ : ∃ acc, acc = winsOf f k := ⟨_, rfl⟩
    rw [← hacc] at hown hwl
    have HACC := Lib.hid hacc
    have HO := Lib.hid hown
    have hn1 := HN1.out
    clear hacc hown
    by_cases hlt : k < N
    · have hk1 : (k : Int) ≤ 2880 := by omega
      have HC := Lib.hid (hcall k wr (by omega) hs hI)
      clear hI
      cases hf : f k
      · have HF := Lib.hid hf
        have HX := Lib.hid (winsOf_off hf)
        rw [hf] at HC
        clear hf
        go_wp2_with fail
        refine HC.out.mono ?_
        rintro e w1 ⟨rfl, hI1, ho1⟩
        go_wp2_with fail
        go_roundw
        case rel => exact ⟨k + 1, by omega, by go_num, by rw [show prevB f (k + 1) = f k from rfl, HF.out], by rw [HX.out, ← HACC.out]; exact ownsRow_out HO.out ho1 (Nat.le_refl _), hI1, hout.trans ho1⟩
        case measure => simp [intOf]; omega
      · have HF := Lib.hid hf
        rw [hf] at HC
        clear hf
        cases hp : prevB f k
        · have HX := Lib.hid (winsOf_new HF.out hp)
          go_wp2_with fail
          refine HC.out.mono ?_
          rintro e w1 ⟨rfl, hI1, ho1⟩
          have hz1 := ho1.size
          have HO1 := Lib.hid (ownsRow_out HO.out ho1 (Nat.le_refl _))
          go_wp2_with (at_builtin; refine wpAppendWindow rfl _ _ rfl w.heap.size _ acc rfl (HO1.out.alloc _) w1.heap.size rfl _ _ (Blk.new' _ _ (by simp)) (by omega) (by simp; omega) ?_)
          intro v' w2 hv' hb2 _ _
          have hbn : Below w.heap.size w1 w2 := ((Below.refl _ _).alloc (by omega) _).trans hb2
          obtain ⟨gb, cap, rfl, hgb, hgl, e0, f0, hset⟩ := ownW_last (acc := acc) (p := ⟨k, 0⟩) (by rw [List.length_append]; exact hv')
          have HS := Lib.hid (hset k)
          have hbs : Below w.heap.size w1 (w2.setCell ⟨gb, acc.length * 2 + 1, none⟩ (.int .i64 k)) := hbn.setCell (by exact hgb) _
          have HBS := Lib.hid hbs
          dsimp only at e0
          clear hv' hset hbn hb2 hbs
          go_wp2_with fail
          go_roundw
          case rel => exact ⟨k + 1, by omega, by go_num, by rw [show prevB f (k + 1) = f k from rfl, HF.out], by rw [HX.out, ← HACC.out]; first | exact HS.out | (rw [List.length_append]; exact HS.out), HK.out _ _ _ hI1 (by omega) HBS.out, (hout.trans ho1).then_ HBS.out⟩
          case measure => simp [intOf]; omega
        · have HX := Lib.hid (winsOf_ext HF.out hp)
          obtain ⟨acc', a, he, ha⟩ := winsOf_last f k hp
          rw [← HACC.out] at he
          subst he
          have hla : (acc' ++ [(⟨a, (k : Int) - 1⟩ : Window)]).length = acc'.length + 1 := by simp
          have hn0 : acc'.length + 1 ≤ k := by rw [← hla]; exact hwl
          clear hla hwl
          go_wp2_with fail
          refine HC.out.mono ?_
          rintro e w1 ⟨rfl, hI1, ho1⟩
          have hz1 := ho1.size
          obtain ⟨gb, cap, rfl, hgb, hgl, e0, f0, hset⟩ := ownW_last (ownsRow_out HO.out ho1 (Nat.le_refl _))
          have HS := Lib.hid (hset k)
          have HBS := Lib.hid (show Below w.heap.size w1 (w1.setCell ⟨gb, acc'.length * 2 + 1, none⟩ (.int .i64 k)) from (Below.refl _ _).setCell (by exact hgb) _)
          dsimp only at e0
          clear hset
          go_wp2_with fail
          go_roundw
          case rel => exact ⟨k + 1, by omega, by go_num, by rw [show prevB f (k + 1) = f k from rfl, HF.out], by rw [HX.out, ← HACC.out, extW_snoc]; first | exact HS.out | (rw [List.length_append]; exact HS.out), HK.out _ _ _ hI1 (by omega) HBS.out, (hout.trans ho1).then_ HBS.out⟩
          case measure => simp [intOf]; omega
    · have hk2 : k = N := by omega
      subst hk2
      obtain ⟨A', c', rfl, hsl⟩ := Sl.of_own HO.out
      go_wp2_with fail
      go_ret
      exact ⟨A', c', by rw [← HACC.out]; rfl, by rw [← HACC.out]; exact hsl, hout⟩
set_option maxHeartbeats 2000000 in
theorem implHighWindows_any (m : Int) (A A' : Option Addr) (c c' : Nat) (ps : List Part) (ss : List Surge) (level : Int) (w : World) (hr : Rd w w.heap.size Part.at_ 3 A ps) (hr' : Rd w w.heap.size Surge.at_ 3 A' ss) (hwf : ∀ p ∈ ps, p.wf) (hlen : ps.length ≤ 1048576) (hlen' : ss.length ≤ 1048576) :
    Calls Try.prog 34 #[.agg #[.int .i64 m, .slice A ps.length c, .slice A' ss.length c'], .int .i64 level] w (ResSl 83 Window.at_ 2 (wetF true m ps ss level) w) := by
  have hmf : ∀ (fn : Fn) (first cap : Array Value) (w : World), (Instr.makeFunc fn first cap).run Try.prog w = .ok (.func fn first cap) w := fun _ _ _ _ => rfl
  obtain ⟨wa, hwa⟩ : ∃ wa, wa = (w.alloc (.cells #[.int .i64 m, .slice A ps.length c, .slice A' ss.length c'] 35)).alloc (.cells #[.int .i64 level] 3) := ⟨_, rfl⟩
  have hB0 : Below w.heap.size w wa := by rw [hwa]; exact ((Below.refl _ _).alloc (Nat.le_refl _) _).alloc (by simp) _
  have hk0 : Blk wa w.heap.size 35 #[.int .i64 m, .slice A ps.length c, .slice A' ss.length c'] := by rw [hwa]; exact (Blk.new _ _ _).alloc _
  have hk1 : Blk wa (w.heap.size + 1) 3 #[.int .i64 level] := by rw [hwa]; exact Blk.new' _ _ (by simp)
  have HR1 := Lib.hid ((hr.below hB0).more hB0.size)
  have HR2 := Lib.hid ((hr'.below hB0).more hB0.size)
  have c0 := hk0.cell 0
  have c1 := hk0.cell 1
  have c2 := hk0.cell 2
  have HWA := Lib.hid hwa
  clear hwa
  go_enter Try.func34, Try.ntmps34
  go_wp2_with fail
  rw [← HWA.out]
  refine (implForecastOk_any _ _ _ _ _ _ _ _ HR1.out HR2.out hwf hlen hlen').mono ?_
  rintro e w1 ⟨rfl, hb1⟩
  have hB1 := hB0.trans (hb1.mono hB0.size)
  have hz1 := hB1.size
  have hj0 := hk0.next hb1
  have hj1 := hk1.next hb1
  have hz2 := hj1.lt
  cases hok : foreOk m ps ss
  · go_wp2_with fail
    go_ret
    exact ResSl.nil_ (wetF_no hok) hB1
  have HC := Lib.hid (windowsOf_High w.heap.size (w.heap.size + 1) (fun t => decide (level ≤ endV true m ps ss t)) w1.heap.size (fun _ W => Below w.heap.size w W ∧ Blk W w.heap.size 35 #[.int .i64 m, .slice A ps.length c, .slice A' ss.length c'] ∧ Blk W (w.heap.size + 1) 3 #[.int .i64 level]) w1 ⟨hB1, hj0, hj1⟩
    (fun _ W W' hI hz hb => ⟨hI.1.trans (hb.mono hz1), hI.2.1.below hb (by omega), hI.2.2.below hb (by omega)⟩)
    (fun t W ht hz hI => (acceptHigh_any _ _ _ _ _ _ _ _ _ _ t W ((hr.below hI.1).more hI.1.size) ((hr'.below hI.1).more hI.1.size) hok (by omega) (by omega) hI.2.1 hI.2.2).mono
      fun e W' ⟨h1, h2⟩ => ⟨h1, ⟨hI.1.trans (h2.mono hI.1.size), hI.2.1.next h2, hI.2.2.next h2⟩, Out.of_below _ _ h2⟩))
  have HF := Lib.hid (wetF_ok (hi := true) (level := level) hok)
  rw [← HF.out] at HC
  go_wp2_with fail
  refine HC.out.mono ?_
  rintro e w2 ⟨A2, c2, rfl, hsl, ho⟩
  have hbn := hB1.trans (ho.below hz1 hz1)
  go_wp2_with fail
  go_ret
  exact ⟨A2, c2, rfl, hsl.mono hz1 (Nat.le_refl _), hbn⟩
set_option maxHeartbeats 2000000 in
theorem acceptLow_any (bf bl : Nat) (m : Int) (A A' : Option Addr) (c c' : Nat) (ps : List Part) (ss : List Surge) (level t : Int) (w : World) (hr : Rd w w.heap.size Part.at_ 3 A ps) (hr' : Rd w w.heap.size Surge.at_ 3 A' ss) (hok : foreOk m ps ss = true) (ht0 : 0 ≤ t) (ht1 : t ≤ 2880)
    (hf : Blk w bf 35 #[.int .i64 m, .slice A ps.length c, .slice A' ss.length c']) (hl : Blk w bl 3 #[.int .i64 level]) :
    Calls Try.prog 78 #[.int .i64 t, .pointer (some ⟨bf, 0, none⟩), .pointer (some ⟨bl, 0, none⟩)] w fun e w' => e = .returned (.bool (decide (level ≤ endV false m ps ss t))) ∧ Below w.heap.size w w' := by
  have HRES := Lib.hid (show endV false m ps ss t = lowV m ps ss t from rfl)
  obtain ⟨x, hx⟩ : ∃ x, x = lowV m ps ss t := ⟨_, rfl⟩
  have hcl : ∀ W : World, Rd W W.heap.size Part.at_ 3 A ps → Rd W W.heap.size Surge.at_ 3 A' ss → Calls Try.prog 62 #[.agg #[.int .i64 m, .slice A ps.length c, .slice A' ss.length c'], .int .i64 t] W fun e w' => e = .returned (.int .i64 x) ∧ Below W.heap.size W w' := fun W h h' => by
    rw [hx]
    exact implLow_any _ _ _ _ _ _ _ _ _ h h' hok ht0 ht1
  have c0 := hf.cell 0
  have c1 := hf.cell 1
  have c2 := hf.cell 2
  have d0 := hl.cell 0
  have hlf := hf.lt
  have hll := hl.lt
  have rd1 : Rd w.drew w.drew.heap.size Part.at_ 3 A ps := hr
  have rd2 : Rd w.drew w.drew.heap.size Surge.at_ 3 A' ss := hr'
  have HX := Lib.hid hx
  clear hx hf hl hr hr' hok
  go_enter Try.func78, Try.ntmps78
  go_wp2_with fail
  go_region_held3 (fun w' => w'.cell? ⟨bf, 0, none⟩ = some (.int .i64 m) ∧ w'.cell? ⟨bf, 1, none⟩ = some (.slice A ps.length c) ∧ w'.cell? ⟨bf, 2, none⟩ = some (.slice A' ss.length c') ∧ w'.cell? ⟨bl, 0, none⟩ = some (.int .i64 level)) (go_keep)
    ((go_at_call 62; refine (hcl _ rd1 rd2).mono ?_; rintro e w1 ⟨rfl, hb1⟩; have hcc1 : ∀ b o, b < w.heap.size → w1.cell? ⟨b, o, none⟩ = w.cell? ⟨b, o, none⟩ := (bcell hb1).1))
  go_wp2_with fail
  go_ret
  refine ⟨by rw [HRES.out, ← HX.out]; rfl, ?_⟩
  exact (Below.refl w.heap.size w).drew.trans hb1

set_option maxHeartbeats 4000000 in
theorem windowsOf_Low (bf bl : Nat) (f : Nat → Bool) (lo : Nat) (I : Nat → World → Prop) (w : World) (h0 : I 0 w) (hkeep : ∀ m W W', I m W → w.heap.size ≤ W.heap.size → Below w.heap.size W W' → I m W')
    (hcall : ∀ (m : Nat) W, m ≤ 2880 → w.heap.size ≤ W.heap.size → I m W → Calls Try.prog 78 #[.int .i64 m, .pointer (some ⟨bf, 0, none⟩), .pointer (some ⟨bl, 0, none⟩)] W fun e W' => e = .returned (.bool (f m)) ∧ I (m + 1) W' ∧ Out lo w.heap.size W W') :
    Calls Try.prog 75 #[.func (.func 78) #[] #[.pointer (some ⟨bf, 0, none⟩), .pointer (some ⟨bl, 0, none⟩)]] w fun e w' => ∃ A c, e = .returned (.slice A (winsOf f 2881).length c) ∧ Sl w' w.heap.size w'.heap.size A 83 Window.at_ 2 (winsOf f 2881) ∧ Out lo w.heap.size w w' := by
  obtain ⟨N, hN⟩ : ∃ N : Nat, N = 2881 := ⟨_, rfl⟩
  have HN := Lib.hid hN
  rw [← hN]
  clear hN
  have hN1 : (N : Int) = 2881 := by rw [HN.out]; rfl
  have HN1 := Lib.hid hN1
  clear hN1
  have HI0 := Lib.hid (hkeep 0 w _ h0 (Nat.le_refl _) ((Below.refl _ w).alloc (Nat.le_refl _) (.cells #[] 83)))
  have HK := Lib.hid hkeep
  clear hkeep h0
  go_enter Try.func75, Try.ntmps75
  go_wp2_with fail
  go_loopw [3, 4, 5] (fun v o i wr => ∃ k : Nat, k ≤ N ∧ i = .int .i64 k ∧ o = .bool (prevB f k) ∧ wr.ownsRow w.heap.size 83 2 v (winsOf f k).length (flat Window.at_ 2 (winsOf f k)) ∧ I k wr ∧ Out lo w.heap.size w wr) (fun _ _ i _ => N - (intOf i).toNat)
  case atStart => exact ⟨0, Nat.zero_le _, rfl, rfl, World.ownsRow_lit w #[] 0 (by omega) (by simp [maxLen]) rfl, HI0.out, Out.of_below _ _ ((Below.refl _ _).alloc (Nat.le_refl _) _)⟩
  case round =>
    obtain ⟨k, hk, rfl, rfl, hown, hI, hout⟩ := hrel
    have hs := hout.size
    have hwl := winsOf_le f k
    obtain ⟨acc, hacc⟩ : ∃ acc, acc = winsOf f k := ⟨_, rfl⟩
    rw [← hacc] at hown hwl
    have HACC := Lib.hid hacc
    have HO := Lib.hid hown
    have hn1 := HN1.out
    clear hacc hown
    by_cases hlt : k < N
    · have hk1 : (k : Int) ≤ 2880 := by omega
      have HC := Lib.hid (hcall k wr (by omega) hs hI)
      clear hI
      cases hf : f k
      · have HF := Lib.hid hf
        have HX := Lib.hid (winsOf_off hf)
        rw [hf] at HC
        clear hf
        go_wp2_with fail
        refine HC.out.mono ?_
        rintro e w1 ⟨rfl, hI1, ho1⟩
        go_wp2_with fail
        go_roundw
        case rel => exact ⟨k + 1, by omega, by go_num, by rw [show prevB f (k + 1) = f k from rfl, HF.out], by rw [HX.out, ← HACC.out]; exact ownsRow_out HO.out ho1 (Nat.le_refl _), hI1, hout.trans ho1⟩
        case measure => simp [intOf]; omega
      · have HF := Lib.hid hf
        rw [hf] at HC
        clear hf
        cases hp : prevB f k
        · have HX := Lib.hid (winsOf_new HF.out hp)
          go_wp2_with fail
          refine HC.out.mono ?_
          rintro e w1 ⟨rfl, hI1, ho1⟩
          have hz1 := ho1.size
          have HO1 := Lib.hid (ownsRow_out HO.out ho1 (Nat.le_refl _))
          go_wp2_with (at_builtin; refine wpAppendWindow rfl _ _ rfl w.heap.size _ acc rfl (HO1.out.alloc _) w1.heap.size rfl _ _ (Blk.new' _ _ (by simp)) (by omega) (by simp; omega) ?_)
          intro v' w2 hv' hb2 _ _
          have hbn : Below w.heap.size w1 w2 := ((Below.refl _ _).alloc (by omega) _).trans hb2
          obtain ⟨gb, cap, rfl, hgb, hgl, e0, f0, hset⟩ := ownW_last (acc := acc) (p := ⟨k, 0⟩) (by rw [List.length_append]; exact hv')
          have HS := Lib.hid (hset k)
          have hbs : Below w.heap.size w1 (w2.setCell ⟨gb, acc.length * 2 + 1, none⟩ (.int .i64 k)) := hbn.setCell (by exact hgb) _
          have HBS := Lib.hid hbs
          dsimp only at e0
          clear hv' hset hbn hb2 hbs
          go_wp2_with fail
          go_roundw
          case rel => exact ⟨k + 1, by omega, by go_num, by rw [show prevB f (k + 1) = f k from rfl, HF.out], by rw [HX.out, ← HACC.out]; first | exact HS.out | (rw [List.length_append]; exact HS.out), HK.out _ _ _ hI1 (by omega) HBS.out, (hout.trans ho1).then_ HBS.out⟩
          case measure => simp [intOf]; omega
        · have HX := Lib.hid (winsOf_ext HF.out hp)
          obtain ⟨acc', a, he, ha⟩ := winsOf_last f k hp
          rw [← HACC.out] at he
          subst he
          have hla : (acc' ++ [(⟨a, (k : Int) - 1⟩ : Window)]).length = acc'.length + 1 := by simp
          have hn0 : acc'.length + 1 ≤ k := by rw [← hla]; exact hwl
          clear hla hwl
          go_wp2_with fail
          refine HC.out.mono ?_
          rintro e w1 ⟨rfl, hI1, ho1⟩
          have hz1 := ho1.size
          obtain ⟨gb, cap, rfl, hgb, hgl, e0, f0, hset⟩ := ownW_last (ownsRow_out HO.out ho1 (Nat.le_refl _))
          have HS := Lib.hid (hset k)
          have HBS := Lib.hid (show Below w.heap.size w1 (w1.setCell ⟨gb, acc'.length * 2 + 1, none⟩ (.int .i64 k)) from (Below.refl _ _).setCell (by exact hgb) _)
          dsimp only at e0
          clear hset
          go_wp2_with fail
          go_roundw
          case rel => exact ⟨k + 1, by omega, by go_num, by rw [show prevB f (k + 1) = f k from rfl, HF.out], by rw [HX.out, ← HACC.out, extW_snoc]; first | exact HS.out | (rw [List.length_append]; exact HS.out), HK.out _ _ _ hI1 (by omega) HBS.out, (hout.trans ho1).then_ HBS.out⟩
          case measure => simp [intOf]; omega
    · have hk2 : k = N := by omega
      subst hk2
      obtain ⟨A', c', rfl, hsl⟩ := Sl.of_own HO.out
      go_wp2_with fail
      go_ret
      exact ⟨A', c', by rw [← HACC.out]; rfl, by rw [← HACC.out]; exact hsl, hout⟩
set_option maxHeartbeats 2000000 in
theorem implLowWindows_any (m : Int) (A A' : Option Addr) (c c' : Nat) (ps : List Part) (ss : List Surge) (level : Int) (w : World) (hr : Rd w w.heap.size Part.at_ 3 A ps) (hr' : Rd w w.heap.size Surge.at_ 3 A' ss) (hwf : ∀ p ∈ ps, p.wf) (hlen : ps.length ≤ 1048576) (hlen' : ss.length ≤ 1048576) :
    Calls Try.prog 39 #[.agg #[.int .i64 m, .slice A ps.length c, .slice A' ss.length c'], .int .i64 level] w (ResSl 83 Window.at_ 2 (wetF false m ps ss level) w) := by
  have hmf : ∀ (fn : Fn) (first cap : Array Value) (w : World), (Instr.makeFunc fn first cap).run Try.prog w = .ok (.func fn first cap) w := fun _ _ _ _ => rfl
  obtain ⟨wa, hwa⟩ : ∃ wa, wa = (w.alloc (.cells #[.int .i64 m, .slice A ps.length c, .slice A' ss.length c'] 35)).alloc (.cells #[.int .i64 level] 3) := ⟨_, rfl⟩
  have hB0 : Below w.heap.size w wa := by rw [hwa]; exact ((Below.refl _ _).alloc (Nat.le_refl _) _).alloc (by simp) _
  have hk0 : Blk wa w.heap.size 35 #[.int .i64 m, .slice A ps.length c, .slice A' ss.length c'] := by rw [hwa]; exact (Blk.new _ _ _).alloc _
  have hk1 : Blk wa (w.heap.size + 1) 3 #[.int .i64 level] := by rw [hwa]; exact Blk.new' _ _ (by simp)
  have HR1 := Lib.hid ((hr.below hB0).more hB0.size)
  have HR2 := Lib.hid ((hr'.below hB0).more hB0.size)
  have c0 := hk0.cell 0
  have c1 := hk0.cell 1
  have c2 := hk0.cell 2
  have HWA := Lib.hid hwa
  clear hwa
  go_enter Try.func39, Try.ntmps39
  go_wp2_with fail
  rw [← HWA.out]
  refine (implForecastOk_any _ _ _ _ _ _ _ _ HR1.out HR2.out hwf hlen hlen').mono ?_
  rintro e w1 ⟨rfl, hb1⟩
  have hB1 := hB0.trans (hb1.mono hB0.size)
  have hz1 := hB1.size
  have hj0 := hk0.next hb1
  have hj1 := hk1.next hb1
  have hz2 := hj1.lt
  cases hok : foreOk m ps ss
  · go_wp2_with fail
    go_ret
    exact ResSl.nil_ (wetF_no hok) hB1
  have HC := Lib.hid (windowsOf_Low w.heap.size (w.heap.size + 1) (fun t => decide (level ≤ endV false m ps ss t)) w1.heap.size (fun _ W => Below w.heap.size w W ∧ Blk W w.heap.size 35 #[.int .i64 m, .slice A ps.length c, .slice A' ss.length c'] ∧ Blk W (w.heap.size + 1) 3 #[.int .i64 level]) w1 ⟨hB1, hj0, hj1⟩
    (fun _ W W' hI hz hb => ⟨hI.1.trans (hb.mono hz1), hI.2.1.below hb (by omega), hI.2.2.below hb (by omega)⟩)
    (fun t W ht hz hI => (acceptLow_any _ _ _ _ _ _ _ _ _ _ t W ((hr.below hI.1).more hI.1.size) ((hr'.below hI.1).more hI.1.size) hok (by omega) (by omega) hI.2.1 hI.2.2).mono
      fun e W' ⟨h1, h2⟩ => ⟨h1, ⟨hI.1.trans (h2.mono hI.1.size), hI.2.1.next h2, hI.2.2.next h2⟩, Out.of_below _ _ h2⟩))
  have HF := Lib.hid (wetF_ok (hi := false) (level := level) hok)
  rw [← HF.out] at HC
  go_wp2_with fail
  refine HC.out.mono ?_
  rintro e w2 ⟨A2, c2, rfl, hsl, ho⟩
  have hbn := hB1.trans (ho.below hz1 hz1)
  go_wp2_with fail
  go_ret
  exact ⟨A2, c2, rfl, hsl.mono hz1 (Nat.le_refl _), hbn⟩
end Go.Proofs.Ytmhiohijpnmcpaa
