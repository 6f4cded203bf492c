/-
  The contracts of HighWindows and LowWindows, the reference's.
-/
import Derived.Test.YtmhiohijpnmcpaaWinOfS
import Derived.Test.YtmhiohijpnmcpaaModelX
import Derived.Test.YtmhiohijpnmcpaaForeG
import Derived.Test.YtmhiohijpnmcpaaForeS
namespace Go.Proofs.Ytmhiohijpnmcpaa
open Go.RowKit

theorem infoBo : (Try.prog.info? 4).map (fun i => (i.zero, i.size, i.bytes)) = some (some (.bool false), 1, 1) := by kernel_rfl

theorem flatB_snoc (bs : List Bool) (b : Bool) : flat boolAt 1 (bs ++ [b]) = flat boolAt 1 bs ++ [.bool b] := flat_snoc
theorem ownsRow_next {w w' : World} {base size n : Nat} {e : TypeId} {v : Value} {xs : List Value} (h : w.ownsRow base e size v n xs) (hb : Below w.heap.size w w') : w'.ownsRow base e size v n xs := ownsRow_out h (Out.of_below 0 0 hb) (Nat.zero_le _)
theorem wpAppendBool {ops : Array Oper} {rest : List Oper} {o : Oper} {a : Act} {w : World} {Q : Exit → Act → World → Prop} (hgd : o.guard = none) (s x : Operand)
    (ho : o.op = .call { callee := .builtin .append, args := #[s, x], argTypes := #[101, 101] })
    (base : Nat) (v : Value) (acc : List Bool) (hs : a.eval s = v) (hown : w.ownsRow base 4 1 v acc.length (flat boolAt 1 acc))
    (b : Nat) (hx : a.eval x = .slice (some ⟨b, 0, none⟩) 1 1) (y : Bool) (hb : Blk w b 4 #[.bool y]) (hacc : acc.length ≤ 4194304) (hbase : base ≤ w.heap.size)
    (h : ∀ v' w', w'.ownsRow base 4 1 v' (acc.length + 1) (flat boolAt 1 (acc ++ [y])) → Below base w w' → w.grownBy w' v.ownBlock → (v'.ownBlock = v.ownBlock ∨ v'.ownBlock = some w.heap.size) → wpList Try.prog ops Q rest (a.put o.dst v') w') :
    wpList Try.prog ops Q (o :: rest) a w := by
  obtain ⟨i0, hi, hz0, hz1, hz2⟩ := info_parts infoBo
  refine wpList_append_own_at w hgd s x 101 ho base 4 i0 (.bool false) 1 1 Try.underlying101 hi hz0 hz1 hz2 rfl (by decide) v acc.length _ hs hown ⟨b, 0, none⟩ 1 1 [.bool y] hx rfl (fun j u hj => ?_) (fun u hu => ?_) (by unfold maxLen; omega) (by omega) hbase fun v' w' h1 h2 _ h3 => ?_
  · match j, hj with
    | 0, hj =>
      simp at hj
      subst hj
      exact hb.cell 0
  · simp at hu
    subst hu
    rfl
  · exact h v' w' (by rw [flatB_snoc]; exact h1) ((Below.refl _ _).grown h2 hbase (fun q hq => (hown.lt q hq).1)) h2 h3

set_option maxHeartbeats 4000000 in
theorem specLevels_any (hi : Bool) (m : Int) (A A' : Option Addr) (c c' : Nat) (ps : List Part) (ss : List Surge) (level : Int) (w : World) (hr : Rd w w.heap.size Part.at_ 3 A ps) (hr' : Rd w w.heap.size Surge.at_ 3 A' ss) (hok : foreOk m ps ss = true) :
    Calls Try.prog 74 #[.agg #[.int .i64 m, .slice A ps.length c, .slice A' ss.length c'], .int .i64 level, .bool hi] w (ResSl 83 Window.at_ 2 (wetF hi m ps ss level) w) := by
  obtain ⟨N, hN⟩ : ∃ N : Nat, N = 2881 := ⟨_, rfl⟩
  have HN1 := Lib.hid (show (N : Int) = 2881 by rw [hN]; rfl)
  obtain ⟨f, hf⟩ : ∃ f : Nat → Bool, f = fun t : Nat => decide (level ≤ endV hi m ps ss (t : Int)) := ⟨_, rfl⟩
  have HF := Lib.hid hf
  have HW := Lib.hid (show wetF hi m ps ss level = winsOf f N by rw [wetF_ok hok, hf, hN])
  clear hN
  have HK0 := Lib.hid (Blk.new w 35 #[.int .i64 m, .slice A ps.length c, .slice A' ss.length c'])
  have HL : Hid (((w.alloc (.cells #[.int .i64 m, .slice A ps.length c, .slice A' ss.length c'] 35)).alloc (.cells #[] 4)).ownsRow (w.heap.size + 1) 4 1 (.slice (some ⟨w.heap.size + 1, 0, none⟩) 0 0) 0 []) := Lib.hid (by
    have h := World.ownsRow_lit (base := w.heap.size + 1) (size := 1) (e := 4) (w.alloc (.cells #[.int .i64 m, .slice A ps.length c, .slice A' ss.length c'] 35)) #[] 0 (by simp) (by simp [maxLen]) rfl
    simpa using h)
  have hl := foreOk_len hok
  have HOK := Lib.hid hok
  clear hf hok
  obtain ⟨hl1, hl2⟩ := hl
  go_enter Try.func74, Try.ntmps74
  go_wp2_with fail
  go_loopw [7, 8] (fun v i wr => ∃ k : Nat, k ≤ N ∧ i = .int .i64 k ∧ wr.ownsRow (w.heap.size + 1) 4 1 v ((List.range k).map f).length (flat boolAt 1 ((List.range k).map f)) ∧ Blk wr w.heap.size 35 #[.int .i64 m, .slice A ps.length c, .slice A' ss.length c'] ∧ Below w.heap.size w wr) (fun _ i _ => N - (intOf i).toNat)
  case atStart => exact ⟨0, Nat.zero_le _, rfl, HL.out, HK0.out.alloc _, ((Below.refl _ _).alloc (Nat.le_refl _) _).alloc (by simp) _⟩
  case round =>
    obtain ⟨k, hk, rfl, hown, hblk, hbel⟩ := hrel
    have hs := hbel.size
    have hlk := hblk.lt
    obtain ⟨acc, hacc⟩ : ∃ acc, acc = (List.range k).map f := ⟨_, rfl⟩
    have hal : acc.length = k := by rw [hacc]; simp
    rw [← hacc] at hown
    have HACC := Lib.hid hacc
    have HAL := Lib.hid hal
    have hn1 := HN1.out
    clear hacc hal
    by_cases hlt : k < N
    · have hk1 : (k : Int) ≤ 2880 := by omega
      have hk0 : (0 : Int) ≤ (k : Int) := by omega
      clear hn1
      have hbd := surgeV_bd k HOK.out
      have hlb := levelV_bd (foreOk_tide HOK.out) k (Nat.le_refl ps.length)
      rw [List.take_length] at hlb
      obtain ⟨sv, hsv⟩ : ∃ sv, sv = surgeV ss k := ⟨_, rfl⟩
      obtain ⟨lv, hlv⟩ : ∃ lv, lv = levelV k m ps := ⟨_, rfl⟩
      rw [← hsv] at hbd
      rw [← hlv] at hlb
      have HFK := Lib.hid (show f k = decide (level ≤ endV hi m ps ss k) by rw [HF.out])
      have HV1 := Lib.hid (show highV m ps ss k = lv + sv.high by rw [highV, hlv, hsv])
      have HV2 := Lib.hid (show lowV m ps ss k = lv + sv.low by rw [lowV, hlv, hsv])
      have hcs : ∀ W : World, Rd W W.heap.size Surge.at_ 3 A' ss → Calls Try.prog 58 #[.agg #[.int .i64 m, .slice A ps.length c, .slice A' ss.length c'], .int .i64 k] W fun e w' => e = .returned (.agg #[.int .i64 sv.frm, .int .i64 sv.low, .int .i64 sv.high]) ∧ Below W.heap.size W w' := fun W h => by
        rw [hsv]
        exact specSurge_any _ _ _ _ _ _ _ _ _ h (by omega) (by omega)
      have hcl : ∀ W : World, Rd W W.heap.size Part.at_ 3 A ps → Calls Try.prog 61 #[.agg #[.int .i64 m, .slice A ps.length c], .int .i64 k] W fun e w' => e = .returned (.int .i64 lv) ∧ Below W.heap.size W w' := fun W h => by
        rw [hlv]
        exact specLevel_any _ _ _ _ _ _ h (foreOk_tide HOK.out) hk0 hk1
      have HRD1 := Lib.hid ((hr.below hbel).more hs)
      have HRD2 := Lib.hid ((hr'.below hbel).more hs)
      have c0 := hblk.cell 0
      have c1 := hblk.cell 1
      have c2 := hblk.cell 2
      clear hsv hlv
      go_wp2_with fail
      refine (hcs _ HRD2.out).mono ?_
      rintro e w1 ⟨rfl, hb1⟩
      obtain ⟨w2, hw2⟩ : ∃ w2, w2 = w1.alloc (.cells #[.int .i64 sv.frm, .int .i64 sv.low, .int .i64 sv.high] 66) := ⟨_, rfl⟩
      have hz1 := hb1.size
      have hb2 : Below wr.heap.size wr w2 := by rw [hw2]; exact hb1.alloc hz1 _
      have hkb2 := hblk.next hb2
      have hB2 := hbel.trans (hb2.mono hs)
      have HO2 := Lib.hid (ownsRow_next hown hb2)
      have hkb1 := hblk.next hb1
      have e0 := hkb1.cell 0
      have e1 := hkb1.cell 1
      have e2 := hkb1.cell 2
      have hlk1 := hkb1.lt
      have hz2 := hb2.size
      have hlk2 := hkb2.lt
      have HRD3 := Lib.hid ((hr.below hB2).more hB2.size)
      have HW2 := Lib.hid hw2
      clear hw2 hown c0 c1 c2
      cases hi
      all_goals
        go_wp2_with fail
        rw [← HW2.out]
        refine (hcl _ HRD3.out).mono ?_
        rintro e w3 ⟨rfl, hb3⟩
        have hz3 := hb3.size
        have hB3 := hB2.trans (hb3.mono hB2.size)
        have HO3 := Lib.hid (ownsRow_next HO2.out hb3)
        have HK3 := Lib.hid (hkb2.next hb3)
        clear e0 e1 e2 hkb1 hkb2 hb2
        go_wp2_with (at_builtin; refine wpAppendBool rfl _ _ rfl (w.heap.size + 1) _ acc rfl (HO3.out.alloc _) w3.heap.size rfl _ (Blk.new' _ _ (by simp)) (by rw [HAL.out]; omega) (by simp; omega) ?_)
        intro v' w4 hv' hb4 _ _
        have hbn : Below (w.heap.size + 1) w3 w4 := ((Below.refl _ _).alloc (by omega) _).trans hb4
        have hB4 := Lib.hid (hB3.trans (hbn.mono (by omega)))
        have HK4 := Lib.hid (HK3.out.below hbn (by omega))
        have HO4 := Lib.hid hv'
        clear hv' hb4 hbn
        go_wp2_with fail
        go_roundw
        case rel =>
          refine ⟨k + 1, by omega, by go_num, ?_, HK4.out, hB4.out⟩
          rw [List.range_succ, List.map_append, ← HACC.out]
          have h5 := HO4.out
          have h6 : (List.map f [k]) = [f k] := rfl
          rw [h6, HFK.out, List.length_append]
          first | (rw [show endV true m ps ss k = highV m ps ss k from rfl, HV1.out]; exact h5) | (rw [show endV false m ps ss k = lowV m ps ss k from rfl, HV2.out]; exact h5)
        case measure => simp [intOf]; omega
    · have hk2 : k = N := by omega
      subst hk2
      obtain ⟨A2, c2, rfl, hsl⟩ := Sl.of_own hown
      have HRES := Lib.hid (show wetF hi m ps ss level = winsOf (bsAt acc) acc.length by
        rw [HW.out, HAL.out]
        exact winsOf_congr k fun q hq => (bsAt_some (b := f q) (by rw [HACC.out]; simp [hq])).symm)
      have HC := Lib.hid (specOf_any A2 c2 acc wr hsl.rd (by rw [HAL.out]; omega))
      have hk1 : ¬ (k : Int) ≤ 2880 := by omega
      clear hn1
      clear hown hsl
      go_wp2_with fail
      refine HC.out.mono ?_
      rintro e w2 ⟨A3, c3, rfl, hsl3, hb3⟩
      have hbn := hbel.trans (hb3.mono hs)
      go_wp2_with fail
      go_ret
      exact ResSl.mk_ HRES.out rfl (hsl3.mono hs (Nat.le_refl _)) hbn

set_option maxHeartbeats 2000000 in
theorem specHighWindows_any (m : Int) (A A' : Option Addr) (c c' : Nat) (ps : List Part) (ss : List Surge) (level : Int) (w : World) (hr : Rd w w.heap.size Part.at_ 3 A ps) (hr' : Rd w w.heap.size Surge.at_ 3 A' ss) (hwf : ∀ p ∈ ps, p.wf) (hlen : ps.length ≤ 1048576) (hlen' : ss.length ≤ 1048576) :
    Calls Try.prog 33 #[.agg #[.int .i64 m, .slice A ps.length c, .slice A' ss.length c'], .int .i64 level] w (ResSl 83 Window.at_ 2 (wetF true m ps ss level) w) := by
  have hr1 : ∀ o, Rd (w.alloc o) (w.alloc o).heap.size Part.at_ 3 A ps := fun o => (hr.alloc (Nat.le_refl _) o).more (by simp)
  have hr2 : ∀ o, Rd (w.alloc o) (w.alloc o).heap.size Surge.at_ 3 A' ss := fun o => (hr'.alloc (Nat.le_refl _) o).more (by simp)
  have hk0 := Blk.new w 35 #[.int .i64 m, .slice A ps.length c, .slice A' ss.length c']
  have hB0 : Below w.heap.size w (w.alloc (.cells #[.int .i64 m, .slice A ps.length c, .slice A' ss.length c'] 35)) := (Below.refl _ _).alloc (Nat.le_refl _) _
  go_enter Try.func33, Try.ntmps33
  go_wp2_with fail
  refine (specForecastOk_any _ _ _ _ _ _ _ _ (hr1 _) (hr2 _) hwf hlen hlen').mono ?_
  rintro e w1 ⟨rfl, hb1⟩
  have hk1 := hk0.next hb1
  have hB1 := hB0.trans (hb1.mono hB0.size)
  have hz1 := hB1.size
  have c0 := hk1.cell 0
  have c1 := hk1.cell 1
  have c2 := hk1.cell 2
  cases hok : foreOk m ps ss
  · go_wp2_with fail
    go_ret
    exact ResSl.nil_ (wetF_no hok) hB1
  have HC := Lib.hid (specLevels_any true m A A' c c' ps ss level w1 ((hr.below hB1).more hB1.size) ((hr'.below hB1).more hB1.size) hok)
  clear hr hr' hr1 hr2 hk0 hB0 hb1
  go_wp2_with fail
  refine HC.out.mono ?_
  rintro e w2 ⟨A2, c2, rfl, hsl, hb2⟩
  have hbn := hB1.trans (hb2.mono hz1)
  go_wp2_with fail
  go_ret
  exact ⟨A2, c2, rfl, hsl.mono hz1 (Nat.le_refl _), hbn⟩
set_option maxHeartbeats 2000000 in
theorem specLowWindows_any (m : Int) (A A' : Option Addr) (c c' : Nat) (ps : List Part) (ss : List Surge) (level : Int) (w : World) (hr : Rd w w.heap.size Part.at_ 3 A ps) (hr' : Rd w w.heap.size Surge.at_ 3 A' ss) (hwf : ∀ p ∈ ps, p.wf) (hlen : ps.length ≤ 1048576) (hlen' : ss.length ≤ 1048576) :
    Calls Try.prog 38 #[.agg #[.int .i64 m, .slice A ps.length c, .slice A' ss.length c'], .int .i64 level] w (ResSl 83 Window.at_ 2 (wetF false m ps ss level) w) := by
  have hr1 : ∀ o, Rd (w.alloc o) (w.alloc o).heap.size Part.at_ 3 A ps := fun o => (hr.alloc (Nat.le_refl _) o).more (by simp)
  have hr2 : ∀ o, Rd (w.alloc o) (w.alloc o).heap.size Surge.at_ 3 A' ss := fun o => (hr'.alloc (Nat.le_refl _) o).more (by simp)
  have hk0 := Blk.new w 35 #[.int .i64 m, .slice A ps.length c, .slice A' ss.length c']
  have hB0 : Below w.heap.size w (w.alloc (.cells #[.int .i64 m, .slice A ps.length c, .slice A' ss.length c'] 35)) := (Below.refl _ _).alloc (Nat.le_refl _) _
  go_enter Try.func38, Try.ntmps38
  go_wp2_with fail
  refine (specForecastOk_any _ _ _ _ _ _ _ _ (hr1 _) (hr2 _) hwf hlen hlen').mono ?_
  rintro e w1 ⟨rfl, hb1⟩
  have hk1 := hk0.next hb1
  have hB1 := hB0.trans (hb1.mono hB0.size)
  have hz1 := hB1.size
  have c0 := hk1.cell 0
  have c1 := hk1.cell 1
  have c2 := hk1.cell 2
  cases hok : foreOk m ps ss
  · go_wp2_with fail
    go_ret
    exact ResSl.nil_ (wetF_no hok) hB1
  have HC := Lib.hid (specLevels_any false m A A' c c' ps ss level w1 ((hr.below hB1).more hB1.size) ((hr'.below hB1).more hB1.size) hok)
  clear hr hr' hr1 hr2 hk0 hB0 hb1
  go_wp2_with fail
  refine HC.out.mono ?_
  rintro e w2 ⟨A2, c2, rfl, hsl, hb2⟩
  have hbn := hB1.trans (hb2.mono hz1)
  go_wp2_with fail
  go_ret
  exact ⟨A2, c2, rfl, hsl.mono hz1 (Nat.le_refl _), hbn⟩
end Go.Proofs.Ytmhiohijpnmcpaa
