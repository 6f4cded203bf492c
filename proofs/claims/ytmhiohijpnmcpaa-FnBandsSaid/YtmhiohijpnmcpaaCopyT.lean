/-
  A tide that shares no memory: clone of parts, copyTide, l03Tide.
-/
import Derived.Test.YtmhiohijpnmcpaaAppAny
import Derived.Test.YtmhiohijpnmcpaaWinApp
import Derived.Test.YtmhiohijpnmcpaaTideF
namespace Go.Proofs.Ytmhiohijpnmcpaa
open Go.RowKit

theorem infoPartC : (Try.prog.info? 91).map (fun i => (i.zero, i.size, i.bytes)) = some (some (.agg #[.int .i64 0, .int .i64 0, .int .i64 0]), 3, 24) := by kernel_rfl
theorem part_one (ps : List Part) : ∀ u ∈ flat Part.at_ 3 ps, u.oneCell' = true := fun u hu => by
  obtain ⟨p, hp, hu⟩ := List.mem_flatMap.1 hu
  simp at hu
  obtain ⟨j, hj, rfl⟩ := hu
  match j, hj with
  | 0, _ => rfl
  | 1, _ => rfl
  | 2, _ => rfl

set_option maxHeartbeats 2000000 in
theorem clonePart_any (A : Option Addr) (c : Nat) (ps : List Part) (w : World) (hr : Rd w w.heap.size Part.at_ 3 A ps) (hlen : ps.length ≤ 1048576) :
    Calls Try.prog 92 #[.slice A ps.length c] w fun e w' => ∃ v, e = .returned v ∧ w'.ownsRow w.heap.size 91 3 v ps.length (flat Part.at_ 3 ps) ∧ Below w.heap.size w w' := by
  obtain ⟨i0, hi, hz0, hz1, hz2⟩ := info_parts infoPartC
  have hmk := run_make_room (P := Try.prog) 30 91 i0 _ 3 24 Try.underlying30 hi hz0 hz1 hz2 ps.length (by omega) (by omega)
  have hown : (w.alloc (.cells (madeCells #[.int .i64 0, .int .i64 0, .int .i64 0] (ps.length * 3)) 91)).ownsRow w.heap.size 91 3 (.slice (some ⟨w.heap.size, 0, none⟩) 0 ps.length) 0 [] :=
    ownsRow_room (z := .agg #[.int .i64 0, .int .i64 0, .int .i64 0]) (by simp [maxLen]; omega)
  have hB0 : Below w.heap.size w (w.alloc (.cells (madeCells #[.int .i64 0, .int .i64 0, .int .i64 0] (ps.length * 3)) 91)) := (Below.refl _ _).alloc (Nat.le_refl _) _
  have hcell := rd_src (Rd.below hr hB0) (by omega)
  have hnil := (rd_nil_len hr)
  have hfl := flat_length Part.at_ 3 ps
  have h1c := part_one ps
  clear hr
  go_enter Try.func92, Try.ntmps92
  go_wp2_with (at_builtin; refine wpList_append_any _ rfl _ _ 30 rfl w.heap.size 91 i0 (.agg #[.int .i64 0, .int .i64 0, .int .i64 0]) 3 24 Try.underlying30 hi hz0 hz1 hz2 rfl (by decide) _ _ _ rfl hown A ps.length c (flat Part.at_ 3 ps) rfl hfl hnil hcell h1c ?c3 ?c4 ?c5 ?_)
  case c3 => unfold maxLen; omega
  case c4 => omega
  case c5 => simp
  intro v' w' hown' hgrow
  have hbn := hB0.grown hgrow (by simp) (fun q hq => (hown.lt q hq).1)
  clear hgrow hown hB0 hcell hfl h1c hmk
  go_wp2_with fail
  go_ret
  exact ⟨v', rfl, by simpa using hown', hbn⟩

set_option maxHeartbeats 4000000 in
theorem implCopyTide_any (m : Int) (A : Option Addr) (c : Nat) (ps : List Part) (w : World) (hr : Rd w w.heap.size Part.at_ 3 A ps) (hlen : ps.length ≤ 1048576) :
    Calls Try.prog 66 #[.agg #[.int .i64 m, .slice A ps.length c]] w (ResTide m ps w) := by
  have hrd : ∀ o1 o2, Rd ((w.alloc o1).alloc o2).drew ((w.alloc o1).alloc o2).drew.heap.size Part.at_ 3 A ps := fun o1 o2 =>
    ((hr.alloc (Nat.le_refl _) o1).alloc (by simp) o2).more (by simp; omega)
  have hk0 : ∀ cs1 o2, Blk ((w.alloc (.cells cs1 32)).alloc o2).drew w.heap.size 32 cs1 := fun cs1 o2 => (Blk.new w _ cs1).alloc _
  have hk1 : ∀ o1 cs2, Blk ((w.alloc o1).alloc (.cells cs2 32)).drew (w.heap.size + 1) 32 cs2 := fun o1 cs2 => Blk.new' (W := w.alloc o1) _ _ (by simp)
  have hBA : ∀ o1 o2, Below w.heap.size w ((w.alloc o1).alloc o2).drew := fun o1 o2 => (((Below.refl _ _).alloc (Nat.le_refl _) _).alloc (by simp) _).drew
  have HRD := Lib.hid hrd
  have HK0 := Lib.hid hk0
  have HK1 := Lib.hid hk1
  have HBA := Lib.hid hBA
  clear hrd hk0 hk1 hBA hr
  go_enter Try.func66, Try.ntmps66
  go_wp2_with fail
  go_region_held3 (fun w' => w'.cell? ⟨w.heap.size, 0, none⟩ = some (.int .i64 m) ∧ w'.cell? ⟨w.heap.size, 1, none⟩ = some (.slice A ps.length c)) (go_keep)
    (first
      | (go_at_call 92; refine (clonePart_any _ _ _ _ (HRD.out _ _) hlen).mono ?_; rintro e w1 ⟨v1, rfl, hown1, hb1⟩; obtain ⟨B, d, rfl, hsl⟩ := Sl.of_own hown1; have k0 := (HK0.out _ _).next hb1; have k1 := (HK1.out _ _).next hb1; have a0 := k0.cell 0; have a1 := k0.cell 1; have b0 := k1.cell 0; have b1 := k1.cell 1; have g0 := k1.frozen 0; have g1 := k1.frozen 1))
  have hB1 := (HBA.out _ _).trans (hb1.mono (HBA.out _ _).size)
  have hz := hb1.size
  simp at hz
  have hsl0 : Sl w1 (w.heap.size + 2) w1.heap.size B 91 Part.at_ 3 ps := hsl.mono (by simp) (Nat.le_refl _)
  have HSL := Lib.hid hsl0
  have HB := Lib.hid hB1
  clear hsl hsl0 hb1 hB1 hown1 k0 k1
  go_wp2_with fail
  refine bodyPost_ret (v := .agg #[.int .i64 m, .slice B ps.length d]) ?_ rfl ?_
  · simp [results, Try.results66, go_sem, b0, b1]
  · refine ⟨_, _, rfl, ?_, ?_⟩
    · have h1 := HSL.out.setCell (p := ⟨w.heap.size + 1, 0, none⟩) (.inl (by show w.heap.size + 1 < w.heap.size + 2; omega)) (.int .i64 m)
      have h2 := h1.setCell (p := ⟨w.heap.size + 1, 1, none⟩) (.inl (by show w.heap.size + 1 < w.heap.size + 2; omega)) (.slice B ps.length d)
      have h3 := h2.mono (lo' := w.heap.size) (hi' := w1.heap.size) (by omega) (Nat.le_refl _)
      simpa using h3
    · exact ((HB.out.setCell (by show w.heap.size ≤ w.heap.size + 1; omega) _).setCell (by show w.heap.size ≤ w.heap.size + 1; omega) _)

set_option maxHeartbeats 4000000 in
theorem specCopyTide_any (m : Int) (A : Option Addr) (c : Nat) (ps : List Part) (w : World) (hr : Rd w w.heap.size Part.at_ 3 A ps) (hlen : ps.length ≤ 1048576) :
    Calls Try.prog 64 #[.agg #[.int .i64 m, .slice A ps.length c]] w (ResTide m ps w) := by
  obtain ⟨i0, hi, hz0, hz1, hz2⟩ := info_parts infoPartC
  have hfl := Lib.hid (flat_length Part.at_ 3 ps)
  have h1c := Lib.hid (part_one ps)
  have hnil := Lib.hid (rd_nil_len hr)
  obtain ⟨wa, hwa⟩ : ∃ wa, wa = ((w.alloc (.cells #[.int .i64 m, .slice A ps.length c] 32)).alloc (.cells #[.int .i64 0, .slice none 0 0] 32)) := ⟨_, rfl⟩
  have hk0 : Blk wa w.heap.size 32 #[.int .i64 m, .slice A ps.length c] := by rw [hwa]; exact (Blk.new _ _ _).alloc _
  have hk1 : Blk wa (w.heap.size + 1) 32 #[.int .i64 0, .slice none 0 0] := by rw [hwa]; exact Blk.new' _ _ (by simp)
  have hBA : Below w.heap.size w wa := by rw [hwa]; exact ((Below.refl _ _).alloc (Nat.le_refl _) _).alloc (by simp) _
  have HWA := Lib.hid hwa
  have hra := (hr.below hBA).more hBA.size
  have hown0 : Hid ((wa.drew.alloc (.cells #[] 91)).ownsRow wa.heap.size 91 3 (.slice (some ⟨wa.heap.size, 0, none⟩) 0 0) 0 []) := Lib.hid (World.ownsRow_lit wa.drew #[] 0 (Nat.le_refl _) (by decide) rfl)
  have hsrc0 : Hid (∀ ad, A = some ad → ∀ j u, (flat Part.at_ 3 ps)[j]? = some u → (wa.drew.alloc (.cells #[] 91)).cell? (ad.add j) = some u) := Lib.hid (rd_src ((show Rd wa.drew wa.heap.size Part.at_ 3 A ps from hra).alloc (Nat.le_refl _) _) (by decide))
  have hmx : 0 + ps.length ≤ maxLen := by unfold maxLen; omega
  have hmx2 : (0 + ps.length) * 24 ≤ 140737488355328 := by omega
  have hsz0 : wa.heap.size ≤ (wa.drew.alloc (.cells #[] 91)).heap.size := by simp
  have HM1 := Lib.hid hmx
  have HM2 := Lib.hid hmx2
  have HM3 := Lib.hid hsz0
  clear hwa hr hra hmx hmx2 hsz0
  have c0 := hk0.cell 0
  have c1 := hk0.cell 1
  have d0 := hk1.cell 0
  have d1 := hk1.cell 1
  have e0 := hk1.frozen 0
  have e1 := hk1.frozen 1
  have l0 := hk0.lt
  have l1 := hk1.lt
  have HK0 := Lib.hid hk0
  have HK1 := Lib.hid hk1
  have HBA := Lib.hid hBA
  clear hk0 hk1 hBA
  go_enter Try.func64, Try.ntmps64
  go_wp2_with fail
  rw [← HWA.out]
  go_region_held3 (fun w' => w'.cell? ⟨w.heap.size, 0, none⟩ = some (.int .i64 m) ∧ w'.cell? ⟨w.heap.size, 1, none⟩ = some (.slice A ps.length c)) (go_keep)
    (first
      | (refine step_append_any _ (by rfl) _ _ _ (by rfl) wa.heap.size 91 i0 _ 3 24 Try.underlying30 hi hz0 hz1 hz2 rfl (by omega) (.slice (some ⟨wa.heap.size, 0, none⟩) 0 0) 0 [] (by rfl) hown0.out A ps.length c (flat Part.at_ 3 ps) (by rfl) hfl.out hnil.out hsrc0.out h1c.out HM1.out HM2.out HM3.out ?_; intro v1 w1 hown1 hgrow1; have hown2 : w1.ownsRow wa.heap.size 91 3 v1 ps.length (flat Part.at_ 3 ps) := (Eq.mp (by rw [Nat.zero_add, List.nil_append]) hown1); obtain ⟨B, d, rfl, hsl⟩ := Sl.of_own hown2; have hbn1 : Below wa.heap.size wa w1 := ((Below.refl _ wa).drew.alloc (Nat.le_refl _) _).grown hgrow1 HM3.out (fun q hq => (hown0.out.lt q hq).1); have hcc1 : ∀ b o, b < wa.heap.size → w1.cell? ⟨b, o, none⟩ = wa.cell? ⟨b, o, none⟩ := (fun b o h => hbn1.cell (p := ⟨b, o, none⟩) h); have k1 := HK1.out.below hbn1 l1; have b0 := k1.cell 0; have b1 := k1.cell 1; have g0 := k1.frozen 0; have g1 := k1.frozen 1))
  have hB1 := HBA.out.trans (hbn1.mono HBA.out.size)
  have HSL := Lib.hid hsl
  have HB := Lib.hid hB1
  clear hsl hown1 hown2 hB1 hbn1 hgrow1 k1
  go_wp2_with fail
  refine bodyPost_ret (v := .agg #[.int .i64 m, .slice B ps.length d]) ?_ rfl ?_
  · simp [results, Try.results64, go_sem, b0, b1]
  · refine ⟨_, _, rfl, ?_, ?_⟩
    · have h1 := HSL.out.setCell (p := ⟨w.heap.size + 1, 0, none⟩) (.inl (by show w.heap.size + 1 < wa.heap.size; omega)) (.int .i64 m)
      have h2 := h1.setCell (p := ⟨w.heap.size + 1, 1, none⟩) (.inl (by show w.heap.size + 1 < wa.heap.size; omega)) (.slice B ps.length d)
      have h3 := h2.mono (lo' := w.heap.size) (hi' := w1.heap.size) (by omega) (Nat.le_refl _)
      simpa using h3
    · exact ((HB.out.setCell (by show w.heap.size ≤ w.heap.size + 1; omega) _).setCell (by show w.heap.size ≤ w.heap.size + 1; omega) _)

end Go.Proofs.Ytmhiohijpnmcpaa
