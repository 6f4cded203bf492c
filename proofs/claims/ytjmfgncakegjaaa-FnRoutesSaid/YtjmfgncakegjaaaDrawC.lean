/-
  The contracts of draws: a chart.
-/
import Derived.Test.YtjmfgncakegjaaaNum
import Derived.Test.YtjmfgncakegjaaaModelFR
import Derived.Test.YtjmfgncakegjaaaTPoint
import Derived.Test.YtjmfgncakegjaaaTSegment
import Derived.Test.YtjmfgncakegjaaaRtB
import Derived.Deep.RegionLaw
import Derived.Deep.AppendLies
import Derived.Deep.CutRange
namespace Go.Proofs.Ytjmfgncakegjaaa
open Go.RowKit

/-- All blocks of other types are as they were. -/
def KeepT (t : TypeId) (w w' : World) : Prop := ∀ k cs t', t' ≠ t → Blk w k t' cs → Blk w' k t' cs
section
variable {w w' w1 : World} {t t' : TypeId} {g base size n : Nat} {cs : Array Value} {v : Value} {xs : List Value}
theorem KeepT.blk (h : KeepT t w w') (hb : Blk w g t' cs) (hne : t' ≠ t) : Blk w' g t' cs := h g cs t' hne hb
theorem KeepT.own (h : KeepT t w w') (ho : w.ownsRow base t' size v n xs) (hne : t' ≠ t) : w'.ownsRow base t' size v n xs :=
  ⟨ho.1, ho.2.imp id fun ⟨q, cap, cur, hv, hq, hc, rest⟩ => ⟨q, cap, cur, hv, hq, h q cur t' hne hc, rest⟩⟩
theorem KeepT.trans (h : KeepT t w w1) (k : KeepT t w1 w') : KeepT t w w' := fun g cs t' hne hb => k g cs t' hne (h g cs t' hne hb)
theorem KeepT.of_blk (hb : Blk w g t cs) (hg : w.grownBy w' (some g)) : KeepT t w w' := fun k cs' t' hne hk => hk.grown hg (fun e => by
  cases e
  unfold Blk at hb hk
  rw [hb] at hk
  cases hk
  exact hne rfl)
theorem KeepT.of_own (ho : w.ownsRow base t size v n xs) (hg : w.grownBy w' v.ownBlock) : KeepT t w w' := fun k cs' t' hne hk => hk.grown hg (fun e => by
  rcases ho.2 with ⟨rfl, _⟩ | ⟨q, cap, cur, rfl, _, hc, _⟩
  · cases e
  · cases e
    unfold Blk at hk
    rw [hc] at hk
    cases hk
    exact hne rfl)
theorem KeepT.of_set (hb : Blk w g t cs) (i : Nat) (u : Value) : KeepT t w (w.setCell ⟨g, i, none⟩ u) := fun k cs' t' hne hk => hk.far (fun e => by
  have e' : k = g := e
  subst e'
  unfold Blk at hb hk
  rw [hb] at hk
  cases hk
  exact hne rfl) u
theorem KeepT.of_below (h : Below w.heap.size w w') : KeepT t w w' := fun _ _ _ _ hk => hk.next h
theorem KeepT.cur (h : KeepT t w w') {A : Option Addr} {m c : Nat} (hc : Cur w g A m c) (hne : 100 ≠ t) : Cur w' g A m c := by
  obtain ⟨i, x, hi, hk⟩ := hc
  exact ⟨i, x, hi, h.blk hk hne⟩
end

/-- A call that hands back a drawn chart of its own, and turns the source alone. -/
def ChartPost (g : Nat) (w : World) (e : Ending) (w' : World) : Prop :=
  ∃ (A1 A2 : Option Addr) (c1 c2 : Nat) (ps : List Point) (ss : List Segment), e = .returned (.agg #[.slice A1 ps.length c1, .slice A2 ss.length c2]) ∧ ss.length ≤ c2 ∧ Drawn ps ss ∧ Sl w' w.heap.size w'.heap.size A1 59 Point.at_ 2 ps ∧ Sl w' w.heap.size w'.heap.size A2 69 Segment.at_ 5 ss ∧ w.grownBy w' (some g)

/-- While a chart is drawn: its box, its rows, the source. -/
def DrwRel (g : Nat) (A : Option Addr) (n c : Nat) (w : World) (bx : Nat) (ps : List Point) (ss : List Segment) (W : World) : Prop :=
  w.heap.size < bx ∧ ∃ vp vs, Blk W bx 31 #[vp, vs] ∧ W.ownsRow w.heap.size 59 2 vp ps.length (flat Point.at_ 2 ps) ∧ W.ownsRow w.heap.size 69 5 vs ss.length (flat Segment.at_ 5 ss) ∧ Cur W g A n c ∧ w.grownBy W (some g) ∧ Blk W w.heap.size 31 #[.slice none 0 0, .slice none 0 0]
theorem Cur.keepT {w w' : World} {g n c : Nat} {A : Option Addr} (h : Cur w g A n c) (hg : w.grownBy w' (some g)) : KeepT 100 w w' := by
  obtain ⟨i, x, _, hk⟩ := h
  exact KeepT.of_blk hk hg
theorem DrwRel.drawn {g n c bx : Nat} {A : Option Addr} {w W W' : World} {ps : List Point} {ss : List Segment} (h : DrwRel g A n c w bx ps ss W) (hg : W.grownBy W' (some g)) (hc : Cur W' g A n c) : DrwRel g A n c w bx ps ss W' := by
  obtain ⟨h0, vp, vs, h1, h2, h3, h4, h5, h6⟩ := h
  have k := h4.keepT hg
  exact ⟨h0, vp, vs, k.blk h1 (by decide), k.own h2 (by decide), k.own h3 (by decide), hc, h5.trans hg, k.blk h6 (by decide)⟩

theorem own_flat {α : Type} {enc : α → Nat → Value} {w : World} {base size n : Nat} {e : TypeId} {v : Value} {ps : List α} {x : α} {news : List Value} (h : w.ownsRow base e size v n (flat enc size ps ++ news)) (hn : n = ps.length + 1) (hx : (List.range size).map (enc x) = news) : w.ownsRow base e size v (ps ++ [x]).length (flat enc size (ps ++ [x])) := by
  subst hn
  exact own_snoc h rfl hx
/-- A segment more: the row, then the box. -/
theorem DrwRel.seg {g n c bx : Nat} {A : Option Addr} {w W W' : World} {ps : List Point} {ss : List Segment} {vp vs v' : Value} {x : Segment} (h0 : w.heap.size < bx) (h1 : Blk W bx 31 #[vp, vs]) (h2 : W.ownsRow w.heap.size 59 2 vp ps.length (flat Point.at_ 2 ps)) (h3 : W.ownsRow w.heap.size 69 5 vs ss.length (flat Segment.at_ 5 ss)) (h4 : Cur W g A n c) (h5 : w.grownBy W (some g)) (h6 : Blk W w.heap.size 31 #[.slice none 0 0, .slice none 0 0])
    (hg : W.grownBy W' vs.ownBlock) (ho : W'.ownsRow w.heap.size 69 5 v' (ss ++ [x]).length (flat Segment.at_ 5 (ss ++ [x]))) : DrwRel g A n c w bx ps (ss ++ [x]) (W'.setCell ⟨bx, 1, none⟩ v') := by
  have k := KeepT.of_own h3 hg
  have hb := k.blk h1 (by decide)
  have hbl : Below w.heap.size W W' := (Below.refl _ _).grown hg h5.size (fun q hq => (h3.lt q hq).1)
  have ks := KeepT.of_set hb 1 v'
  have hlt : Below w.heap.size W (W'.setCell ⟨bx, 1, none⟩ v') := hbl.setCell (by show w.heap.size ≤ bx; omega) _
  refine ⟨h0, vp, v', hb.set_ 1 v', ks.own (k.own h2 (by decide)) (by decide), ks.own ho (by decide), ks.cur (k.cur h4 (by decide)) (by decide), grown_below h5 hlt, ?_⟩
  exact (k.blk h6 (by decide)).far (by show w.heap.size ≠ bx; omega) _
theorem DrwRel.pnt {g n c bx : Nat} {A : Option Addr} {w W W' : World} {ps : List Point} {ss : List Segment} {vp vs v' : Value} {x : Point} (h0 : w.heap.size < bx) (h1 : Blk W bx 31 #[vp, vs]) (h2 : W.ownsRow w.heap.size 59 2 vp ps.length (flat Point.at_ 2 ps)) (h3 : W.ownsRow w.heap.size 69 5 vs ss.length (flat Segment.at_ 5 ss)) (h4 : Cur W g A n c) (h5 : w.grownBy W (some g)) (h6 : Blk W w.heap.size 31 #[.slice none 0 0, .slice none 0 0])
    (hg : W.grownBy W' vp.ownBlock) (ho : W'.ownsRow w.heap.size 59 2 v' (ps ++ [x]).length (flat Point.at_ 2 (ps ++ [x]))) : DrwRel g A n c w bx (ps ++ [x]) ss (W'.setCell ⟨bx, 0, none⟩ v') := by
  have k := KeepT.of_own h2 hg
  have hb := k.blk h1 (by decide)
  have hbl : Below w.heap.size W W' := (Below.refl _ _).grown hg h5.size (fun q hq => (h2.lt q hq).1)
  have ks := KeepT.of_set hb 0 v'
  have hlt : Below w.heap.size W (W'.setCell ⟨bx, 0, none⟩ v') := hbl.setCell (by show w.heap.size ≤ bx; omega) _
  refine ⟨h0, v', vs, hb.set_ 0 v', ks.own ho (by decide), ks.own (k.own h3 (by decide)) (by decide), ks.cur (k.cur h4 (by decide)) (by decide), grown_below h5 hlt, ?_⟩
  exact (k.blk h6 (by decide)).far (by show w.heap.size ≠ bx; omega) _
theorem DrwRel.alloc {g n c bx : Nat} {A : Option Addr} {w W : World} {ps : List Point} {ss : List Segment} (h : DrwRel g A n c w bx ps ss W) (o : Obj) : DrwRel g A n c w bx ps ss (W.alloc o) := by
  obtain ⟨h0, vp, vs, h1, h2, h3, h4, h5, h6⟩ := h
  have hb : Below W.heap.size W (W.alloc o) := (Below.refl _ _).alloc (Nat.le_refl _) _
  have k := KeepT.of_below (t := 0) hb
  have hgl : g < W.heap.size := by
    obtain ⟨i, x, _, hk⟩ := h4
    exact hk.lt
  exact ⟨h0, vp, vs, h1.alloc _, own_next' h2 hb, own_next' h3 hb, h4.below hb hgl, grown_below h5 (hb.mono h5.size), h6.alloc _⟩

theorem own_slice {w : World} {base size n : Nat} {e : TypeId} {v : Value} {xs : List Value} (h : w.ownsRow base e size v (n + 1) xs) : ∃ q c, v = .slice (some q) (n + 1) c := by
  rcases h.2 with ⟨_, h0⟩ | ⟨q, c, _, hv, _⟩
  · cases h0
  · exact ⟨_, c, hv⟩
theorem sl_own_cap {α : Type} {enc : α → Nat → Value} {w : World} {base size : Nat} {e : TypeId} {v : Value} {ps : List α} (h : w.ownsRow base e size v ps.length (flat enc size ps)) : ∃ A c, v = .slice A ps.length c ∧ ps.length ≤ c ∧ Sl w base w.heap.size A e enc size ps := by
  obtain ⟨A, c, hv, hsl⟩ := Sl.of_own h
  refine ⟨A, c, hv, ?_, hsl⟩
  rcases h.2 with ⟨h1, h2⟩ | ⟨g, cap, cur, h1, h2, h3, h4, _⟩
  · rw [h2]
    exact Nat.zero_le _
  · rw [hv] at h1
    cases h1
    exact h4
structure DrwAt (g : Nat) (A : Option Addr) (n c : Nat) (w : World) (bx : Nat) (ps : List Point) (ss : List Segment) (vp vs : Value) (W : World) : Prop where
  kb : Blk W bx 31 #[vp, vs]
  kp : W.ownsRow w.heap.size 59 2 vp ps.length (flat Point.at_ 2 ps)
  ks : W.ownsRow w.heap.size 69 5 vs ss.length (flat Segment.at_ 5 ss)
  cur : Cur W g A n c
  gr : w.grownBy W (some g)
  br : Blk W w.heap.size 31 #[.slice none 0 0, .slice none 0 0]
section
variable {g n c bx : Nat} {A : Option Addr} {w W W' : World} {ps : List Point} {ss : List Segment} {vp vs v' : Value}
theorem DrwRel.at_ (h : DrwRel g A n c w bx ps ss W) : w.heap.size < bx ∧ ∃ vp vs, DrwAt g A n c w bx ps ss vp vs W := by
  obtain ⟨h0, vp, vs, h1, h2, h3, h4, h5, h6⟩ := h
  exact ⟨h0, vp, vs, h1, h2, h3, h4, h5, h6⟩
theorem DrwAt.next (h : DrwAt g A n c w bx ps ss vp vs W) (hg : W.grownBy W' (some g)) (hc : Cur W' g A n c) : DrwAt g A n c w bx ps ss vp vs W' := by
  have k := h.cur.keepT hg
  exact ⟨k.blk h.kb (by decide), k.own h.kp (by decide), k.own h.ks (by decide), hc, h.gr.trans hg, k.blk h.br (by decide)⟩
theorem DrwAt.alloc (h : DrwAt g A n c w bx ps ss vp vs W) (o : Obj) : DrwAt g A n c w bx ps ss vp vs (W.alloc o) := by
  have hb : Below W.heap.size W (W.alloc o) := (Below.refl _ _).alloc (Nat.le_refl _) _
  have hgl : g < W.heap.size := by
    obtain ⟨i, x, _, hk⟩ := h.cur
    exact hk.lt
  exact ⟨h.kb.alloc _, own_next' h.kp hb, own_next' h.ks hb, h.cur.below hb hgl, grown_below h.gr (hb.mono h.gr.size), h.br.alloc _⟩
theorem DrwAt.drew (h : DrwAt g A n c w bx ps ss vp vs W) : DrwAt g A n c w bx ps ss vp vs W.drew := ⟨h.kb, h.kp, h.ks, h.cur, ⟨h.gr.os, h.gr.tape, h.gr.output, h.gr.size, h.gr.block⟩, h.br⟩
theorem DrwAt.seg {x : Segment} {news : List Value} (h : DrwAt g A n c w bx ps ss vp vs W) (h0 : w.heap.size < bx) (hg : W.grownBy W' vs.ownBlock) (ho : W'.ownsRow w.heap.size 69 5 v' (ss.length + 1) (flat Segment.at_ 5 ss ++ news)) (hx : (List.range 5).map (Segment.at_ x) = news) : DrwRel g A n c w bx ps (ss ++ [x]) (W'.setCell ⟨bx, 1, none⟩ v') :=
  DrwRel.seg h0 h.kb h.kp h.ks h.cur h.gr h.br hg (own_flat ho rfl hx)
theorem DrwAt.pnt {x : Point} {news : List Value} (h : DrwAt g A n c w bx ps ss vp vs W) (h0 : w.heap.size < bx) (hg : W.grownBy W' vp.ownBlock) (ho : W'.ownsRow w.heap.size 59 2 v' (ps.length + 1) (flat Point.at_ 2 ps ++ news)) (hx : (List.range 2).map (Point.at_ x) = news) : DrwRel g A n c w bx (ps ++ [x]) ss (W'.setCell ⟨bx, 0, none⟩ v') :=
  DrwRel.pnt h0 h.kb h.kp h.ks h.cur h.gr h.br hg (own_flat ho rfl hx)
theorem DrwAt.keepS (h : DrwAt g A n c w bx ps ss vp vs W) (hg : W.grownBy W' vs.ownBlock) : Blk W' bx 31 #[vp, vs] := (KeepT.of_own h.ks hg).blk h.kb (by decide)
theorem DrwAt.keepP (h : DrwAt g A n c w bx ps ss vp vs W) (hg : W.grownBy W' vp.ownBlock) : Blk W' bx 31 #[vp, vs] := (KeepT.of_own h.kp hg).blk h.kb (by decide)
end

set_option maxHeartbeats 4000000 in
set_option maxRecDepth 20000 in
theorem l05Draw_any (g : Nat) (A : Option Addr) (c : Nat) (zs : List Int) (w : World) (hc : Cur w g A zs.length c) (hr : Rd w g byteAt 1 A zs) (hlen : zs.length ≤ 1048576) (hb : ∀ z ∈ zs, 0 ≤ z ∧ z ≤ 255) :
    Calls Try.prog 65 #[.pointer (some ⟨g, 0, none⟩)] w (ChartPost g w) := by
  have hgl : g < w.heap.size := by
    obtain ⟨i, x, _, hk⟩ := hc
    exact hk.lt
  obtain ⟨wa, hwa⟩ : ∃ wa, wa = w.alloc (.cells #[.slice none 0 0, .slice none 0 0] 31) := ⟨_, rfl⟩
  have hba : Below w.heap.size w wa := by rw [hwa]; exact (Below.refl _ _).alloc (Nat.le_refl _) _
  have hka : Blk wa w.heap.size 31 #[.slice none 0 0, .slice none 0 0] := by rw [hwa]; exact Blk.new _ _ _
  have hca := hc.below hba hgl
  have hga : w.grownBy wa (some g) := ⟨hba.os, hba.tape, hba.output, hba.size, fun k hk _ => hba.block k hk⟩
  have RR : Hid (∀ W, w.grownBy W (some g) → Rd W g byteAt 1 A zs) := Lib.hid fun W h => hr.keep fun p hp => World.cell?_of_block (h.block p.block (by omega) (fun e => by injection e with e; omega))
  have HWA := Lib.hid hwa
  clear hwa hc hr hba
  go_enter Try.func65, Try.ntmps65
  go_wp2_with fail
  rw [← HWA.out]
  refine (l01Once_any _ _ _ _ _ _ hca (RR.out _ hga) hlen hb (by omega)).mono ?_
  rintro e w1 ⟨y1, rfl, hc1, hg1⟩
  go_wp2_with fail
  have hg1' := hga.trans hg1
  have hs1 : (w1.alloc (.cells #[.string ⟨#[115, 101, 97]⟩, .bool true, .string ⟨#[98, 97, 114]⟩, .bool false, .string ⟨#[114, 111, 97, 100]⟩, .bool y1, .string ⟨#[113, 117, 97, 121]⟩, .bool true] 59)).heap.size = w1.heap.size + 1 := by simp
  have hz1 := hg1'.size
  obtain ⟨wb, hwb⟩ : ∃ wb, wb = (w1.alloc (.cells #[.string ⟨#[115, 101, 97]⟩, .bool true, .string ⟨#[98, 97, 114]⟩, .bool false, .string ⟨#[114, 111, 97, 100]⟩, .bool y1, .string ⟨#[113, 117, 97, 121]⟩, .bool true] 59)).alloc (.cells #[.slice (some ⟨w1.heap.size, 0, none⟩) 4 4, .slice none 0 0] 31) := ⟨_, rfl⟩
  have hbb : Below w1.heap.size w1 wb := by rw [hwb]; exact ((Below.refl _ _).alloc (Nat.le_refl _) _).alloc (by simp) _
  have hkb : Blk wb (w1.heap.size + 1) 31 #[.slice (some ⟨w1.heap.size, 0, none⟩) 4 4, .slice none 0 0] := by
    rw [hwb, ← hs1]
    exact Blk.new _ _ _
  have hpb : wb.ownsRow w.heap.size 59 2 (.slice (some ⟨w1.heap.size, 0, none⟩) 4 4) 4 (flat Point.at_ 2 (ps4 y1)) := by
    have h := World.ownsRow_lit (base := w.heap.size) (e := 59) (size := 2) w1 #[.string ⟨#[115, 101, 97]⟩, .bool true, .string ⟨#[98, 97, 114]⟩, .bool false, .string ⟨#[114, 111, 97, 100]⟩, .bool y1, .string ⟨#[113, 117, 97, 121]⟩, .bool true] 4 (by omega) (by decide) rfl
    rw [hwb]
    exact own_next' h ((Below.refl _ _).alloc (Nat.le_refl _) _)
  have hcb := hc1.below hbb (by omega)
  have hgb : w.grownBy wb (some g) := grown_below (hg1') (hbb.mono (by omega))
  have hkr : Blk wb w.heap.size 31 #[.slice none 0 0, .slice none 0 0] := (hka.grown hg1 (fun e => by injection e with e; omega)).next hbb
  have HWB := Lib.hid hwb
  have HKB := Lib.hid hkb
  have HPB := Lib.hid hpb
  have HCB := Lib.hid hcb
  have HKR := Lib.hid hkr
  have c0 := hkb.cell 0
  clear hwb hkb hpb hkr hbb hc1 hg1 hca hka c0
  rw [← HWB.out]
  have hG0 : wb.grownBy wb (some g) := World.grownBy.refl wb _
  refine (l01Num_any _ _ _ _ _ _ hcb (RR.out _ (hgb.trans hG0)) hlen hb (by omega)).mono ?_
  rintro e w2 ⟨x1, rfl, hx1a, hx1b, hc2, hg2⟩
  have ex1 : IntKind.i64.wrap (900 + x1) = 900 + x1 := IntWalk.i64_in _ (by omega)
  have hG1 := hG0.trans hg2
  clear hg2
  go_wp2_with fail
  refine (l01Num_any _ _ _ _ _ _ hc2 (RR.out _ (hgb.trans hG1)) hlen hb (by omega)).mono ?_
  rintro e w3 ⟨x2, rfl, hx2a, hx2b, hc3, hg3⟩
  have ex2 : IntKind.i64.wrap (10 + x2) = 10 + x2 := IntWalk.i64_in _ (by omega)
  have hG2 := hG1.trans hg3
  clear hg3 hc2
  go_wp2_with fail
  refine (l01Num_any _ _ _ _ _ _ hc3 (RR.out _ (hgb.trans hG2)) hlen hb (by omega)).mono ?_
  rintro e w4 ⟨x3, rfl, hx3a, hx3b, hc4, hg4⟩
  have ex3 : IntKind.i64.wrap (800 + x3) = 800 + x3 := IntWalk.i64_in _ (by omega)
  have hG3 := hG2.trans hg4
  clear hg4 hc3
  go_wp2_with fail
  refine (l01Num_any _ _ _ _ _ _ hc4 (RR.out _ (hgb.trans hG3)) hlen hb (by omega)).mono ?_
  rintro e w5 ⟨x4, rfl, hx4a, hx4b, hc5, hg5⟩
  have ex4 : IntKind.i64.wrap (10 + x4) = 10 + x4 := IntWalk.i64_in _ (by omega)
  have hG4 := hG3.trans hg5
  clear hg5 hc4
  go_wp2_with fail
  refine (l01Once_any _ _ _ _ _ _ hc5 (RR.out _ (hgb.trans hG4)) hlen hb (by omega)).mono ?_
  rintro e w6 ⟨y2, rfl, hc6, hg6⟩
  have hG5 := hG4.trans hg6
  clear hg6 hc5
  go_wp2_with fail
  refine (l01Num_any _ _ _ _ _ _ hc6 (RR.out _ (hgb.trans hG5)) hlen hb (by omega)).mono ?_
  rintro e w7 ⟨x5, rfl, hx5a, hx5b, hc7, hg7⟩
  have ex5 : IntKind.i64.wrap (900 + x5) = 900 + x5 := IntWalk.i64_in _ (by omega)
  have hG6 := hG5.trans hg7
  clear hg7 hc6
  go_wp2_with fail
  refine (l01Num_any _ _ _ _ _ _ hc7 (RR.out _ (hgb.trans hG6)) hlen hb (by omega)).mono ?_
  rintro e w8 ⟨x6, rfl, hx6a, hx6b, hc8, hg8⟩
  have ex6 : IntKind.i64.wrap (5 + x6) = 5 + x6 := IntWalk.i64_in _ (by omega)
  have hG7 := hG6.trans hg8
  clear hg8 hc7
  have hK := HCB.out.keepT hG7
  have hkx := hK.blk HKB.out (by decide)
  have d0 := hkx.cell 0
  have d1 := hkx.cell 1
  have f1 := hkx.frozen 1
  have hlx := hkx.lt
  go_wp2_with fail
  obtain ⟨bx, hbx⟩ : ∃ bx, bx = w1.heap.size + 1 := ⟨_, rfl⟩
  obtain ⟨vs, hvs⟩ : ∃ vs : Value, vs = .slice (some ⟨w8.heap.size, 0, none⟩) 3 3 := ⟨_, rfl⟩
  obtain ⟨wm, hwm⟩ : ∃ wm, wm = (w8.setCell ⟨w1.heap.size + 1, 1, none⟩ (.slice (some ⟨w8.heap.size, 0, none⟩) 3 3)).alloc (.cells #[.int .i64 0, .int .i64 1, .int .i64 (900 + x1), .int .i64 (10 + x2), .bool false, .int .i64 1, .int .i64 2, .int .i64 (800 + x3), .int .i64 (10 + x4), .bool y2, .int .i64 2, .int .i64 3, .int .i64 (900 + x5), .int .i64 (5 + x6), .bool false] 69) := ⟨_, rfl⟩
  obtain ⟨ss0, hss0⟩ : ∃ ss0, ss0 = ss3 (900 + x1) (10 + x2) (800 + x3) (10 + x4) y2 (900 + x5) (5 + x6) := ⟨_, rfl⟩
  have hz8 : w.heap.size ≤ w8.heap.size := (hgb.trans hG7).size
  have hs8 : (w8.setCell ⟨w1.heap.size + 1, 1, none⟩ (.slice (some ⟨w8.heap.size, 0, none⟩) 3 3)).heap.size = w8.heap.size := by simp [World.setCell]
  have hrel : DrwRel g A zs.length c w bx (ps4 y1) ss0 wm := by
    have ks := KeepT.of_set hkx 1 (.slice (some ⟨w8.heap.size, 0, none⟩) 3 3)
    have hgs : w.grownBy (w8.setCell ⟨w1.heap.size + 1, 1, none⟩ (.slice (some ⟨w8.heap.size, 0, none⟩) 3 3)) (some g) := grown_below (hgb.trans hG7) ((Below.refl w.heap.size w8).setCell (by show w.heap.size ≤ w1.heap.size + 1; omega) _ |>.mono (Nat.le_refl _))
    have hba : Below (w8.setCell ⟨w1.heap.size + 1, 1, none⟩ (.slice (some ⟨w8.heap.size, 0, none⟩) 3 3)).heap.size (w8.setCell ⟨w1.heap.size + 1, 1, none⟩ (.slice (some ⟨w8.heap.size, 0, none⟩) 3 3)) wm := by rw [hwm]; exact (Below.refl _ _).alloc (Nat.le_refl _) _
    refine ⟨by omega, .slice (some ⟨w1.heap.size, 0, none⟩) 4 4, .slice (some ⟨w8.heap.size, 0, none⟩) 3 3, ?_, ?_, ?_, ?_, ?_, ?_⟩
    · rw [hbx]
      exact (hkx.set_ 1 (.slice (some ⟨w8.heap.size, 0, none⟩) 3 3)).next hba
    · exact own_next' (ks.own (hK.own HPB.out (by decide)) (by decide)) hba
    · rw [hss0, hwm]
      have h := World.ownsRow_lit (base := w.heap.size) (e := 69) (size := 5) (w8.setCell ⟨w1.heap.size + 1, 1, none⟩ (.slice (some ⟨w8.heap.size, 0, none⟩) 3 3)) #[.int .i64 0, .int .i64 1, .int .i64 (900 + x1), .int .i64 (10 + x2), .bool false, .int .i64 1, .int .i64 2, .int .i64 (800 + x3), .int .i64 (10 + x4), .bool y2, .int .i64 2, .int .i64 3, .int .i64 (900 + x5), .int .i64 (5 + x6), .bool false] 3 (by omega) (by decide) rfl
      rw [hs8] at h
      exact h
    · exact (ks.cur hc8 (by decide)).below hba (by rw [hs8]; omega)
    · exact grown_below hgs (hba.mono hgs.size)
    · exact ((hK.blk HKR.out (by decide)).far (by show w.heap.size ≠ w1.heap.size + 1; omega) _).next hba
  have HWC := Lib.hid hwm
  have HSS0 := Lib.hid hss0
  have HL0 := Lib.hid (show ss0.length = 3 by rw [hss0]; rfl)
  have hl0 : ss0.length ≤ 3 := by rw [hss0]; exact Nat.le_refl 3
  clear hss0
  rw [← HWC.out]
  subst hbx
  clear hwm hvs
  obtain ⟨-, _, _, -, -, -, hcR, hgR, -⟩ := id hrel
  refine (l01Once_any _ _ _ _ _ _ hcR (RR.out _ hgR) hlen hb (by omega)).mono ?_
  rintro e w9 ⟨y3, rfl, hc9, hg9⟩
  have hrel9 := hrel.drawn hg9 hc9
  obtain ⟨iG, hiG, hzG0, hzG1, hzG2⟩ := info_parts infoSegment
  obtain ⟨h0x, vp, vs, k9⟩ := hrel9.at_
  have k9d := k9.drew
  have q9 := k9.kb.cell 1
  have l9 := k9.kb.lt
  have hw9 : w.heap.size ≤ w1.heap.size := hz1
  have HX0 := Lib.hid hrel9
  clear hrel hcR hgR hc9 hg9 hkx d0 d1 f1 hlx hrel9
  go_upto_if 38 with fail
  go_cut [] from 39 to 50 (fun W => ∃ d4 m4 : Int, (0 ≤ d4 ∧ d4 ≤ 2000) ∧ (1 ≤ m4 ∧ m4 ≤ 100) ∧ DrwRel g A zs.length c w (w1.heap.size + 1) (ps4 y1) (ssL y3 d4 m4 ss0) W)
  case first =>
    rename_i J K' hRJ hMK
    cases y3
    · go_wp2_with fail
      go_meet
      case rel => exact ⟨0, 1, by omega, by omega, HX0.out⟩
    · go_wp2_with fail
      go_region_law (first
        | (refine step_append_lies _ rfl (.tmp 40) (.tmp 48) 29 rfl w.heap.size 69 iG _ 5 40 Try.underlying29 hiG hzG0 hzG1 hzG2 rfl (by decide) vs ss0.length (flat Segment.at_ 5 ss0) (by simp [Act.eval]) (k11.alloc _).ks ⟨w11.heap.size, 0, none⟩ 1 1 [.int .i64 3, .int .i64 1, .int .i64 (700 + x7), .int .i64 (20 + x8), .bool true] (by simp [Act.eval]) rfl (World.news_of_block (cs := #[.int .i64 3, .int .i64 1, .int .i64 (700 + x7), .int .i64 (20 + x8), .bool true]) (heap_alloc_new w11 _)) (by simp [Value.oneCell']) (by omega) (by unfold maxLen; omega) (by omega) (by have := k11.gr.size; simp; omega) (w11.heap.size + 1) (by simp) ?_; intro g6 cap6 w12 hown6 hgrow6 hat6 hlt6; have hk12 := (k11.alloc _).keepS hgrow6; have f12 := hk12.frozen 1; have q12 := hk12.cell 1; have l12 := hk12.lt; have hN := (k11.alloc _).seg h0x (x := ⟨3, 1, 700 + x7, 20 + x8, true⟩) hgrow6 hown6 rfl)
        | (go_simp; go_at_call 77; refine (l01Num_any _ _ _ _ _ _ k10.cur (RR.out _ k10.gr) hlen hb (by omega)).mono ?_; rintro e w11 ⟨x8, rfl, h8a, h8b, hc11, hg11⟩; have k11 := DrwAt.next k10 hg11 hc11; have q11 := k11.kb.cell 1; have l11 := k11.kb.lt; have e8 : IntKind.i64.wrap (20 + x8) = 20 + x8 := IntWalk.i64_in _ (by omega))
        | (go_simp; go_at_call 77; refine (l01Num_any _ _ _ _ _ _ k9d.cur (RR.out _ k9d.gr) hlen hb (by omega)).mono ?_; rintro e w10 ⟨x7, rfl, h7a, h7b, hc10, hg10⟩; have k10 := DrwAt.next k9d hg10 hc10; have q10 := k10.kb.cell 1; have l10 := k10.kb.lt; have e7 : IntKind.i64.wrap (700 + x7) = 700 + x7 := IntWalk.i64_in _ (by omega)))

      all_goals
        show K' _ _
        refine hMK _ _ ?_
        show J _ _
        refine hRJ _ _ ?_
        (repeat apply Exists.intro)
        refine ⟨?_, rfl⟩
        exact ⟨700 + x7, 20 + x8, by omega, by omega, hN⟩
  case rest =>
    obtain ⟨d4, m4, hd4, hm4, hrel⟩ := hcut
    obtain ⟨ss1, hss1⟩ : ∃ ss1, ss1 = ssL y3 d4 m4 ss0 := ⟨_, rfl⟩
    have hl1 : ss1.length ≤ 4 := by rw [hss1]; unfold ssL; split <;> (first | exact Nat.le_trans hl0 (by omega) | (rw [List.length_append]; simp; omega))
    rw [← hss1] at hrel
    have HSS1 := Lib.hid hss1
    clear hss1 k9 k9d q9 l9
    obtain ⟨-, _, _, -, -, -, hcR, hgR, -⟩ := id hrel
    go_wp2_with fail
    refine (l01Once_any _ _ _ _ _ _ hcR (RR.out _ hgR) hlen hb (by omega)).mono ?_
    rintro e w19 ⟨y4, rfl, hc19, hg19⟩
    have hrel9 := hrel.drawn hg19 hc19
    obtain ⟨-, vq, vr, k20⟩ := hrel9.at_
    obtain ⟨iP, hiP, hzP0, hzP1, hzP2⟩ := info_parts infoPoint
    have q20 := k20.kb.cell 0
    have q21 := k20.kb.cell 1
    have l20 := k20.kb.lt
    have HX1 := Lib.hid hrel9
    clear hrel hcR hgR hc19 hg19 hrel9
    go_upto_if 52 with fail
    go_cut [] from 53 to 67 (fun W => ∃ d5 : Int, (0 ≤ d5 ∧ d5 ≤ 2000) ∧ DrwRel g A zs.length c w (w1.heap.size + 1) (psS y1 y4) (ssD y4 d5 ss1) W)
    case first =>
      rename_i J K' hRJ hMK
      cases y4
      · go_wp2_with fail
        go_meet
        case rel => exact ⟨0, by omega, HX1.out⟩
      · go_wp2_with (at_builtin; refine wpList_append_own _ rfl _ _ 28 rfl w.heap.size 59 iP (.agg #[.string ⟨#[]⟩, .bool false]) 2 24 Try.underlying28 hiP hzP0 hzP1 hzP2 rfl (by decide) _ _ _ rfl (k20.alloc _).kp ⟨w19.heap.size, 0, none⟩ 1 1 [.string ⟨#[100, 111, 99, 107]⟩, .bool true] rfl rfl ?c1 ?c2 ?c3 ?c4 ?c5 ?_)
        case c1 =>
          exact World.news_of_block (cs := #[.string ⟨#[100, 111, 99, 107]⟩, .bool true]) (heap_alloc_new w19 _)
        case c2 => intro u hu; simp at hu; rcases hu with rfl | rfl <;> rfl
        case c3 => simp [ps4, maxLen]
        case c4 => simp [ps4]
        case c5 => have := k20.gr.size; simp; omega
        intro v21 w21 hown21 hgrow21 _
        obtain ⟨a21, b21, rfl⟩ := own_slice hown21
        have hk21 := (k20.alloc (.cells #[.string ⟨#[100, 111, 99, 107]⟩, .bool true] 59)).keepP hgrow21
        have f21 := hk21.frozen 0
        have p21 := hk21.cell 0
        have p22 := hk21.cell 1
        have l21 := hk21.lt
        have hP := (k20.alloc (.cells #[.string ⟨#[100, 111, 99, 107]⟩, .bool true] 59)).pnt h0x (x := ⟨dockN, true⟩) hgrow21 hown21 rfl
        obtain ⟨w22, hw22⟩ : ∃ w22, w22 = w21.setCell ⟨w1.heap.size + 1, 0, none⟩ (.slice (some a21) ((ps4 y1).length + 1) b21) := ⟨_, rfl⟩
        rw [← hw22] at hP
        obtain ⟨-, vu, vt, k22⟩ := hP.at_
        have k22d := k22.drew
        have q22 := k22.kb.cell 1
        have l22 := k22.kb.lt
        have HW22 := Lib.hid hw22
        clear hw22 hown21 hgrow21 hk21 hP
        go_wp2_with fail
        rw [← HW22.out]
        clear f21 p21 p22 l21 q20 q21 l20
        go_region_law (first
          | (refine step_append_lies _ rfl (.tmp 60) (.tmp 65) 29 rfl w.heap.size 69 iG _ 5 40 Try.underlying29 hiG hzG0 hzG1 hzG2 rfl (by decide) vt ss1.length (flat Segment.at_ 5 ss1) (by simp [Act.eval]) (k23.alloc _).ks ⟨w23.heap.size, 0, none⟩ 1 1 [.int .i64 2, .int .i64 4, .int .i64 (800 + x9), .int .i64 15, .bool false] (by simp [Act.eval]) rfl (World.news_of_block (cs := #[.int .i64 2, .int .i64 4, .int .i64 (800 + x9), .int .i64 15, .bool false]) (heap_alloc_new w23 _)) (by simp [Value.oneCell']) (by omega) (by unfold maxLen; omega) (by omega) (by have := k23.gr.size; simp; omega) (w23.heap.size + 1) (by simp) ?_; intro g6 cap6 w24 hown6 hgrow6 hat6 hlt6; have hk24 := (k23.alloc _).keepS hgrow6; have f24 := hk24.frozen 1; have q24 := hk24.cell 1; have l24 := hk24.lt; have hN := (k23.alloc _).seg h0x (x := ⟨2, 4, 800 + x9, 15, false⟩) hgrow6 hown6 rfl)
          | (go_simp; go_at_call 77; refine (l01Num_any _ _ _ _ _ _ k22d.cur (RR.out _ k22d.gr) hlen hb (by omega)).mono ?_; rintro e w23 ⟨x9, rfl, h9a, h9b, hc23, hg23⟩; have k23 := DrwAt.next k22d hg23 hc23; have q23 := k23.kb.cell 1; have l23 := k23.kb.lt; have e9 : IntKind.i64.wrap (800 + x9) = 800 + x9 := IntWalk.i64_in _ (by omega)))
        all_goals
          show K' _ _
          refine hMK _ _ ?_
          show J _ _
          refine hRJ _ _ ?_
          (repeat apply Exists.intro)
          refine ⟨?_, rfl⟩
          exact ⟨800 + x9, by omega, hN⟩
    case rest =>
      rename_i KR hKR
      refine hKR _ _ ?_
      clear hKR KR
      obtain ⟨d5, hd5, hrel⟩ := hcut
      obtain ⟨pz, hpz⟩ : ∃ pz, pz = psS y1 y4 := ⟨_, rfl⟩
      obtain ⟨sz, hsz⟩ : ∃ sz, sz = ssD y4 d5 ss1 := ⟨_, rfl⟩
      rw [← hpz, ← hsz] at hrel
      have HDR : Hid (Drawn pz sz) := Lib.hid (by
        rw [hpz, hsz, HSS1.out, HSS0.out]
        exact ⟨y1, y3, y4, y2, 900 + x1, 10 + x2, 800 + x3, 10 + x4, 900 + x5, 5 + x6, d4, m4, d5, by omega, by omega, by omega, by omega, by omega, by omega, by omega, by omega, by omega, rfl, rfl⟩)
      clear hpz hsz
      obtain ⟨-, ve, vf, k30⟩ := hrel.at_
      obtain ⟨Ae, ce, hve, hce, -⟩ := sl_own_cap k30.kp
      obtain ⟨Af, cf, hvf, hcf, -⟩ := sl_own_cap k30.ks
      subst hve
      subst hvf
      have hcf' := Lib.hid hcf
      clear hce hcf
      obtain ⟨wz, hwz⟩ : ∃ wz, wz = (wc.setCell ⟨w.heap.size, 0, none⟩ (.slice Ae pz.length ce)).setCell ⟨w.heap.size, 1, none⟩ (.slice Af sz.length cf) := ⟨_, rfl⟩
      have kz1 := KeepT.of_set k30.br 0 (.slice Ae pz.length ce)
      have kz2 := KeepT.of_set (k30.br.set_ 0 (.slice Ae pz.length ce)) 1 (.slice Af sz.length cf)
      have hsz : wz.heap.size = wc.heap.size := by rw [hwz]; simp [World.setCell]
      have HZP : Hid (Sl wz w.heap.size wz.heap.size Ae 59 Point.at_ 2 pz) := Lib.hid (by
        have h := kz2.own (kz1.own k30.kp (by decide)) (by decide)
        rw [← hwz] at h
        obtain ⟨A, c, hv, -, h⟩ := sl_own_cap h
        cases hv
        exact h)
      have HZS : Hid (Sl wz w.heap.size wz.heap.size Af 69 Segment.at_ 5 sz) := Lib.hid (by
        have h := kz2.own (kz1.own k30.ks (by decide)) (by decide)
        rw [← hwz] at h
        obtain ⟨A, c, hv, -, h⟩ := sl_own_cap h
        cases hv
        exact h)
      have HZG : Hid (w.grownBy wz (some g)) := Lib.hid (by
        rw [hwz]
        exact grown_below k30.gr (((Below.refl w.heap.size wc).setCell (p := ⟨w.heap.size, 0, none⟩) (Nat.le_refl _) _).setCell (p := ⟨w.heap.size, 1, none⟩) (Nat.le_refl _) _))
      have HZ := Lib.hid hwz
      have q30 := k30.kb.cell 0
      have q31 := k30.kb.cell 1
      have l30 := k30.kb.lt
      have r30 := k30.br.cell 0
      have r31 := k30.br.cell 1
      have fr0 := k30.br.frozen 0
      have fr1 := k30.br.frozen 1
      have lr := k30.br.lt
      have kr1 := k30.br.set_ 0 (.slice Ae pz.length ce)
      have r0 : wz.cell? ⟨w.heap.size, 0, none⟩ = some (.slice Ae pz.length ce) := by
        rw [hwz]; exact (kr1.set_ 1 (.slice Af sz.length cf)).cell 0
      have r1 : wz.cell? ⟨w.heap.size, 1, none⟩ = some (.slice Af sz.length cf) := by
        rw [hwz]; exact (kr1.set_ 1 (.slice Af sz.length cf)).cell 1
      have lz : w.heap.size < wz.heap.size := by omega
      have R0 := Lib.hid r0
      have R1 := Lib.hid r1
      clear hwz kz1 kz2 hrel k30 r0 r1 kr1
      go_wp2_with fail
      rw [← HZ.out]
      have r0 := R0.out
      have r1 := R1.out
      refine bodyPost_ret (v := .agg #[.slice Ae pz.length ce, .slice Af sz.length cf]) ?_ rfl ?_
      · simp [results, Try.results65, go_sem, r0, r1]
      · exact ⟨Ae, Af, ce, cf, pz, sz, rfl, hcf'.out, HDR.out, HZP.out, HZS.out, HZG.out⟩

end Go.Proofs.Ytjmfgncakegjaaa
