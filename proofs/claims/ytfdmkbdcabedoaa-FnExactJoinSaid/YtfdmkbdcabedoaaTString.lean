/-
  The contracts of the laws' helpers on slices of texts: markText, eqStringS, markStringS, heldStringS.
-/
import Derived.Test.YtfdmkbdcabedoaaRows
import Derived.Test.YtfdmkbdcabedoaaSlc
import Derived.Test.YtfdmkbdcabedoaaModelT
import Derived.Laws.BytesString
namespace Go.Proofs.Ytfdmkbdcabedoaa
open Go.RowKit

/-- The one cell of a text. -/
def strAt (x : ByteArray) (_ : Nat) : Value := .string x
/-- The digits of a number above 0. -/
def digV (a : Int) : ByteArray := if _h : 0 < a then digV (a / 10) ++ ⟨#[UInt8.ofNat (48 + a % 10).toNat]⟩ else ⟨#[]⟩
termination_by a.toNat
decreasing_by omega
def markV (k : Int) : ByteArray := if 0 < k then ⟨#[109]⟩ ++ digV k else ⟨#[109, 48]⟩
theorem digV_step {a : Int} {s b : ByteArray} (h : b = digV a ++ s) (ha : 0 < a) : b = digV (a / 10) ++ (⟨#[UInt8.ofNat (48 + a % 10).toNat]⟩ ++ s) := by
  rw [h, digV, dif_pos ha, ByteArray.append_assoc]
theorem digV_end {a : Int} {s b : ByteArray} (h : b = digV a ++ s) (ha : ¬ 0 < a) : b = s := by
  rw [h, digV, dif_neg ha]
  exact ByteArray.empty_append
theorem infoString : (Try.prog.info? 9).map (fun i => (i.zero, i.size, i.bytes)) = some (some (.string ⟨#[]⟩), 1, 16) := by kernel_rfl

theorem byte_text (W : World) (x : Int) : Sem.run Try.prog (convert 38 9 (.slice (some ⟨W.heap.size, 0, none⟩) 1 1)) (W.alloc (.cells #[.int .u8 x] 5)) = .ok (.string ⟨#[UInt8.ofNat x.toNat]⟩) (W.alloc (.cells #[.int .u8 x] 5)) := by
  rw [run_convert_bytes_string _ _ _ 5 _ _ _ Try.underlying38 Try.underlying5 Try.underlying9]
  rw [run_bytesToString _ _ 1 1 [x] (by simp [go_sem])]
  rfl

set_option maxHeartbeats 2000000 in
theorem markText_any (k : Int) (w : World) (h0 : 0 ≤ k) (h1 : k ≤ 100000000) :
    Calls Try.prog 30 #[.int .i64 k] w fun e w' => e = .returned (.string (markV k)) ∧ Below w.heap.size w w' := by
  by_cases hk : k ≤ 0
  · have HV : Hid (markV k = ⟨#[109, 48]⟩) := Lib.hid (by rw [markV, if_neg (by omega)])
    go_enter Try.func30, Try.ntmps30
    go_wp2_with fail
    go_ret
    exact ⟨by rw [HV.out]; rfl, Below.refl _ _⟩
  have HV : Hid (markV k = ⟨#[109]⟩ ++ digV k) := Lib.hid (by rw [markV, if_pos (by omega)])
  go_enter Try.func30, Try.ntmps30
  go_wp2_with fail
  go_loopw [0, 3] (fun q o wr => (∃ (a : Int) (s : ByteArray), q = .int .i64 a ∧ o = .string s ∧ 0 ≤ a ∧ (s.size : Int) + a ≤ k ∧ digV k = digV a ++ s) ∧ Below w.heap.size w wr) (fun q _ _ => (intOf q).toNat)
  case atStart => exact ⟨⟨k, _, rfl, rfl, h0, by show (0 : Int) + k ≤ k; omega, ByteArray.append_empty.symm⟩, Below.refl _ _⟩
  case round =>
    obtain ⟨⟨a, s, rfl, rfl, ha, hs, hd⟩, hbel⟩ := hrel
    have HD := Lib.hid hd
    clear hd
    by_cases hlt : 0 < a
    · have hcv := byte_text wr (48 + a % 10)
      have hs1 := hbel.size
      have HX := Lib.hid (digV_step HD.out hlt)
      go_wp2_with fail
      go_roundw
      case rel => exact ⟨⟨a / 10, _, rfl, rfl, by omega, by
        have h1s : ({ data := #[UInt8.ofNat (48 + a % 10).toNat] } : ByteArray).size = 1 := rfl
        rw [ByteArray.size_append, h1s]
        omega, HX.out⟩, hbel.alloc hs1 _⟩
      case measure => simp [intOf]; omega
    · have HX := Lib.hid (digV_end HD.out hlt)
      go_wp2_with fail
      go_ret
      exact ⟨by rw [HV.out, HX.out]; rfl, hbel⟩

set_option maxHeartbeats 2000000 in
theorem eqStringS_same (A A' : Option Addr) (c c' : Nat) (ps : List ByteArray) (w : World) (hr : Rd w w.heap.size strAt 1 A ps) (hr' : Rd w w.heap.size strAt 1 A' ps) (hlen : ps.length ≤ 1048577) :
    Calls Try.prog 16 #[.slice A ps.length c, .slice A' ps.length c'] w fun e w' => e = .returned (.bool true) ∧ Below w.heap.size w w' := by
  go_enter Try.func16, Try.ntmps16
  go_wp2_with fail
  go_loopw [5] (fun i wr => ∃ k : Nat, k ≤ ps.length ∧ i = .int .i64 k ∧ Below w.heap.size w wr) (fun i _ => ps.length - (intOf i).toNat)
  case atStart => exact ⟨0, Nat.zero_le _, rfl, Below.refl _ _⟩
  case round =>
    obtain ⟨k, hk, rfl, hbel⟩ := hrel
    by_cases hlt : k < ps.length
    · obtain ⟨g, off, rfl, hg, hc⟩ := hr (by omega)
      obtain ⟨g', off', rfl, hg', hc'⟩ := hr' (by omega)
      obtain ⟨p, hp⟩ : ∃ p, ps[k]? = some p := ⟨_, List.getElem?_eq_getElem hlt⟩
      have c0 := (hbel.cell (p := ⟨g, off + k * 1 + 0, none⟩) hg).trans (hc k p hp 0 (by omega))
      have d0 := (hbel.cell (p := ⟨g', off' + k * 1 + 0, none⟩) hg').trans (hc' k p hp 0 (by omega))
      simp only [strAt, Nat.add_zero, Nat.mul_one] at c0 d0
      have hk0 : (0 : Int) ≤ (k : Int) := Int.natCast_nonneg _
      have hk1 : (k : Int) < (ps.length : Int) := by omega
      have HC := Lib.hid hc
      have HR := Lib.hid hr
      have HC' := Lib.hid hc'
      have HR' := Lib.hid hr'
      clear hc hr hc' hr'
      go_wp2_with fail
      go_quiet (fail)
      go_wp2
      go_roundw
      case rel => exact ⟨k + 1, by omega, by go_num, hbel.drewN _⟩
      case measure => simp [intOf]; omega
    · have hk' : k = ps.length := by omega
      subst hk'
      go_wp2_with fail
      go_ret
      exact ⟨rfl, hbel⟩

def markStringL (k : Int) (n : Nat) : List ByteArray := (List.range n).map fun i : Nat => markV (k + (i : Int))
theorem markStringL_length (k : Int) (n : Nat) : (markStringL k n).length = n := by simp [markStringL]
theorem markStringL_at {k : Int} {n j : Nat} (hj : j < n) : (markStringL k n)[j]? = some (markV (k + (j : Int))) := by
  simp [markStringL, hj]

set_option maxHeartbeats 2000000 in
theorem markStringS_any (A : Option Addr) (c lo hi : Nat) (ps : List ByteArray) (k : Int) (w : World) (hsl : Sl w lo hi A 9 strAt 1 ps) (hlen : ps.length ≤ 1048577) (hk0 : 0 ≤ k) (hk1 : k ≤ 1048576) :
    Calls Try.prog 17 #[.slice A ps.length c, .int .i64 k] w fun e w' => e = .returned (.int .i64 (k + (ps.length : Int))) ∧ Sl w' lo hi A 9 strAt 1 (markStringL k ps.length) ∧ Out lo hi w w' := by
  obtain ⟨ms, hms⟩ : ∃ ms, ms = markStringL k ps.length := ⟨_, rfl⟩
  have hml : ms.length = ps.length := by rw [hms, markStringL_length]
  have HMS := Lib.hid hms
  have hst := MarkInv.start (ms := ms) hsl hml
  rw [← hms]
  clear hms
  go_enter Try.func17, Try.ntmps17
  go_wp2_with fail
  go_loopw [1, 5] (fun q i wr => ∃ j : Nat, j ≤ ps.length ∧ i = .int .i64 j ∧ q = .int .i64 (k + (j : Int)) ∧ MarkInv w wr A 9 strAt 1 ms j) (fun _ i _ => ps.length - (intOf i).toNat)
  case atStart => exact ⟨0, Nat.zero_le _, rfl, by simp, hst⟩
  case round =>
    obtain ⟨j, hj, rfl, rfl, hinv⟩ := hrel
    by_cases hlt : j < ps.length
    · obtain ⟨g, cs, rfl, hblk, hfill, hgr⟩ := hinv.some_ (by rw [hml]; omega)
      have HP := Lib.hid ((show ms[j]? = some (markV (k + (j : Int))) by rw [HMS.out]; exact markStringL_at hlt))
      obtain ⟨z0, e0⟩ := hfill.room (by rw [hml]; exact hlt) 0 (by omega)
      have HML := Lib.hid hml
      have HS := Lib.hid hsl
      have HT := Lib.hid hst
      have HI := Lib.hid hinv
      clear hml hsl hst hinv
      go_wp2_with fail
      refine (markText_any _ _ (by omega) (by omega)).mono ?_
      rintro e w1 ⟨rfl, hb1⟩
      have hblk1 := hblk.next hb1
      have hgr1 : w.grownBy w1 (some g) := ⟨hb1.os.trans hgr.os, hb1.tape.trans hgr.tape, hb1.output.trans hgr.output, Nat.le_trans hgr.size hb1.size, fun k hk hne => (hb1.block k (Nat.lt_of_lt_of_le hk hgr.size)).trans (hgr.block k hk hne)⟩
      have d0 := (hblk1.cell (j * 1 + 0)).trans e0
      have f0 := hblk1.frozen (j * 1 + 0)
      simp only [Nat.add_zero, Nat.mul_one] at d0 f0
      clear e0 hblk hgr hb1
      go_wp2_with fail
      go_roundw
      case rel =>
        have hb2 := hblk1.set_ (j * 1) (.string (markV (k + (j : Int))))
        rw [Nat.mul_one] at hb2
        have h1 := hfill.set_ HP.out [.string (markV (k + (j : Int)))] rfl (fun q hq => by
          match q, hq with
          | 0, _ => rfl)
        rw [Nat.mul_one] at h1
        exact ⟨j + 1, by omega, by go_num, by go_num, .inr ⟨g, _, rfl, hb2, h1, grown_set hgr1 _ _⟩⟩
      case measure => simp [intOf]; omega
    · have hk' : j = ps.length := by omega
      subst hk'
      go_wp2_with fail
      go_ret
      exact ⟨rfl, hinv.done hsl hml, hinv.out hsl⟩

set_option maxHeartbeats 2000000 in
theorem heldStringS_any (A : Option Addr) (c n : Nat) (k : Int) (w : World) (hr : Rd w w.heap.size strAt 1 A (markStringL k n)) (hlen : n ≤ 1048577) (hk0 : 0 ≤ k) (hk1 : k ≤ 1048576) :
    Calls Try.prog 18 #[.slice A n c, .int .i64 k] w fun e w' => e = .returned (.int .i64 (k + (n : Int))) ∧ Below w.heap.size w w' := by
  go_enter Try.func18, Try.ntmps18
  go_wp2_with fail
  go_loopw [1, 5] (fun q i wr => ∃ j : Nat, j ≤ n ∧ i = .int .i64 j ∧ q = .int .i64 (k + (j : Int)) ∧ Below w.heap.size w wr) (fun _ i _ => n - (intOf i).toNat)
  case atStart => exact ⟨0, Nat.zero_le _, rfl, by simp, Below.refl _ _⟩
  case round =>
    obtain ⟨j, hj, rfl, rfl, hbel⟩ := hrel
    by_cases hlt : j < n
    · obtain ⟨g, off, rfl, hg, hc⟩ := hr (by rw [markStringL_length]; omega)
      have c0 := (hbel.cell (p := ⟨g, off + j * 1 + 0, none⟩) hg).trans (hc j _ (markStringL_at hlt) 0 (by omega))
      simp only [strAt, Nat.add_zero, Nat.mul_one] at c0
      have hk0' : (0 : Int) ≤ (j : Int) := Int.natCast_nonneg _
      have hk1' : (j : Int) < (n : Int) := by omega
      have hgr : g < wr.heap.size := Nat.lt_of_lt_of_le hg hbel.size
      have hs := hbel.size
      have HC := Lib.hid hc
      have HR := Lib.hid hr
      clear hc hr
      obtain ⟨mv, hmv⟩ : ∃ mv, mv = markV (k + (j : Int)) := ⟨_, rfl⟩
      rw [← hmv] at c0
      have hct : ∀ W, Calls Try.prog 30 #[.int .i64 (k + (j : Int))] W fun e w' => e = .returned (.string mv) ∧ Below W.heap.size W w' := fun W => by
        rw [hmv]
        exact markText_any _ _ (by omega) (by omega)
      have hse : (mv.toList == mv.toList) = true := by simp
      have hbd := hbel.drew
      clear hmv
      go_wp2_with fail
      go_region_held3 (fun w' => w'.cell? ⟨g, off + j, none⟩ = some (.string mv)) (go_keep)
        ((go_at_call 30; refine (hct _).mono ?_; rintro e w1 ⟨rfl, hb1⟩; have hcc1 : ∀ b o, b < wr.heap.size → w1.cell? ⟨b, o, none⟩ = wr.cell? ⟨b, o, none⟩ := (bcell hb1).1))
      go_wp2_with fail
      go_roundw
      case rel => exact ⟨j + 1, by omega, by go_num, by go_num, hbd.trans (hb1.mono hbd.size)⟩
      case measure => simp [intOf]; omega
    · have hk' : j = n := by omega
      subst hk'
      go_wp2_with fail
      go_ret
      exact ⟨rfl, hbel⟩

end Go.Proofs.Ytfdmkbdcabedoaa
