/-
  The plain model: equal tides, amplitudes, levels and the best of them. No program is in sight.
-/
import Derived.Test.YtmhiohijpnmcpaaModel
namespace Go.Proofs.Ytmhiohijpnmcpaa

def Part.eqB (p q : Part) : Bool := (p.amp == q.amp) && ((p.period == q.period) && (p.phase == q.phase))
def sameL : List Part → List Part → Bool
  | [], [] => true
  | p :: ps, q :: qs => p.eqB q && sameL ps qs
  | _, _ => false
theorem sameL_len : ∀ (ps qs : List Part), sameL ps qs = true → ps.length = qs.length
  | [], [], _ => rfl
  | [], _ :: _, h => by simp [sameL] at h
  | _ :: _, [], h => by simp [sameL] at h
  | p :: ps, q :: qs, h => by
    simp only [sameL, Bool.and_eq_true] at h
    have := sameL_len ps qs h.2
    simp [this]
theorem sameL_no {ps qs : List Part} (h : ps.length ≠ qs.length) : sameL ps qs = false := by
  cases hh : sameL ps qs
  · rfl
  · exact absurd (sameL_len ps qs hh) h
theorem sameL_at {ps qs : List Part} {k : Nat} {p q : Part} {b : Bool} (h : b = sameL (ps.drop k) (qs.drop k)) (hp : ps[k]? = some p) (hq : qs[k]? = some q) : b = (p.eqB q && sameL (ps.drop (k + 1)) (qs.drop (k + 1))) := by
  have h1 : k < ps.length := (List.getElem?_eq_some_iff.1 hp).1
  have h2 : ps[k] = p := (List.getElem?_eq_some_iff.1 hp).2
  have h3 : k < qs.length := (List.getElem?_eq_some_iff.1 hq).1
  have h4 : qs[k] = q := (List.getElem?_eq_some_iff.1 hq).2
  rw [h, List.drop_eq_getElem_cons h1, List.drop_eq_getElem_cons h3, h2, h4]
  rfl
theorem sameL_next {ps qs : List Part} {k : Nat} {p q : Part} {b : Bool} (h : b = sameL (ps.drop k) (qs.drop k)) (hp : ps[k]? = some p) (hq : qs[k]? = some q) (he : p.eqB q = true) : b = sameL (ps.drop (k + 1)) (qs.drop (k + 1)) := by
  rw [sameL_at h hp hq, he, Bool.true_and]
theorem sameL_bad {ps qs : List Part} {k : Nat} {p q : Part} {b : Bool} (h : b = sameL (ps.drop k) (qs.drop k)) (hp : ps[k]? = some p) (hq : qs[k]? = some q) (he : p.eqB q = false) : b = false := by
  rw [sameL_at h hp hq, he, Bool.false_and]
theorem sameL_done {ps qs : List Part} {b : Bool} (h : b = sameL (ps.drop ps.length) (qs.drop ps.length)) (hl : ps.length = qs.length) : b = true := by
  rw [h, List.drop_length, hl, List.drop_length]
  rfl
theorem sameL_refl : ∀ ps : List Part, sameL ps ps = true
  | [] => rfl
  | p :: ps => by simp [sameL, Part.eqB, sameL_refl ps]
def sameB (m n : Int) (ps qs : List Part) : Bool := (m == n) && sameL ps qs

def ampV (ps : List Part) : Int := ps.foldl (fun s p => s + p.amp) 0
theorem ampV_next {ps : List Part} {k : Nat} {p : Part} (hp : ps[k]? = some p) : ampV (ps.take (k + 1)) = ampV (ps.take k) + p.amp := by
  have hl : k < ps.length := (List.getElem?_eq_some_iff.1 hp).1
  have hv : ps[k] = p := (List.getElem?_eq_some_iff.1 hp).2
  unfold ampV
  rw [List.take_succ_eq_append_getElem hl, List.foldl_append, hv]
  rfl
theorem tideOk_mem {m : Int} {ps : List Part} {p : Part} (h : tideOk m ps = true) (hp : p ∈ ps) : partOk p = true := by
  unfold tideOk at h
  rw [Bool.and_eq_true] at h
  exact List.all_eq_true.1 h.2 p hp
theorem tideOk_len {m : Int} {ps : List Part} (h : tideOk m ps = true) : ps.length ≤ 4 := by
  unfold tideOk at h
  rw [Bool.and_eq_true, Bool.and_eq_true] at h
  exact of_decide_eq_true h.1.2
theorem tideOk_mean {m : Int} {ps : List Part} (h : tideOk m ps = true) : -1000 ≤ m ∧ m ≤ 1000 := by
  unfold tideOk at h
  rw [Bool.and_eq_true, Bool.and_eq_true] at h
  exact inB_true h.1.1
theorem ampV_bd {m : Int} {ps : List Part} (h : tideOk m ps = true) : ∀ k, k ≤ ps.length → 0 ≤ ampV (ps.take k) ∧ ampV (ps.take k) ≤ 1000 * (k : Int)
  | 0, _ => by simp [ampV]
  | k + 1, hk => by
    have hp : ps[k]? = some ps[k] := List.getElem?_eq_getElem (by omega)
    have h1 := ampV_bd h k (by omega)
    have h2 := (partOk_true (tideOk_mem h (List.mem_of_getElem? hp))).1
    rw [ampV_next hp]
    omega
def ampF (m : Int) (ps : List Part) : Int := if tideOk m ps = true then ampV ps else 0

theorem partLevel_eq (minute : Int) (p : Part) : partLevel minute p = (p.amp * waveF (minute + p.phase) p.period).tdiv 10000 := rfl
theorem amp_wave_bd {p : Part} (h : partOk p = true) (n : Int) : -10000000 ≤ p.amp * waveF n p.period ∧ p.amp * waveF n p.period ≤ 10000000 := by
  have h1 := (partOk_true h).1
  have h2 := waveF_bd n p.period
  constructor
  · have a : p.amp * (-10000) ≤ p.amp * waveF n p.period := Int.mul_le_mul_of_nonneg_left h2.1 h1.1
    omega
  · have a : p.amp * waveF n p.period ≤ p.amp * 10000 := Int.mul_le_mul_of_nonneg_left h2.2 h1.1
    omega
theorem partLevel_amp {p : Part} (h : partOk p = true) (minute : Int) : -p.amp ≤ partLevel minute p ∧ partLevel minute p ≤ p.amp := by
  have h1 := (partOk_true h).1
  have h2 := waveF_bd (minute + p.phase) p.period
  have a : p.amp * (-10000) ≤ p.amp * waveF (minute + p.phase) p.period := Int.mul_le_mul_of_nonneg_left h2.1 h1.1
  have b : p.amp * waveF (minute + p.phase) p.period ≤ p.amp * 10000 := Int.mul_le_mul_of_nonneg_left h2.2 h1.1
  rw [partLevel_eq, Int.tdiv_eq_ediv]
  split <;> simp [Int.sign] <;> omega
theorem levelV_next {minute mean : Int} {ps : List Part} {k : Nat} {p : Part} (hp : ps[k]? = some p) : levelV minute mean (ps.take (k + 1)) = levelV minute mean (ps.take k) + partLevel minute p := by
  have hl : k < ps.length := (List.getElem?_eq_some_iff.1 hp).1
  have hv : ps[k] = p := (List.getElem?_eq_some_iff.1 hp).2
  unfold levelV
  rw [List.take_succ_eq_append_getElem hl, List.foldl_append, hv]
  rfl
theorem levelV_amp {m : Int} {ps : List Part} (h : tideOk m ps = true) (minute : Int) : ∀ k, k ≤ ps.length → m - ampV (ps.take k) ≤ levelV minute m (ps.take k) ∧ levelV minute m (ps.take k) ≤ m + ampV (ps.take k)
  | 0, _ => by simp [ampV, levelV]
  | k + 1, hk => by
    have hp : ps[k]? = some ps[k] := List.getElem?_eq_getElem (by omega)
    have h1 := levelV_amp h minute k (by omega)
    have h2 := partLevel_amp (tideOk_mem h (List.mem_of_getElem? hp)) minute
    rw [ampV_next hp, levelV_next hp]
    omega
theorem levelV_bd {m : Int} {ps : List Part} (h : tideOk m ps = true) (minute : Int) {k : Nat} (hk : k ≤ ps.length) : -5000 ≤ levelV minute m (ps.take k) ∧ levelV minute m (ps.take k) ≤ 5000 := by
  have h1 := levelV_amp h minute k hk
  have h2 := ampV_bd h k hk
  have h3 := tideOk_len h
  have h4 := tideOk_mean h
  omega
def levelF (m : Int) (ps : List Part) (minute : Int) : Int := if tideOk m ps = true ∧ inB minute 0 2880 = true then levelV minute m ps else 0

end Go.Proofs.Ytmhiohijpnmcpaa
