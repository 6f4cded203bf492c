/-
  The plain model: the number with a decimal representation. No program is in sight.
-/
import Derived.Test.YtfdmkbdcabedoaaDoorModelT
import Derived.Lib.ItoaMem
import Derived.Lib.ItoaLen
import Derived.Lib.AtoiAllCases
namespace Go.Proofs.YtfdmkbdcabedoaaDoor
open Go.Lib

/-- The text is the decimal representation of the number. -/
def ParseTo (l : List UInt8) (n : Int) : Prop := I64 n ∧ itoa n = l

theorem parse_app : ∀ (l1 : List UInt8) (acc : Nat) (l2 : List UInt8) (a : Nat), parseUint10 acc l1 = .ok a → parseUint10 acc (l1 ++ l2) = parseUint10 a l2
  | [], acc, l2, a, h => by
    unfold parseUint10 at h
    injection h with h
    rw [h]
    rfl
  | c :: r, acc, l2, a, h => by
    rw [List.cons_append]
    rw [parseUint10] at h ⊢
    split at h
    · split at h
      · cases h
      · split at h
        · cases h
        · rename_i h1 h2 h3
          rw [if_pos h1, if_neg h2, if_neg h3]
          exact parse_app r _ l2 a h
    · cases h
theorem dig_toNat {d : Nat} (h : d < 10) : (UInt8.ofNat (48 + d)).toNat = 48 + d := by
  rw [UInt8.toNat_ofNat']
  omega
theorem parse_dec : ∀ u : Nat, u < 18446744073709551616 → parseUint10 0 (decDigits u) = .ok u := by
  intro u
  induction u using Nat.strongRecOn with
  | _ u ih =>
    intro hu
    have one : ∀ acc d, d < 10 → acc * 10 + d < 18446744073709551616 → parseUint10 acc [UInt8.ofNat (48 + d)] = .ok (acc * 10 + d) := fun acc d hd hl => by
      unfold parseUint10
      rw [dig_toNat hd, if_pos (by omega), if_neg (by omega), if_neg (by omega), show 48 + d - 48 = d by omega]
      rfl
    by_cases h : u < 10
    · rw [decDigits_one h]
      have := one 0 u h (by omega)
      rwa [Nat.zero_mul, Nat.zero_add] at this
    · rw [decDigits, dif_neg h, parse_app _ _ _ _ (ih (u / 10) (by omega) (by omega)), one _ _ (by omega) (by omega)]
      congr 1
      omega
theorem dec_digits : ∀ u : Nat, ∀ c ∈ decDigits u, 48 ≤ c.toNat ∧ c.toNat ≤ 57 := by
  intro u
  induction u using Nat.strongRecOn with
  | _ u ih =>
    intro c hc
    by_cases h : u < 10
    · rw [decDigits_one h, List.mem_singleton] at hc
      rw [hc, dig_toNat h]
      omega
    · rw [decDigits, dif_neg h, List.mem_append, List.mem_singleton] at hc
      rcases hc with hc | hc
      · exact ih (u / 10) (by omega) c hc
      · rw [hc, dig_toNat (by omega)]
        omega
theorem dec_ne (u : Nat) : decDigits u ≠ [] := fun h => by
  have h1 := congrArg List.length h
  rw [decDigits_length] at h1
  have := nDigits_pos u
  simp at h1
  omega
theorem parseMag_dec {u : Nat} (h : u < 18446744073709551616) : parseMag (decDigits u) = .ok u := by
  unfold parseMag
  rw [if_neg (dec_ne u), parse_dec u h]
theorem atoi_itoa {n : Int} (h : I64 n) : atoiAll (itoa n) = .ok n := by
  unfold I64 at h
  by_cases hn : n < 0
  · rw [itoa, if_pos hn, atoiAll_minus, parseMag_dec (by omega)]
    unfold signed
    have e : -((n.natAbs : Nat) : Int) = n := by omega
    simp [e]
    omega
  · rw [itoa, if_neg hn]
    cases hd : decDigits n.toNat with
    | nil => exact absurd hd (dec_ne _)
    | cons c r =>
      have hc := dec_digits n.toNat c (by rw [hd]; exact List.mem_cons_self ..)
      rw [atoiAll_plain c r (by omega) (by omega), ← hd, parseMag_dec (by omega)]
      unfold signless
      have e : ((n.toNat : Nat) : Int) = n := by omega
      simp [e]
      omega
theorem ParseTo.unique {l : List UInt8} {n k : Int} (h : ParseTo l n) (h' : ParseTo l k) : n = k := by
  have h1 := atoi_itoa h.1
  have h2 := atoi_itoa h'.1
  rw [h.2] at h1
  rw [h'.2, h1] at h2
  injection h2

/-- What both functions hand back. -/
def ParseRes (l : List UInt8) (n : Int) (b : Bool) : Prop := (b = true ∧ ParseTo l n) ∨ (b = false ∧ n = 0 ∧ ∀ k, ¬ ParseTo l k)
theorem ParseRes.same {l : List UInt8} {n k : Int} {b c : Bool} (h : ParseRes l n b) (h' : ParseRes l k c) : n = k ∧ b = c := by
  rcases h with ⟨h1, h2⟩ | ⟨h1, h2, h3⟩ <;> rcases h' with ⟨h4, h5⟩ | ⟨h4, h5, h6⟩
  · exact ⟨h2.unique h5, h1.trans h4.symm⟩
  · exact absurd h2 (h6 _)
  · exact absurd h5 (h3 _)
  · exact ⟨h2.trans h5.symm, h1.trans h4.symm⟩
theorem ParseRes.yes {l : List UInt8} {n : Int} (h : I64 n) (h' : itoa n = l) : ParseRes l n true := .inl ⟨rfl, h, h'⟩
theorem ParseRes.no {l : List UInt8} (h : ∀ k, ¬ ParseTo l k) : ParseRes l 0 false := .inr ⟨rfl, rfl, h⟩
/-- What strconv.Atoi says of a text that is no representation. -/
theorem no_of_atoi {l : List UInt8} (h : ∀ v, atoiAll l = .ok v → itoa v ≠ l) : ∀ k, ¬ ParseTo l k := fun k hk => by
  have h1 := atoi_itoa hk.1
  rw [hk.2] at h1
  exact h k h1 hk.2

/-! ### The digits from the left -/
def decV (l : List UInt8) : Nat := l.foldl (fun a c => a * 10 + (c.toNat - 48)) 0
theorem decV_app (l r : List UInt8) : decV (l ++ r) = r.foldl (fun a c => a * 10 + (c.toNat - 48)) (decV l) := by
  unfold decV
  rw [List.foldl_append]
theorem decV_next {l : List UInt8} {k : Nat} {c : UInt8} (h : l[k]? = some c) : decV (l.take (k + 1)) = decV (l.take k) * 10 + (c.toNat - 48) := by
  have hl : k < l.length := (List.getElem?_eq_some_iff.1 h).1
  have hv : l[k] = c := (List.getElem?_eq_some_iff.1 h).2
  rw [List.take_succ_eq_append_getElem hl, hv, decV_app]
  rfl
theorem decV_mono : ∀ (r : List UInt8) (a : Nat), a ≤ r.foldl (fun a c => a * 10 + (c.toNat - 48)) a
  | [], a => Nat.le_refl _
  | c :: r, a => Nat.le_trans (show a ≤ a * 10 + (c.toNat - 48) by omega) (decV_mono r _)
theorem decV_take (l : List UInt8) (k : Nat) : decV (l.take k) ≤ decV l := by
  rw [show decV l = decV (l.take k ++ l.drop k) by rw [List.take_append_drop], decV_app]
  exact decV_mono _ _
theorem decV_dec : ∀ u : Nat, decV (decDigits u) = u := by
  intro u
  induction u using Nat.strongRecOn with
  | _ u ih =>
    by_cases h : u < 10
    · rw [decDigits_one h]
      show 0 * 10 + ((UInt8.ofNat (48 + u)).toNat - 48) = u
      rw [dig_toNat h]
      omega
    · rw [decDigits, dif_neg h, decV_app, ih (u / 10) (by omega)]
      show u / 10 * 10 + ((UInt8.ofNat (48 + u % 10)).toNat - 48) = u
      rw [dig_toNat (by omega)]
      omega
theorem nDigits_le : ∀ (k u : Nat), u < 10 ^ (k + 1) → nDigits u ≤ k + 1
  | 0, u, h => by rw [nDigits_small (by omega)]; omega
  | k + 1, u, h => by
    by_cases h1 : u < 10
    · rw [nDigits_small h1]; omega
    · rw [nDigits_big h1]
      have := nDigits_le k (u / 10) (by rw [Nat.div_lt_iff_lt_mul (by decide)]; rw [← Nat.pow_succ]; exact h)
      omega

/-- The text behind the sign. -/
def magOf (l : List UInt8) : List UInt8 := match l with
  | c :: r => if c = 45 then r else c :: r
  | [] => []
def negOf (l : List UInt8) : Bool := match l with
  | c :: _ => decide (c = 45)
  | [] => false
/-- What a representation looks like. -/
theorem ParseTo.form {l : List UInt8} {n : Int} (h : ParseTo l n) : magOf l = decDigits n.natAbs ∧ negOf l = decide (n < 0) ∧ digits (magOf l) = true ∧ (magOf l).length ≤ 19 ∧ decV (magOf l) = n.natAbs := by
  obtain ⟨hb, h⟩ := h
  unfold I64 at hb
  have hm : magOf l = decDigits n.natAbs ∧ negOf l = decide (n < 0) := by
    rw [← h]
    by_cases hn : n < 0
    · rw [itoa, if_pos hn]
      exact ⟨rfl, by simp [negOf, hn]⟩
    · rw [itoa, if_neg hn, show n.toNat = n.natAbs by omega]
      cases hd : decDigits n.natAbs with
      | nil => exact absurd hd (dec_ne _)
      | cons c r =>
        have hc := dec_digits n.natAbs c (by rw [hd]; exact List.mem_cons_self ..)
        have hne : c ≠ 45 := fun e => by
          rw [e] at hc
          have : (45 : UInt8).toNat = 45 := rfl
          omega
        exact ⟨by simp [magOf, hne], by simp [negOf, hne, hn]⟩
  refine ⟨hm.1, hm.2, ?_, ?_, ?_⟩
  · rw [hm.1]
    unfold digits
    rw [Bool.and_eq_true]
    refine ⟨List.all_eq_true.2 fun c hc => decide_eq_true (dec_digits _ c hc), ?_⟩
    cases hd : decDigits n.natAbs with
    | nil => exact absurd hd (dec_ne _)
    | cons c r => rfl
  · rw [hm.1, decDigits_length]
    exact nDigits_le 18 _ (by omega)
  · rw [hm.1, decV_dec]

end Go.Proofs.YtfdmkbdcabedoaaDoor
