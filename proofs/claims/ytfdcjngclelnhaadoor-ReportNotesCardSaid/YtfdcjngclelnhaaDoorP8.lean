/- Numerals are read as the numbers that they tell. No program here. -/
import Derived.Test.YtfdcjngclelnhaaDoorP6
import Derived.Lib.ItoaLen
set_option linter.unusedSectionVars false
set_option linter.unusedSimpArgs false
set_option linter.unusedVariables false
set_option linter.unusedSimpArgs false
namespace Go.Proofs.YtfdcjngclelnhaaDoor
open Go Go.RowKit

theorem dec_digits (u : Nat) : ∀ x ∈ Lib.decDigits u, 48 ≤ x.toNat ∧ x.toNat ≤ 57 := by
  induction u using Nat.strongRecOn with
  | _ u ih =>
    intro x hx
    rw [Lib.decDigits] at hx
    have hd : ∀ d : Nat, d < 10 → (UInt8.ofNat (48 + d)).toNat = 48 + d := fun d h => by
      rw [UInt8.toNat_ofNat']; omega
    split at hx
    · rename_i h
      rw [List.mem_singleton] at hx
      subst hx
      rw [hd _ h]; omega
    · rename_i h
      rw [List.mem_append, List.mem_singleton] at hx
      rcases hx with hx | rfl
      · exact ih (u / 10) (by omega) x hx
      · rw [hd _ (by omega)]; omega

theorem dec_ne (u : Nat) : Lib.decDigits u ≠ [] := by
  rw [Lib.decDigits]
  split <;> simp

theorem parse_dec (M : Nat) (hM : M = 18446744073709551615) (u : Nat) (hu : u ≤ M) : ∀ r : List UInt8, Lib.parseUintM M 0 (Lib.decDigits u ++ r) = Lib.parseUintM M u r := by
  induction u using Nat.strongRecOn with
  | _ u ih =>
    intro r
    have hd : ∀ d : Nat, d < 10 → (UInt8.ofNat (48 + d)).toNat = 48 + d := fun d h => by
      rw [UInt8.toNat_ofNat']; omega
    have step : ∀ (acc d : Nat), d < 10 → acc * 10 + d ≤ M → Lib.parseUintM M acc (UInt8.ofNat (48 + d) :: r) = Lib.parseUintM M (acc * 10 + d) r := by
      intro acc d h10 hle
      rw [Lib.parseUintM, hd d h10, if_pos (by omega), if_neg (by omega), if_neg (by omega)]
      congr 1
      omega
    rw [Lib.decDigits]
    split
    · rename_i h
      have := step 0 u h (by omega)
      rw [List.singleton_append, this]
      congr 1
      omega
    · rename_i h
      rw [List.append_assoc, ih (u / 10) (by omega) (by omega), List.singleton_append, step (u / 10) (u % 10) (by omega) (by omega)]
      congr 1
      omega

theorem parse_numeral {n : Int} (h : is64 n = true) : Lib.parseIntB 64 (numeral n) = .ok n := by
  rw [numeral_eq h]
  simp only [is64, Bool.and_eq_true, decide_eq_true_eq] at h
  have hM : (2 ^ 64 - 1 : Nat) = 18446744073709551615 := by decide
  have key : ∀ u : Nat, u ≤ 18446744073709551615 → Lib.parseUintB 64 (Lib.decDigits u) = .ok u := by
    intro u hu
    unfold Lib.parseUintB
    rw [if_neg (dec_ne u), hM]
    have := parse_dec 18446744073709551615 rfl u hu []
    rw [List.append_nil] at this
    rw [this, Lib.parseUintM]
  unfold Lib.itoa
  split
  · rename_i hn
    unfold Lib.parseIntB
    have := key n.natAbs (by omega)
    have e45 : (45 : UInt8).toNat = 45 := rfl
    simp only [e45, or_true, if_true, this]
    rw [if_neg (by simp), if_neg (by simp; omega)]
    congr 1
    omega
  · rename_i hn
    have hk := key n.toNat (by omega)
    have hdig := dec_digits n.toNat
    generalize Lib.decDigits n.toNat = l at *
    cases l with
    | nil => cases hk
    | cons c r =>
      have hc := hdig c (by simp)
      unfold Lib.parseIntB
      have h1 : ¬ c.toNat = 43 := by omega
      have h2 : ¬ c.toNat = 45 := by omega
      simp only [h1, h2, or_self, if_false, hk, false_and, not_false_eq_true, true_and]
      have hp : ¬ 2 ^ (64 - 1) ≤ n.toNat := by
        have : (2 ^ (64 - 1) : Nat) = 9223372036854775808 := by decide
        omega
      rw [if_neg hp]
      congr 1
      omega

theorem numeral_bytes {n : Int} (h : is64 n = true) : ∀ x ∈ numeral n, x.toNat = 45 ∨ (48 ≤ x.toNat ∧ x.toNat ≤ 57) := by
  rw [numeral_eq h]
  intro x hx
  unfold Lib.itoa at hx
  split at hx
  · rcases List.mem_cons.1 hx with rfl | hx
    · left; rfl
    · right; exact dec_digits _ x hx
  · right; exact dec_digits _ x hx

theorem numeral_ne {n : Int} (h : is64 n = true) : numeral n ≠ [] := by
  rw [numeral_eq h]
  unfold Lib.itoa
  split
  · simp
  · exact dec_ne _

/- where the next comma stands -/

theorem idx_none (c : UInt8) : ∀ (l : List UInt8) (i : Nat), (∀ x ∈ l, x ≠ c) → idxByte c l i = -1
  | [], _, _ => rfl
  | b :: l, i, h => by
    simp only [idxByte]
    rw [if_neg (by simpa using h b (by simp)), idx_none c l (i + 1) fun x hx => h x (by simp [hx])]

theorem idx_here (c : UInt8) (r : List UInt8) : ∀ (l : List UInt8) (i : Nat), (∀ x ∈ l, x ≠ c) → idxByte c (l ++ c :: r) i = ((i + l.length : Nat) : Int)
  | [], i, _ => by simp [idxByte]
  | b :: l, i, h => by
    rw [List.cons_append]
    simp only [idxByte]
    rw [if_neg (by simpa using h b (by simp)), idx_here c r l (i + 1) fun x hx => h x (by simp [hx])]
    simp only [List.length_cons]
    omega

/-- behind a value stands nothing, or a comma -/
def Ends (rest : List UInt8) : Prop := rest = [] ∨ ∃ r, rest = 44 :: r

theorem numeral_no44 {n : Int} (h : is64 n = true) : ∀ x ∈ numeral n, x ≠ 44 := by
  intro x hx e
  have := numeral_bytes h x hx
  subst e
  revert this
  decide

theorem numeral_small {n : Int} (h : is64 n = true) : (numeral n).length ≤ 21 := by
  have hb := h
  simp only [is64, Bool.and_eq_true, decide_eq_true_eq] at hb
  rw [numeral_eq h]
  exact Lib.itoa_length_le n hb.1 hb.2

end Go.Proofs.YtfdcjngclelnhaaDoor
