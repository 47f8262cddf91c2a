/- Texts of this proof, one behind the other: PrsP. -/
import Derived.Lib.AtoiAll
import Derived.Test.YtebcdjpddoaajaaDoorGr3
/- Reading back what was written: numerals, words between signs. No program in sight. -/
namespace Go.Proofs.YtebcdjpddoaajaaDoor
open Go.RowKit
set_option linter.unusedVariables false
set_option linter.unusedSimpArgs false
set_option maxRecDepth 100000

/-! ### numerals -/
theorem pu_snoc : ∀ (l : List UInt8) (acc : Nat) (c : UInt8), Lib.parseUint10 acc (l ++ [c]) = match Lib.parseUint10 acc l with | .ok v => Lib.parseUint10 v [c] | r => r
  | [], acc, c => by simp only [List.nil_append]; conv => rhs; rw [Lib.parseUint10]
  | x :: l, acc, c => by
    simp only [List.cons_append, Lib.parseUint10]
    split
    · split
      · rfl
      · split
        · rfl
        · exact pu_snoc l _ c
    · rfl
theorem dig_nat {d : Nat} (h : d < 10) : (UInt8.ofNat (48 + d)).toNat = 48 + d := by
  simp only [UInt8.toNat_ofNat']
  omega
theorem pu_dec : ∀ (u : Nat), u < 18446744073709551616 → Lib.parseUint10 0 (Lib.decDigits u) = .ok u := by
  intro u
  induction u using Nat.strongRecOn with
  | _ u ih =>
    intro hu
    by_cases h : u < 10
    · rw [Lib.decDigits_one h]
      simp only [Lib.parseUint10, dig_nat h]
      rw [if_pos ⟨by omega, by omega⟩, if_neg (by omega), if_neg (by omega)]
      congr 1; omega
    · have e : Lib.decDigits u = Lib.decDigits (u / 10) ++ [UInt8.ofNat (48 + u % 10)] := by rw [Lib.decDigits, dif_neg h]
      rw [e, pu_snoc, ih (u / 10) (by omega) (by omega)]
      have hd : u % 10 < 10 := by omega
      simp only [Lib.parseUint10, dig_nat hd]
      rw [if_pos ⟨by omega, by omega⟩, if_neg (by omega), if_neg (by omega)]
      congr 1; omega
theorem dec_digits : ∀ (u : Nat), ∀ b ∈ Lib.decDigits u, 48 ≤ b.toNat ∧ b.toNat ≤ 57 := by
  intro u
  induction u using Nat.strongRecOn with
  | _ u ih =>
    intro b hb
    by_cases h : u < 10
    · rw [Lib.decDigits_one h] at hb
      simp only [List.mem_singleton] at hb
      subst hb
      rw [dig_nat h]; omega
    · rw [Lib.decDigits, dif_neg h] at hb
      rcases List.mem_append.1 hb with hb | hb
      · exact ih (u / 10) (by omega) b hb
      · simp only [List.mem_singleton] at hb
        subst hb
        rw [dig_nat (by omega)]; omega
theorem dec_ne (u : Nat) : Lib.decDigits u ≠ [] := by
  rw [Lib.decDigits]
  split <;> simp
/-- the signs of a numeral -/
theorem itoa_signs (n : Int) : ∀ b ∈ Lib.itoa n, b.toNat = 45 ∨ (48 ≤ b.toNat ∧ b.toNat ≤ 57) := by
  intro b hb
  by_cases h : 0 ≤ n
  · obtain ⟨u, rfl⟩ := Int.eq_ofNat_of_zero_le h
    rw [show ((u : Nat) : Int) = (u : Int) from rfl, Lib.itoa_nonneg] at hb
    exact .inr (dec_digits u b hb)
  · obtain ⟨u, rfl⟩ : ∃ u : Nat, n = -(u : Int) := ⟨n.natAbs, by omega⟩
    rw [Lib.itoa_neg u (by omega)] at hb
    rcases List.mem_cons.1 hb with rfl | hb
    · exact .inl rfl
    · exact .inr (dec_digits u b hb)
theorem itoa_ne (n : Int) : Lib.itoa n ≠ [] := by
  by_cases h : 0 ≤ n
  · obtain ⟨u, rfl⟩ := Int.eq_ofNat_of_zero_le h
    rw [show ((u : Nat) : Int) = (u : Int) from rfl, Lib.itoa_nonneg]
    exact dec_ne u
  · obtain ⟨u, rfl⟩ : ∃ u : Nat, n = -(u : Int) := ⟨n.natAbs, by omega⟩
    rw [Lib.itoa_neg u (by omega)]
    simp
/-- strconv.Atoi reads a numeral back -/
theorem atoi_itoa {n : Int} (h0 : -9223372036854775808 ≤ n) (h1 : n ≤ 9223372036854775807) : Lib.atoiAll (Lib.itoa n) = .ok n := by
  by_cases h : 0 ≤ n
  · obtain ⟨u, rfl⟩ := Int.eq_ofNat_of_zero_le h
    have e : Lib.itoa (u : Int) = Lib.decDigits u := Lib.itoa_nonneg u
    rw [e]
    have hp := pu_dec u (by omega)
    obtain ⟨c, r, hcr⟩ : ∃ c r, Lib.decDigits u = c :: r := by
      cases hd : Lib.decDigits u with
      | nil => exact absurd hd (dec_ne u)
      | cons c r => exact ⟨c, r, rfl⟩
    have hc := dec_digits u c (by rw [hcr]; simp)
    rw [hcr] at hp ⊢
    unfold Lib.atoiAll Lib.parseMag
    simp only
    rw [if_neg (show ¬ (c.toNat = 43 ∨ c.toNat = 45) by omega), if_neg (by simp), hp]
    simp only
    rw [if_neg (by omega), if_neg (by omega), if_neg (by omega)]
  · obtain ⟨u, rfl⟩ : ∃ u : Nat, n = -(u : Int) := ⟨n.natAbs, by omega⟩
    rw [Lib.itoa_neg u (by omega)]
    have hp := pu_dec u (by omega)
    unfold Lib.atoiAll Lib.parseMag
    simp only
    rw [if_pos (show ((45 : UInt8).toNat = 43 ∨ (45 : UInt8).toNat = 45) from .inr rfl), if_neg (dec_ne u), hp]
    simp only
    have h45 : (45 : UInt8).toNat = 45 := rfl
    rw [if_neg (by omega), if_neg (by omega), if_pos h45]
theorem itoa_inj {n m : Int} (h0 : -9223372036854775808 ≤ n) (h1 : n ≤ 9223372036854775807) (g0 : -9223372036854775808 ≤ m) (g1 : m ≤ 9223372036854775807) (h : Lib.itoa n = Lib.itoa m) : n = m := by
  have a := atoi_itoa h0 h1
  rw [h, atoi_itoa g0 g1] at a
  injection a with a
  exact a.symm

/-! ### words -/
def splitL (p : UInt8 → Bool) : List UInt8 → List UInt8 → List (List UInt8)
  | cur, [] => [cur]
  | cur, b :: r => if p b = true then cur :: splitL p [] r else splitL p (cur ++ [b]) r
theorem splitL_word {p : UInt8 → Bool} {sep : UInt8} (hs : p sep = true) : ∀ (w cur r : List UInt8), (∀ b ∈ w, p b = false) → splitL p cur (w ++ sep :: r) = (cur ++ w) :: splitL p [] r
  | [], cur, r, _ => by simp [splitL, hs]
  | b :: w, cur, r, h => by
    have hb := h b (by simp)
    have ih := splitL_word hs w (cur ++ [b]) r fun x hx => h x (by simp [hx])
    simp only [List.cons_append, splitL, hb]
    rw [if_neg (by decide), ih]
    simp
theorem splitL_last {p : UInt8 → Bool} : ∀ (w cur : List UInt8), (∀ b ∈ w, p b = false) → splitL p cur w = [cur ++ w]
  | [], cur, _ => by simp [splitL]
  | b :: w, cur, h => by
    have hb := h b (by simp)
    have ih := splitL_last w (cur ++ [b]) fun x hx => h x (by simp [hx])
    simp only [splitL, hb]
    rw [if_neg (by decide), ih]
    simp
theorem splitL_ne (p : UInt8 → Bool) : ∀ (l cur : List UInt8), splitL p cur l ≠ []
  | [], cur => by simp [splitL]
  | b :: l, cur => by
    rw [splitL]
    split
    · simp
    · exact splitL_ne p l _
end Go.Proofs.YtebcdjpddoaajaaDoor
