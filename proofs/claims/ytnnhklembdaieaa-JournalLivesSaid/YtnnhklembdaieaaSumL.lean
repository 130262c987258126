/- Plain laws of the sums: they are linear; a table of bytes serves. -/
import Derived.Test.YtnnhklembdaieaaSumC
namespace Go.Proofs.Ytnnhklembdaieaa
open Go.RowKit
set_option linter.unusedSimpArgs false
set_option linter.unusedVariables false

theorem halfN_xor (p a b : Nat) : halfN p (a ^^^ b) = halfN p a ^^^ halfN p b := by
  have hd : (a ^^^ b) / 2 = a / 2 ^^^ b / 2 := Nat.xor_div_two
  have hm : (a ^^^ b) % 2 = 1 ↔ ¬ (a % 2 = 1 ↔ b % 2 = 1) := Nat.xor_mod_two_eq_one
  unfold halfN
  rw [hd]
  rcases Nat.mod_two_eq_zero_or_one a with ha | ha <;> rcases Nat.mod_two_eq_zero_or_one b with hb | hb
  · rw [if_neg (by rw [hm]; omega), if_neg (by omega), if_neg (by omega)]
  · rw [if_pos (by rw [hm]; omega), if_neg (by omega), if_pos (by omega), Nat.xor_assoc]
  · rw [if_pos (by rw [hm]; omega), if_pos (by omega), if_neg (by omega), Nat.xor_assoc, Nat.xor_comm (b / 2) p, Nat.xor_assoc]
  · rw [if_neg (by rw [hm]; omega), if_pos (by omega), if_pos (by omega), Nat.xor_assoc, Nat.xor_comm (b / 2) p, ← Nat.xor_assoc p p, Nat.xor_self, Nat.zero_xor]
theorem stepsN_xor (p : Nat) : ∀ (k a b : Nat), stepsN p k (a ^^^ b) = stepsN p k a ^^^ stepsN p k b
  | 0, _, _ => rfl
  | k + 1, a, b => by simp only [stepsN]; rw [stepsN_xor p k, halfN_xor]
theorem stepsN_shift (p : Nat) : ∀ (k q : Nat), stepsN p k (2 ^ k * q) = q
  | 0, q => by simp [stepsN]
  | k + 1, q => by
    have e : 2 ^ (k + 1) * q = 2 ^ k * (2 * q) := by rw [Nat.pow_succ, Nat.mul_assoc]
    simp only [stepsN]
    rw [e, stepsN_shift p k (2 * q)]
    unfold halfN
    rw [if_neg (by omega)]
    omega
theorem byteN_table (s : Nat) (c : UInt8) (hs : s < 4294967296) : byteN 2197175160 s c = (s / 256) ^^^ tabN ((s % 256) ^^^ c.toNat) := by
  have hc : c.toNat < 256 := c.toNat_lt
  have h8 : (s % 256) ^^^ c.toNat < 256 := Nat.xor_lt_two_pow (n := 8) (by omega) hc
  have hsplit : s = (256 * (s / 256)) ^^^ (s % 256) := by
    have h1 : (2 ^ 8 * (s / 256)) ||| (s % 256) = 2 ^ 8 * (s / 256) + s % 256 := by
      rw [Nat.two_pow_add_eq_or_of_lt (i := 8) (show s % 256 < 2 ^ 8 by omega)]
    have h2 : (2 ^ 8 * (s / 256)) ^^^ (s % 256) = 2 ^ 8 * (s / 256) + s % 256 := by
      rw [← h1]
      apply Nat.eq_of_testBit_eq
      intro i
      rw [Nat.testBit_xor, Nat.testBit_or]
      by_cases hi : i < 8
      · have : (2 ^ 8 * (s / 256)).testBit i = false := by rw [Nat.testBit_two_pow_mul]; simp; omega
        simp [this]
      · have : (s % 256).testBit i = false := Nat.testBit_lt_two_pow (Nat.lt_of_lt_of_le (show s % 256 < 2 ^ 8 by omega) (Nat.pow_le_pow_right (by omega) (by omega)))
        simp [this]
    show s = (2 ^ 8 * (s / 256)) ^^^ (s % 256)
    rw [h2]
    omega
  unfold byteN
  conv => lhs; rw [hsplit]
  rw [Nat.xor_assoc, stepsN_xor]
  have e1 : stepsN 2197175160 8 (256 * (s / 256)) = s / 256 := stepsN_shift 2197175160 8 (s / 256)
  rw [e1]
  congr 1
  unfold tabN byteN
  rw [Nat.zero_xor]
  congr 1
  simp
end Go.Proofs.Ytnnhklembdaieaa
