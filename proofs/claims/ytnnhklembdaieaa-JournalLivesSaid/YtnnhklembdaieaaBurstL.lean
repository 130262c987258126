/- SumsBursts: the plain law. -/
import Derived.Test.YtnnhklembdaieaaTogW
namespace Go.Proofs.Ytnnhklembdaieaa
open Go.RowKit
set_option linter.unusedSimpArgs false
set_option linter.unusedVariables false

/-- a text as one number, its first byte lowest. -/
def numOf8 : List UInt8 → Nat
  | [] => 0
  | c :: l => c.toNat ^^^ (256 * numOf8 l)
theorem stepsN_add (p : Nat) : ∀ (j k s : Nat), stepsN p (j + k) s = stepsN p j (stepsN p k s)
  | 0, k, s => by rw [Nat.zero_add]; rfl
  | j + 1, k, s => by
    rw [show j + 1 + k = (j + k) + 1 by omega]
    simp only [stepsN]
    rw [stepsN_add p j k s]
theorem runN_num (p : Nat) : ∀ (l : List UInt8) (s : Nat), runN p s l = stepsN p (8 * l.length) (s ^^^ numOf8 l)
  | [], s => by simp [runN, numOf8, stepsN]
  | c :: l, s => by
    have ih := runN_num p l (byteN p s c)
    have e : byteN p s c ^^^ numOf8 l = stepsN p 8 (s ^^^ numOf8 (c :: l)) := by
      show byteN p s c ^^^ numOf8 l = stepsN p 8 (s ^^^ (c.toNat ^^^ 256 * numOf8 l))
      rw [← Nat.xor_assoc, stepsN_xor]
      have h := stepsN_shift p 8 (numOf8 l)
      rw [show (256 : Nat) = 2 ^ 8 from rfl, h]
      rfl
    show runN p (byteN p s c) l = _
    rw [ih, e, ← stepsN_add]
    congr 1
theorem halfN_zero (p s n : Nat) (hp : 2 ^ n ≤ p) (hs : s < 2 ^ (n + 1)) (h : halfN p s = 0) : s = 0 := by
  unfold halfN at h
  split at h
  · have h1 : s / 2 = p := by
      have := congrArg (· ^^^ p) h
      simp only [Nat.xor_assoc, Nat.xor_self, Nat.xor_zero, Nat.zero_xor] at this
      exact this
    rw [Nat.pow_succ] at hs
    omega
  · omega
theorem stepsN_zero (p n : Nat) (hp : 2 ^ n ≤ p) (hp2 : p < 2 ^ (n + 1)) : ∀ (k s : Nat), s < 2 ^ (n + 1) → stepsN p k s = 0 → s = 0
  | 0, s, _, h => h
  | k + 1, s, hs, h => stepsN_zero p n hp hp2 k s hs (halfN_zero p _ n hp (stepsN_lt p (n + 1) hp2 k s hs) h)
/-- the law: where two texts of one length differ by a burst, their sums do. -/
theorem burst (p n S at_ by_ : Nat) (hp : 2 ^ n ≤ p) (hp2 : p < 2 ^ (n + 1)) (b c : List UInt8) (hl : b.length = c.length) (hx : numOf8 c = numOf8 b ^^^ (2 ^ at_ * by_)) (hat : at_ ≤ 8 * b.length) (hby : by_ < 2 ^ (n + 1)) (h0 : by_ ≠ 0) : runN p S b ≠ runN p S c := by
  intro h
  rw [runN_num, runN_num, ← hl, hx, ← Nat.xor_assoc, stepsN_xor p _ (S ^^^ numOf8 b)] at h
  have h2 : stepsN p (8 * b.length) (2 ^ at_ * by_) = 0 := by
    have := congrArg (stepsN p (8 * b.length) (S ^^^ numOf8 b) ^^^ ·) h
    simp only [← Nat.xor_assoc, Nat.xor_self, Nat.zero_xor] at this
    exact this.symm
  rw [show 8 * b.length = (8 * b.length - at_) + at_ by omega, stepsN_add, stepsN_shift] at h2
  exact h0 (stepsN_zero p n hp hp2 _ _ hby h2)
theorem two_mul_xor (k a b : Nat) : 2 ^ k * (a ^^^ b) = (2 ^ k * a) ^^^ (2 ^ k * b) := by
  apply Nat.eq_of_testBit_eq
  intro i
  simp only [Nat.testBit_xor, Nat.testBit_two_pow_mul]
  by_cases h : k ≤ i <;> simp [h]
/-- one bit turned. -/
theorem num_flip : ∀ (l : List UInt8) (j r : Nat) (hj : j < l.length) (x : UInt8), x.toNat = l[j].toNat ^^^ 2 ^ r → numOf8 (l.set j x) = numOf8 l ^^^ 2 ^ (8 * j + r)
  | c :: l, 0, r, _, x, h => by
    simp only [List.getElem_cons_zero] at h
    simp only [List.set_cons_zero, numOf8, h]
    rw [Nat.mul_zero, Nat.zero_add, Nat.xor_assoc, Nat.xor_assoc, Nat.xor_comm (2 ^ r)]
  | c :: l, j + 1, r, hj, x, h => by
    have ih := num_flip l j r (by simpa using hj) x (by simpa using h)
    simp only [List.set_cons_succ, numOf8]
    rw [ih, show (256 : Nat) = 2 ^ 8 from rfl, two_mul_xor, ← Nat.xor_assoc, ← Nat.pow_add]
    congr 2
    omega
theorem flip_fact (x : UInt8) (R : Nat) (hR : R < 8) : ∃ y : UInt8, y.toNat = x.toNat ^^^ 2 ^ R ∧ bits .xor .u8 (x.toNat : Int) (IntKind.u8.wrap ((2 : Int) ^ R)) = (y.toNat : Int) := by
  have hx := x.toNat_lt
  have hp : 2 ^ R < 256 := by
    have : R = 0 ∨ R = 1 ∨ R = 2 ∨ R = 3 ∨ R = 4 ∨ R = 5 ∨ R = 6 ∨ R = 7 := by omega
    rcases this with rfl | rfl | rfl | rfl | rfl | rfl | rfl | rfl <;> decide
  have hw : IntKind.u8.wrap ((2 : Int) ^ R) = ((2 ^ R : Nat) : Int) := by
    have : R = 0 ∨ R = 1 ∨ R = 2 ∨ R = 3 ∨ R = 4 ∨ R = 5 ∨ R = 6 ∨ R = 7 := by omega
    rcases this with rfl | rfl | rfl | rfl | rfl | rfl | rfl | rfl <;> decide
  have hlt : x.toNat ^^^ 2 ^ R < 256 := Nat.xor_lt_two_pow (n := 8) hx hp
  have hy : (UInt8.ofNat (x.toNat ^^^ 2 ^ R)).toNat = x.toNat ^^^ 2 ^ R := by rw [UInt8.toNat_ofNat']; omega
  exact ⟨_, hy, by rw [hw, hy]; exact u8_xor_nat _ _ hx hp⟩
end Go.Proofs.Ytnnhklembdaieaa
