/- The sums: one step, one byte, a text; package sums and the document's. -/
import Derived.Test.YtnnhklembdaieaaDiskF
import Derived.Laws.BitsAllLaws
namespace Go.Proofs.Ytnnhklembdaieaa
open Go.RowKit
set_option linter.unusedSimpArgs false
set_option linter.unusedVariables false

def halfN (p s : Nat) : Nat := if s % 2 = 1 then (s / 2) ^^^ p else s / 2
theorem halfN_lt (p s n : Nat) (hp : p < 2 ^ n) (hs : s < 2 ^ n) : halfN p s < 2 ^ n := by
  unfold halfN
  split
  · exact Nat.xor_lt_two_pow (by omega) hp
  · omega
def stepsN (p : Nat) : Nat → Nat → Nat
  | 0, s => s
  | k + 1, s => halfN p (stepsN p k s)
theorem stepsN_lt (p n : Nat) (hp : p < 2 ^ n) : ∀ (k s : Nat), s < 2 ^ n → stepsN p k s < 2 ^ n
  | 0, _, h => h
  | k + 1, s, h => halfN_lt p _ n hp (stepsN_lt p n hp k s h)
def byteN (p s : Nat) (c : UInt8) : Nat := stepsN p 8 (s ^^^ c.toNat)
theorem byteN_lt (p s n : Nat) (c : UInt8) (hn : 8 ≤ n) (hp : p < 2 ^ n) (hs : s < 2 ^ n) : byteN p s c < 2 ^ n := by
  refine stepsN_lt p n hp 8 _ (Nat.xor_lt_two_pow hs ?_)
  have := c.toNat_lt
  exact Nat.lt_of_lt_of_le this (Nat.pow_le_pow_right (by omega) hn)
def runN (p s : Nat) (l : List UInt8) : Nat := l.foldl (byteN p) s
theorem runN_lt (p n : Nat) (hn : 8 ≤ n) (hp : p < 2 ^ n) : ∀ (l : List UInt8) (s : Nat), s < 2 ^ n → runN p s l < 2 ^ n
  | [], _, h => h
  | c :: l, s, h => runN_lt p n hn hp l _ (byteN_lt p s n c hn hp h)
theorem runN_snoc (p s : Nat) (l : List UInt8) (c : UInt8) : runN p s (l ++ [c]) = byteN p (runN p s l) c := by simp [runN]

theorem halve_ok (s p : Nat) (w : World) (hs : s < 4294967296) (hp : p < 4294967296) : Calls Try.prog 124 #[.int .u32 (s : Int), .int .u32 (p : Int)] w fun e w' => e = .returned (.int .u32 (halfN p s : Int)) ∧ w = w' := by
  have h1 : bits .and .u32 (s : Int) 1 = ((s % 2 : Nat) : Int) := by
    have := u32_and_nat s 1 hs (by omega)
    rw [Nat.and_one_is_mod] at this
    exact this
  have h2 : bits .xor .u32 ((s : Int) / 2) (p : Int) = (((s / 2) ^^^ p : Nat) : Int) := u32_xor_nat (s / 2) p (by omega) hp
  by_cases hb : s % 2 = 1
  · have e1 : halfN p s = (s / 2) ^^^ p := if_pos hb
    rw [e1]
    have hc : ((s : Int) % 2 == 1) = true := by rw [show (s : Int) % 2 = ((s % 2 : Nat) : Int) by omega, hb]; rfl
    clear e1 hb
    go_enter Try.func124, Try.ntmps124
    go_wp2
    go_ret
    exact ⟨rfl, rfl⟩
  · have e1 : halfN p s = s / 2 := if_neg hb
    rw [e1]
    have hc : ((s : Int) % 2 == 1) = false := by rw [beq_eq_false_iff_ne]; omega
    clear e1 hb
    go_enter Try.func124, Try.ntmps124
    go_wp2
    go_ret
    exact ⟨rfl, rfl⟩

theorem byteOn_ok (s p : Nat) (c : UInt8) (w : World) (hs : s < 4294967296) (hp : p < 4294967296) : Calls Try.prog 114 #[.int .u32 (s : Int), .int .u8 (c.toNat : Int), .int .u32 (p : Int)] w fun e w' => e = .returned (.int .u32 (byteN p s c : Int)) ∧ w = w' := by
  have hc : c.toNat < 4294967296 := by have := c.toNat_lt; omega
  have hc8 : c.toNat < 256 := by have := c.toNat_lt; omega
  have hx : bits .xor .u32 (s : Int) (c.toNat : Int) = ((s ^^^ c.toNat : Nat) : Int) := u32_xor_nat s c.toNat hs hc
  have hxl : s ^^^ c.toNat < 4294967296 := Nat.xor_lt_two_pow (n := 32) hs hc
  obtain ⟨cn, hcn⟩ : ∃ cn, cn = c.toNat := ⟨_, rfl⟩
  have e : byteN p s c = stepsN p 8 (s ^^^ c.toNat) := rfl
  rw [← hcn] at hx hxl hc8 e ⊢
  rw [e]
  clear hcn e hc
  obtain ⟨x, hx'⟩ : ∃ x, x = s ^^^ cn := ⟨_, rfl⟩
  rw [← hx'] at hx hxl ⊢
  clear hx'
  go_enter Try.func114, Try.ntmps114
  go_wp2_with fail
  go_loopw [0, 11] (fun v i wr => ∃ k : Nat, k ≤ 8 ∧ i = .int .i64 k ∧ v = .int .u32 (stepsN p k x : Nat) ∧ w = wr) (fun _ i _ => 8 - (intOf i).toNat)
  case atStart => exact ⟨0, by omega, rfl, by first | rfl | (rw [hx]; rfl), rfl⟩
  case round =>
    obtain ⟨k, hk, rfl, rfl, rfl⟩ := hrel
    by_cases hlt : k < 8
    · have hl := stepsN_lt p 32 hp k x hxl
      go_wp2_with fail
      refine (halve_ok (stepsN p k x) p w hl hp).mono ?_
      rintro e w1 ⟨rfl, rfl⟩
      go_wp2
      go_roundw
      case rel => exact ⟨k + 1, by omega, by go_num, rfl, trivial⟩
      case measure => simp [intOf] <;> omega
    · obtain rfl : k = 8 := by omega
      go_wp2
      go_ret
      exact ⟨rfl, rfl⟩

theorem run_ok (s p : Nat) (A : Option Addr) (n c : Nat) (l : List UInt8) (w : World) (hl : SlAt w A n (bvs l)) (hn : n ≤ 9223372036854775807) (hs : s < 4294967296) (hp : p < 4294967296) :
    Calls Try.prog 87 #[.int .u32 (s : Int), .slice A n c, .int .u32 (p : Int)] w fun e w' => e = .returned (.int .u32 (runN p s l : Int)) ∧ w = w' := by
  have hlen : l.length = n := by have := hl.1; rwa [bvs_length] at this
  have HL := hide hlen
  go_enter Try.func87, Try.ntmps87
  go_wp2_with fail
  go_loopw [0, 11] (fun v i wr => ∃ k : Nat, k ≤ n ∧ i = .int .i64 k ∧ v = .int .u32 (runN p s (l.take k) : Nat) ∧ w = wr) (fun _ i _ => n - (intOf i).toNat)
  case atStart => exact ⟨0, by omega, rfl, rfl, rfl⟩
  case round =>
    obtain ⟨k, hk, rfl, rfl, rfl⟩ := hrel
    by_cases hlt : k < n
    · obtain ⟨g, o, rfl, hg, hr⟩ := hl.2 (by omega)
      have hkl : k < l.length := by omega
      obtain ⟨x, hx⟩ : ∃ x, x = l[k] := ⟨_, rfl⟩
      have hc : w.cell? ⟨g, o + k, none⟩ = some (.int .u8 (x.toNat : Int)) := hr k _ (by rw [hx]; simp [bvs, bv, hkl])
      have hb := runN_lt p 32 (by omega) hp (l.take k) s hs
      have hsn : runN p s (l.take (k + 1)) = byteN p (runN p s (l.take k)) x := by rw [take_snoc _ _ hkl, runN_snoc, hx]
      have HS := hide hsn
      have hk0 : (0 : Int) ≤ (k : Int) := by omega
      have hk1 : (k : Int) < (n : Int) := by omega
      clear hx hsn hlen hr
      go_wp2_with fail
      refine (byteOn_ok _ p x w hb hp).mono ?_
      rintro e w1 ⟨rfl, rfl⟩
      go_wp2
      go_roundw
      case rel => exact ⟨k + 1, by omega, by go_num, by rw [HS.out], trivial⟩
      case measure => simp [intOf] <;> omega
    · obtain rfl : k = n := by omega
      rw [List.take_of_length_le (by omega)]
      go_wp2
      go_ret
      exact ⟨rfl, rfl⟩

theorem xor_ones (n x : Nat) (h : x < 2 ^ n) : (2 ^ n - 1) ^^^ x = 2 ^ n - 1 - x := by
  apply Nat.eq_of_testBit_eq
  intro i
  rw [show 2 ^ n - 1 - x = 2 ^ n - (x + 1) by omega, Nat.testBit_two_pow_sub_succ h, Nat.testBit_xor, Nat.testBit_two_pow_sub_one]
  by_cases hi : i < n
  · simp [hi]
  · have : x.testBit i = false := Nat.testBit_lt_two_pow (Nat.lt_of_lt_of_le h (Nat.pow_le_pow_right (by omega) (by omega)))
    simp [hi, this]
theorem not16 (x : Nat) (h : x < 65536) : bits .xor .u16 IntKind.u16.max (x : Int) = ((65535 - x : Nat) : Int) := by
  have := u16_xor_nat 65535 x (by omega) h
  rw [show (65535 : Nat) ^^^ x = 65535 - x from xor_ones 16 x h] at this
  exact this
theorem not32 (x : Nat) (h : x < 4294967296) : bits .xor .u32 IntKind.u32.max (x : Int) = ((4294967295 - x : Nat) : Int) := by
  have := u32_xor_nat 4294967295 x (by omega) h
  rw [show (4294967295 : Nat) ^^^ x = 4294967295 - x from xor_ones 32 x h] at this
  exact this
def shortN (l : List UInt8) : Nat := 65535 - runN 33800 65535 l
def longN (l : List UInt8) : Nat := 4294967295 - runN 2197175160 4294967295 l
theorem short_ok (A : Option Addr) (n c : Nat) (l : List UInt8) (w : World) (hl : SlAt w A n (bvs l)) (hn : n ≤ 9223372036854775807) :
    Calls Try.prog 40 #[.slice A n c] w fun e w' => e = .returned (.int .u16 (shortN l : Int)) ∧ w = w' := by
  have hb := runN_lt 33800 16 (by omega) (by omega) l 65535 (by omega)
  go_enter Try.func40, Try.ntmps40
  go_wp2_with fail
  refine (run_ok 65535 33800 A n c l w hl hn (by omega) (by omega)).mono ?_
  rintro e w1 ⟨rfl, rfl⟩
  go_wp2
  go_ret
  exact ⟨by rw [not16 _ hb]; rfl, rfl⟩
theorem long_ok (A : Option Addr) (n c : Nat) (l : List UInt8) (w : World) (hl : SlAt w A n (bvs l)) (hn : n ≤ 9223372036854775807) :
    Calls Try.prog 42 #[.slice A n c] w fun e w' => e = .returned (.int .u32 (longN l : Int)) ∧ w = w' := by
  have hb := runN_lt 2197175160 32 (by omega) (by omega) l 4294967295 (by omega)
  go_enter Try.func42, Try.ntmps42
  go_wp2_with fail
  refine (run_ok 4294967295 2197175160 A n c l w hl hn (by omega) (by omega)).mono ?_
  rintro e w1 ⟨rfl, rfl⟩
  go_wp2
  go_ret
  exact ⟨by rw [not32 _ hb]; rfl, rfl⟩

/-! ### the document's sum -/
theorem refSum_ok (A : Option Addr) (n c : Nat) (l : List UInt8) (s p : Nat) (w : World) (hl : SlAt w A n (bvs l)) (hn : n ≤ 9223372036854775807) (b : Nat) (hb8 : 8 ≤ b) (hb32 : b ≤ 32) (hs : s = 2 ^ b - 1) (hp : p < 2 ^ b) :
    Calls Try.prog 88 #[.slice A n c, .int .u64 (s : Int), .int .u64 (p : Int)] w fun e w' => e = .returned (.int .u64 ((s - runN p s l : Nat) : Int)) ∧ w = w' := by
  have hlen : l.length = n := by have := hl.1; rwa [bvs_length] at this
  have hb2 : 2 ^ b ≤ 2 ^ 32 := Nat.pow_le_pow_right (by omega) hb32
  have hb0 : 0 < 2 ^ b := Nat.two_pow_pos b
  have hs0 : s < 2 ^ b := by omega
  have hall := runN_lt p b hb8 hp l s hs0
  have HB := hide (show runN p s l ≤ s by omega)
  have HS0 := hide hs0
  have HP := hide hp
  have hp32 : p < 4294967296 := by omega
  have hs32 : s < 4294967296 := by omega
  have hst : ∀ k x, x < 2 ^ b → stepsN p k x < 2 ^ b := fun k x h => stepsN_lt p b hp k x h
  have HST := hide hst
  have HB2 := hide hb2
  have HL := hide hlen
  clear hall hs0 hp hst hb2 hb0 hlen hs
  go_enter Try.func88, Try.ntmps88
  go_wp2_with fail
  go_loopw [7, 8] (fun v i wr => ∃ k : Nat, k ≤ n ∧ i = .int .i64 k ∧ v = .int .u64 (runN p s (l.take k) : Nat) ∧ w = wr) (fun _ i _ => n - (intOf i).toNat)
  case atStart => exact ⟨0, by omega, rfl, rfl, rfl⟩
  case round =>
    obtain ⟨k, hk, rfl, rfl, rfl⟩ := hrel
    by_cases hlt : k < n
    · obtain ⟨g, o, rfl, hg, hr⟩ := hl.2 (by omega)
      have hkl : k < l.length := by rw [HL.out]; exact hlt
      obtain ⟨x, hx⟩ : ∃ x, x = l[k] := ⟨_, rfl⟩
      have hc : w.cell? ⟨g, o + k, none⟩ = some (.int .u8 (x.toNat : Int)) := hr k _ (by rw [hx]; simp [bvs, bv, hkl])
      have hsn : runN p s (l.take (k + 1)) = stepsN p 8 (runN p s (l.take k) ^^^ x.toNat) := by rw [take_snoc _ _ hkl, runN_snoc, hx]; rfl
      obtain ⟨r, hr2⟩ : ∃ r, r = runN p s (l.take k) := ⟨_, rfl⟩
      have hrl : r < 2 ^ b := by rw [hr2]; exact runN_lt p b hb8 HP.out _ s HS0.out
      have hx8 : x.toNat < 256 := x.toNat_lt
      have hxor : r ^^^ x.toNat < 2 ^ b := Nat.xor_lt_two_pow hrl (Nat.lt_of_lt_of_le hx8 (show 2 ^ 8 ≤ 2 ^ b from Nat.pow_le_pow_right (by omega) hb8))
      have hr64 : r < 18446744073709551616 := by have := HB2.out; omega
      rw [← hr2] at hsn ⊢
      have h64 : bits .xor .u64 (r : Int) (x.toNat : Int) = ((r ^^^ x.toNat : Nat) : Int) := u64_xor_nat r x.toNat hr64 (by omega)
      obtain ⟨y, hy⟩ : ∃ y, y = r ^^^ x.toNat := ⟨_, rfl⟩
      rw [← hy] at hsn hxor h64
      have HSN := hide hsn
      have HXO := hide hxor
      have hk0 : (0 : Int) ≤ (k : Int) := by omega
      have hk1 : (k : Int) < (n : Int) := by omega
      clear hx hr hr2 hsn hrl hxor hy
      go_wp2_with fail
      go_loopw [7, 9] (fun v i wr => ∃ j : Nat, j ≤ 8 ∧ i = .int .i64 j ∧ v = .int .u64 (stepsN p j y : Nat) ∧ w = wr) (fun _ i _ => 8 - (intOf i).toNat)
      case atStart => exact ⟨0, by omega, rfl, rfl, rfl⟩
      case round =>
        obtain ⟨j, hj, rfl, rfl, rfl⟩ := hrel
        by_cases hlt2 : j < 8
        · have hz := HST.out j y HXO.out
          obtain ⟨z, hz0⟩ : ∃ z, z = stepsN p j y := ⟨_, rfl⟩
          have hnext : stepsN p (j + 1) y = halfN p z := by rw [hz0]; rfl
          rw [← hz0] at hz ⊢
          have hz64 : z < 4294967296 := by have := HB2.out; omega
          have HN := hide hnext
          clear hz0 hnext hz
          by_cases hbit : z % 2 = 1
          · have e1 : halfN p z = (z / 2) ^^^ p := if_pos hbit
            have h3 : bits .xor .u64 ((z : Int) / 2) (p : Int) = (((z / 2) ^^^ p : Nat) : Int) := u64_xor_nat (z / 2) p (by omega) (by omega)
            have h4 : ((z : Int) % 2 == 1) = true := by rw [show (z : Int) % 2 = ((z % 2 : Nat) : Int) by omega, hbit]; rfl
            have HE := hide e1
            clear e1 hbit
            go_wp2
            go_roundw
            case rel => exact ⟨j + 1, by omega, by go_num, by rw [HN.out, HE.out], trivial⟩
            case measure => simp [intOf] <;> omega
          · have e1 : halfN p z = z / 2 := if_neg hbit
            have h4 : ((z : Int) % 2 == 1) = false := by rw [beq_eq_false_iff_ne]; omega
            have HE := hide e1
            clear e1 hbit
            go_wp2
            go_roundw
            case rel => exact ⟨j + 1, by omega, by go_num, by rw [HN.out, HE.out]; simp, trivial⟩
            case measure => simp [intOf] <;> omega
        · obtain rfl : j = 8 := by omega
          go_wp2
          go_roundw
          case rel => exact ⟨k + 1, by omega, by go_num, by rw [HSN.out], trivial⟩
          case measure => simp [intOf] <;> omega
    · obtain rfl : k = n := by omega
      rw [List.take_of_length_le (by rw [HL.out]; omega)]
      obtain ⟨r, hr⟩ : ∃ r, r = runN p s l := ⟨_, rfl⟩
      have hrs : r ≤ s := by rw [hr]; exact HB.out
      rw [← hr]
      have HR := hide hr
      clear hr
      go_wp2
      go_ret
      exact ⟨by rw [← HR.out, Int.ofNat_sub hrs]; rfl, rfl⟩
theorem refShort_ok (A : Option Addr) (n c : Nat) (l : List UInt8) (w : World) (hl : SlAt w A n (bvs l)) (hn : n ≤ 9223372036854775807) :
    Calls Try.prog 41 #[.slice A n c] w fun e w' => e = .returned (.int .u16 (shortN l : Int)) ∧ w = w' := by
  have hb : shortN l < 65536 := by unfold shortN; omega
  go_enter Try.func41, Try.ntmps41
  go_wp2_with fail
  refine (refSum_ok A n c l 65535 33800 w hl hn 16 (by omega) (by omega) rfl (by omega)).mono ?_
  rintro e w1 ⟨rfl, rfl⟩
  rw [show 65535 - runN 33800 65535 l = shortN l from rfl]
  go_wp2
  go_ret
  exact ⟨rfl, rfl⟩
theorem refLong_ok (A : Option Addr) (n c : Nat) (l : List UInt8) (w : World) (hl : SlAt w A n (bvs l)) (hn : n ≤ 9223372036854775807) :
    Calls Try.prog 43 #[.slice A n c] w fun e w' => e = .returned (.int .u32 (longN l : Int)) ∧ w = w' := by
  have hb : longN l < 4294967296 := by unfold longN; omega
  go_enter Try.func43, Try.ntmps43
  go_wp2_with fail
  refine (refSum_ok A n c l 4294967295 2197175160 w hl hn 32 (by omega) (by omega) rfl (by omega)).mono ?_
  rintro e w1 ⟨rfl, rfl⟩
  rw [show 4294967295 - runN 2197175160 4294967295 l = longN l from rfl]
  go_wp2
  go_ret
  exact ⟨rfl, rfl⟩
end Go.Proofs.Ytnnhklembdaieaa
