/- The super's plain laws: its bytes, the super of bytes, bits that are turned, the newest of two. No walk. -/
import Derived.Test.YtnnhklembdaieaaBurstL
namespace Go.Proofs.Ytnnhklembdaieaa
open Go.RowKit
set_option linter.unusedSimpArgs false
set_option linter.unusedVariables false

/-- the first i of a number's size bytes, the greatest first. -/
def beTo (size i n : Nat) : List UInt8 := (List.range i).map fun j => UInt8.ofNat (n / 2 ^ (8 * (size - 1 - j)))
def beN (size n : Nat) : List UInt8 := beTo size size n
theorem beTo_length (size i n : Nat) : (beTo size i n).length = i := by simp [beTo]
theorem beN_length (size n : Nat) : (beN size n).length = size := beTo_length ..
theorem beTo_zero (size n : Nat) : beTo size 0 n = [] := rfl
theorem beTo_snoc (size i n : Nat) : beTo size (i + 1) n = beTo size i n ++ [UInt8.ofNat (n / 2 ^ (8 * (size - 1 - i)))] := by simp [beTo, List.range_succ]
theorem beN_zero (n : Nat) : beN 0 n = [] := rfl
theorem beN_succ (i n : Nat) : beN (i + 1) n = UInt8.ofNat (n / 2 ^ (8 * i)) :: beN i n := by
  unfold beN beTo
  rw [List.range_succ_eq_map, List.map_cons, List.map_map]
  simp only [Nat.add_sub_cancel, Nat.sub_zero]
  congr 1
  apply List.map_congr_left
  intro j hj
  simp only [Function.comp]
  congr 3
  simp at hj
  omega
/-- the number of bytes. -/
def unbe (l : List UInt8) : Nat := l.foldl (fun n c => n * 256 + c.toNat) 0
theorem unbe_snoc (l : List UInt8) (c : UInt8) : unbe (l ++ [c]) = unbe l * 256 + c.toNat := by simp [unbe]
theorem unbe_acc : ∀ (l : List UInt8) (acc k : Nat), acc < 2 ^ k → l.foldl (fun n c => n * 256 + c.toNat) acc < 2 ^ (k + 8 * l.length)
  | [], acc, k, h => by simpa using h
  | c :: l, acc, k, h => by
    have hc := c.toNat_lt
    have ih := unbe_acc l (acc * 256 + c.toNat) (k + 8) (by rw [Nat.pow_add]; omega)
    rw [List.foldl_cons, List.length_cons, show k + 8 * (l.length + 1) = k + 8 + 8 * l.length by omega]
    exact ih
theorem unbe_lt (l : List UInt8) : unbe l < 2 ^ (8 * l.length) := by
  have := unbe_acc l 0 0 (by simp)
  rwa [Nat.zero_add] at this
theorem unbe_beTo (size n : Nat) (hn : n < 2 ^ (8 * size)) : ∀ i, i ≤ size → unbe (beTo size i n) = n / 2 ^ (8 * (size - i))
  | 0, _ => by
    rw [beTo_zero, Nat.sub_zero, Nat.div_eq_of_lt hn]; rfl
  | i + 1, h => by
    have ih := unbe_beTo size n hn i (by omega)
    rw [beTo_snoc, unbe_snoc, ih, show size - i = (size - 1 - i) + 1 by omega, show size - (i + 1) = size - 1 - i by omega, Nat.mul_add, Nat.pow_add, ← Nat.div_div_eq_div_mul]
    have e : (UInt8.ofNat (n / 2 ^ (8 * (size - 1 - i)))).toNat = n / 2 ^ (8 * (size - 1 - i)) % 256 := by simp
    rw [e]
    have := Nat.div_add_mod (n / 2 ^ (8 * (size - 1 - i))) 256
    simp only [Nat.mul_one]
    rw [show (2 : Nat) ^ 8 = 256 from rfl]
    omega
theorem unbe_beN (size n : Nat) (hn : n < 2 ^ (8 * size)) : unbe (beN size n) = n := by
  have := unbe_beTo size n hn size (Nat.le_refl _)
  rw [Nat.sub_self] at this
  simpa [beN] using this

/-- says where the log is. -/
structure SU where
  gen : Nat
  area : Int
  len : Int
deriving DecidableEq
def SU.right (s : SU) : Bool := decide (1 ≤ s.gen ∧ s.gen ≤ 1099511627776 ∧ (s.area = 0 ∨ s.area = 1) ∧ 0 ≤ s.len ∧ s.len ≤ 1048576)
theorem SU.right_iff (s : SU) : s.right = true ↔ (1 ≤ s.gen ∧ s.gen ≤ 1099511627776 ∧ (s.area = 0 ∨ s.area = 1) ∧ 0 ≤ s.len ∧ s.len ≤ 1048576) := by simp [SU.right]
/-- none. -/
def SU.zero : SU := ⟨0, 0, 0⟩
def superHead (s : SU) : List UInt8 := [80, 76, 70, 84] ++ (beN 8 s.gen ++ (beN 1 s.area.toNat ++ beN 4 s.len.toNat))
def superBytes (s : SU) : List UInt8 := superHead s ++ (beN 4 (longN (superHead s)) ++ List.replicate 107 0)
def unsuper (xs : List UInt8) : SU := ⟨unbe ((xs.drop 4).take 8), (((xs.drop 12).headD 0).toNat : Int), (unbe ((xs.drop 13).take 4) : Int)⟩
def readS (xs : List UInt8) : Option SU := if xs.length = 128 ∧ (unsuper xs).right = true ∧ superBytes (unsuper xs) = xs then some (unsuper xs) else none
theorem superHead_length (s : SU) : (superHead s).length = 17 := by simp [superHead, beN_length]
theorem superBytes_length (s : SU) : (superBytes s).length = 128 := by simp [superBytes, superHead_length, beN_length]
theorem beN_one (n : Nat) : beN 1 n = [UInt8.ofNat n] := by simp [beN, beTo]
theorem longN_lt (l : List UInt8) : longN l < 4294967296 := by unfold longN; omega
theorem longN_le (l : List UInt8) : longN l ≤ 4294967295 := by unfold longN; omega

theorem unsuper_super {s : SU} (h : s.right = true) : unsuper (superBytes s) = s := by
  obtain ⟨h1, h2, h3, h4, h5⟩ := (s.right_iff).1 h
  obtain ⟨g, a, l⟩ := s
  simp only at h1 h2 h3 h4 h5
  have l8 := beN_length 8 g
  have l4 := beN_length 4 l.toNat
  have e : superBytes ⟨g, a, l⟩ = [80, 76, 70, 84] ++ (beN 8 g ++ ([UInt8.ofNat a.toNat] ++ (beN 4 l.toNat ++ (beN 4 (longN (superHead ⟨g, a, l⟩)) ++ List.replicate 107 0)))) := by
    simp only [superBytes, superHead, beN_one, List.append_assoc]
  have d4 : (superBytes ⟨g, a, l⟩).drop 4 = beN 8 g ++ ([UInt8.ofNat a.toNat] ++ (beN 4 l.toNat ++ (beN 4 (longN (superHead ⟨g, a, l⟩)) ++ List.replicate 107 0))) := by rw [e]; rfl
  have d12 : (superBytes ⟨g, a, l⟩).drop 12 = [UInt8.ofNat a.toNat] ++ (beN 4 l.toNat ++ (beN 4 (longN (superHead ⟨g, a, l⟩)) ++ List.replicate 107 0)) := by
    rw [show 12 = 4 + 8 from rfl, ← List.drop_drop, d4, List.drop_append, List.drop_eq_nil_of_le (by omega), l8]; rfl
  have d13 : (superBytes ⟨g, a, l⟩).drop 13 = beN 4 l.toNat ++ (beN 4 (longN (superHead ⟨g, a, l⟩)) ++ List.replicate 107 0) := by
    rw [show 13 = 12 + 1 from rfl, ← List.drop_drop, d12]; rfl
  have ha : (UInt8.ofNat a.toNat).toNat = a.toNat := by
    rw [UInt8.toNat_ofNat']; omega
  unfold unsuper
  rw [d4, d12, d13, List.take_append_of_le_length (by omega), List.take_of_length_le (by omega), List.take_append_of_le_length (by omega), List.take_of_length_le (by omega), unbe_beN 8 g (by omega), unbe_beN 4 _ (by omega)]
  simp only [List.headD_cons, List.singleton_append, SU.mk.injEq, true_and]
  rw [ha]
  omega
theorem readS_super {s : SU} (h : s.right = true) : readS (superBytes s) = some s := by
  unfold readS
  rw [unsuper_super h, if_pos ⟨superBytes_length s, h, rfl⟩]
theorem readS_some {xs : List UInt8} {s : SU} (h : readS xs = some s) : s.right = true ∧ superBytes s = xs := by
  unfold readS at h
  split at h
  · rename_i hc
    injection h with h
    subst h
    exact hc.2
  · cases h
theorem superHead_take (s : SU) : (superBytes s).take 17 = superHead s := by
  unfold superBytes
  rw [List.take_append_of_le_length (by rw [superHead_length]; omega), List.take_of_length_le (by rw [superHead_length]; omega)]
theorem superSum_take (s : SU) : ((superBytes s).drop 17).take 4 = beN 4 (longN (superHead s)) := by
  unfold superBytes
  rw [List.drop_append, List.drop_eq_nil_of_le (by rw [superHead_length]; omega), superHead_length, List.nil_append, Nat.sub_self, List.drop_zero, List.take_append_of_le_length (by rw [beN_length]; omega), List.take_of_length_le (by rw [beN_length]; omega)]
/-- bits turned within 32 side by side, in the first 17 bytes: it is none. -/
theorem super_turned (s : SU) (C : List UInt8) (at_ by_ : Nat) (hC : C.length = 17) (hn : numOf8 C = numOf8 (superHead s) ^^^ (2 ^ at_ * by_)) (hat : at_ + 32 ≤ 136) (hb0 : by_ ≠ 0) (hb : by_ < 4294967296) :
    readS (C ++ (superBytes s).drop 17) = none := by
  rcases hr : readS (C ++ (superBytes s).drop 17) with _ | t
  · rfl
  · exfalso
    obtain ⟨_, ht⟩ := readS_some hr
    have e1 : superHead t = C := by
      rw [← superHead_take, ht, List.take_append_of_le_length (by omega), List.take_of_length_le (by omega)]
    have e2 : beN 4 (longN (superHead t)) = beN 4 (longN (superHead s)) := by
      rw [← superSum_take, ← superSum_take, ht, List.drop_append, List.drop_eq_nil_of_le (by omega), hC]; simp
    have e3 : longN (superHead t) = longN (superHead s) := by
      have := congrArg unbe e2
      rwa [unbe_beN 4 _ (longN_lt _), unbe_beN 4 _ (longN_lt _)] at this
    have h := burst 2197175160 31 4294967295 at_ by_ (by omega) (by omega) (superHead s) C (by rw [hC, superHead_length]) hn (by rw [superHead_length]; omega) hb hb0
    have a1 := runN_lt 2197175160 32 (by omega) (by omega) (superHead s) 4294967295 (by omega)
    have a2 := runN_lt 2197175160 32 (by omega) (by omega) C 4294967295 (by omega)
    rw [e1] at e3
    unfold longN at e3
    omega
/-- a byte behind the sum that is no nought: it is none. -/
theorem super_pad (s : SU) (p : Nat) (hp : p < 107) : readS ((superBytes s).set (21 + p) 1) = none := by
  rcases hr : readS ((superBytes s).set (21 + p) 1) with _ | t
  · rfl
  · exfalso
    obtain ⟨_, ht⟩ := readS_some hr
    have h1 : (superBytes t)[21 + p]? = some 0 := by
      unfold superBytes
      rw [List.getElem?_append_right (by rw [superHead_length]; omega), superHead_length, List.getElem?_append_right (by rw [beN_length]; omega), beN_length, List.getElem?_replicate_of_lt (by omega)]
    rw [ht, List.getElem?_set_self (by rw [superBytes_length]; omega)] at h1
    cases h1
theorem readS_zero : readS (List.replicate 128 0) = none := by
  rcases hr : readS (List.replicate 128 0) with _ | t
  · rfl
  · exfalso
    obtain ⟨_, ht⟩ := readS_some hr
    have h1 : (superBytes t)[0]? = some 80 := rfl
    rw [ht] at h1
    cases h1

/-- a sector's super, if its slot is k. -/
def slotS (k : Nat) (xs : List UInt8) : Option SU := match readS xs with
  | some s => if s.gen % 2 = k then some s else none
  | none => none
/-- the newest of two slots. -/
def newestS (a b : List UInt8) : Option SU := match slotS 0 a, slotS 1 b with
  | some x, some y => if x.gen < y.gen then some y else some x
  | some x, none => some x
  | none, o => o
theorem slotS_super {s : SU} (h : s.right = true) (k : Nat) (hk : s.gen % 2 = k) : slotS k (superBytes s) = some s := by
  unfold slotS; rw [readS_super h]; simp [hk]
theorem slotS_right {xs : List UInt8} {k : Nat} {s : SU} (h : slotS k xs = some s) : s.right = true ∧ superBytes s = xs ∧ s.gen % 2 = k := by
  unfold slotS at h
  split at h
  · rename_i t ht
    split at h
    · injection h with h; subst h
      exact ⟨(readS_some ht).1, (readS_some ht).2, by assumption⟩
    · cases h
  · cases h
end Go.Proofs.Ytnnhklembdaieaa
