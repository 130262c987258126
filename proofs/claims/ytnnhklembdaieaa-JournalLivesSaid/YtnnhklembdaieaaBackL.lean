/- AreaBack: the plain law: what is got of both halves. -/
import Derived.Test.YtnnhklembdaieaaAreaE
namespace Go.Proofs.Ytnnhklembdaieaa
open Go.RowKit
set_option linter.unusedSimpArgs false
set_option linter.unusedVariables false

theorem ext_getD {a b : List UInt8} (hl : a.length = b.length) (h : ∀ j, j < a.length → a.getD j 0 = b.getD j 0) : a = b := by
  apply List.ext_getElem hl
  intro j h1 h2
  have := h j h1
  rwa [List.getD_eq_getElem?_getD, List.getD_eq_getElem?_getD, List.getElem?_eq_getElem h1, List.getElem?_eq_getElem h2] at this
theorem seg_getD (s : DSt) (q n j : Nat) (h : j < n) : (s.seg q n).getD j 0 = s.byteAt (q + j) := by
  rw [List.getD_eq_getElem?_getD, List.getElem?_eq_getElem (by rw [seg_length]; exact h), Option.getD_some, seg_at]
theorem pad_getD (m : Nat) (xs : List UInt8) (hx : xs.length ≤ m) (j : Nat) : (pad m xs).getD j 0 = xs.getD j 0 := by
  unfold pad
  simp only [List.getD_eq_getElem?_getD]
  rw [List.take_of_length_le hx]
  by_cases h : j < xs.length
  · rw [List.getElem?_append_left h]
  · rw [List.getElem?_append_right (by omega), List.getElem?_eq_none (l := xs) (by omega), List.getElem?_replicate]
    split <;> rfl
theorem new_byteAt (n p : Nat) : (DSt.new n).byteAt p = 0 := by
  unfold DSt.byteAt DSt.read DSt.new
  simp only [readAt, List.foldl_nil, List.getD_eq_getElem?_getD, List.getElem?_replicate, zsec]
  split
  · simp only [Option.getD_some, List.getElem?_replicate]; split <;> rfl
  · rfl

def bk1 (la : List UInt8) : DSt := (DSt.new 12).put (2 * 128 + 0) la
def bk2 (la : List UInt8) : DSt := (bk1 la).put (7 * 128 + 0) la
def bk3 (la : List UInt8) (at_ : Nat) (lb : List UInt8) : DSt := (bk2 la).put (2 * 128 + at_) lb
section
variable {la lb : List UInt8} {at_ : Nat}
theorem bk0_l : (DSt.new 12).l.length = 12 := by simp [DSt.new]
theorem bk1_l : (bk1 la).l.length = 12 := by unfold bk1; rw [put_l]; exact bk0_l
theorem bk2_l : (bk2 la).l.length = 12 := by unfold bk2; rw [put_l]; exact bk1_l
theorem bk3_l : (bk3 la at_ lb).l.length = 12 := by unfold bk3; rw [put_l]; exact bk2_l
theorem bk1_ok (ha : la.length ≤ 640) : (bk1 la).Ok ∧ (bk1 la).waits.length ≤ 640 ∧ (bk1 la).writes ≤ 640 := by
  obtain ⟨h1, h2, h3⟩ := put_Ok (s := DSt.new 12) (DSt.new_ok 12 (by omega)) (2 * 128 + 0) la (by rw [bk0_l]; omega) (by simp [DSt.new]; omega)
  exact ⟨h1, by simp [DSt.new] at h2; unfold bk1; simp [DSt.new]; omega, by simp [DSt.new] at h3; unfold bk1; simp [DSt.new]; omega⟩
theorem bk2_ok (ha : la.length ≤ 640) : (bk2 la).Ok ∧ (bk2 la).waits.length ≤ 1280 ∧ (bk2 la).writes ≤ 1280 := by
  obtain ⟨h0, h01, h02⟩ := bk1_ok ha
  obtain ⟨h1, h2, h3⟩ := put_Ok h0 (7 * 128 + 0) la (by rw [bk1_l]; omega) (by omega)
  exact ⟨h1, by unfold bk2; omega, by unfold bk2; omega⟩
theorem bk3_ok (ha : la.length ≤ 640) (hat : at_ + lb.length ≤ 640) : (bk3 la at_ lb).Ok ∧ (bk3 la at_ lb).waits.length ≤ 1920 ∧ (bk3 la at_ lb).writes ≤ 1920 := by
  obtain ⟨h0, h01, h02⟩ := bk2_ok ha
  obtain ⟨h1, h2, h3⟩ := put_Ok h0 (2 * 128 + at_) lb (by rw [bk2_l]; omega) (by omega)
  exact ⟨h1, by unfold bk3; omega, by unfold bk3; omega⟩
theorem bk2_at (ha : la.length ≤ 640) (p : Nat) : (bk2 la).byteAt p = if 896 ≤ p ∧ p < 896 + la.length then la.getD (p - 896) 0 else if 256 ≤ p ∧ p < 256 + la.length then la.getD (p - 256) 0 else 0 := by
  obtain ⟨h0, h01, h02⟩ := bk1_ok ha
  unfold bk2
  rw [put_byteAt h0 _ _ (by rw [bk1_l]; omega) (by omega)]
  unfold bk1
  rw [put_byteAt (DSt.new_ok 12 (by omega)) _ _ (by rw [bk0_l]; omega) (by simp [DSt.new]; omega), new_byteAt]
theorem bk2_p (ha : la.length ≤ 640) : (bk2 la).seg (2 * 128 + 0) 640 = pad 640 la := by
  apply ext_getD
  · rw [seg_length, pad_length]
  · intro j hj
    rw [seg_length] at hj
    rw [seg_getD _ _ _ _ hj, pad_getD _ _ ha, bk2_at ha, if_neg (by omega)]
    by_cases h : j < la.length
    · rw [if_pos (by omega), show 2 * 128 + 0 + j - 256 = j by omega]
    · rw [if_neg (by omega), List.getD_eq_getElem?_getD, List.getElem?_eq_none (by omega)]; rfl
theorem bk2_q (ha : la.length ≤ 640) : (bk2 la).seg (7 * 128 + 0) 640 = pad 640 la := by
  apply ext_getD
  · rw [seg_length, pad_length]
  · intro j hj
    rw [seg_length] at hj
    rw [seg_getD _ _ _ _ hj, pad_getD _ _ ha, bk2_at ha]
    by_cases h : j < la.length
    · rw [if_pos (by omega), show 7 * 128 + 0 + j - 896 = j by omega]
    · rw [if_neg (by omega), if_neg (by omega), List.getD_eq_getElem?_getD, List.getElem?_eq_none (by omega)]; rfl
theorem bk3_p (ha : la.length ≤ 640) (hat : at_ + lb.length ≤ 640) : (bk3 la at_ lb).seg (2 * 128 + 0) 640 = over (pad 640 la) at_ lb := by
  obtain ⟨h0, h01, h02⟩ := bk2_ok ha
  have hp := bk2_p ha
  apply ext_getD
  · rw [seg_length, over_length _ _ _ (by rw [pad_length]; exact hat), pad_length]
  · intro j hj
    rw [seg_length] at hj
    rw [seg_getD _ _ _ _ hj, over_getD _ _ _ (by rw [pad_length]; exact hat), ← hp, seg_getD _ _ _ _ hj]
    unfold bk3
    rw [put_byteAt h0 _ _ (by rw [bk2_l]; omega) (by omega)]
    by_cases h : at_ ≤ j ∧ j < at_ + lb.length
    · rw [if_pos (by omega), if_pos h, show 2 * 128 + 0 + j - (2 * 128 + at_) = j - at_ by omega]
    · rw [if_neg (by omega), if_neg h]
theorem bk3_q (ha : la.length ≤ 640) (hat : at_ + lb.length ≤ 640) : (bk3 la at_ lb).seg (7 * 128 + 0) 640 = pad 640 la := by
  obtain ⟨h0, h01, h02⟩ := bk2_ok ha
  have hp := bk2_q ha
  apply ext_getD
  · rw [seg_length, pad_length]
  · intro j hj
    rw [seg_length] at hj
    rw [seg_getD _ _ _ _ hj, ← hp, seg_getD _ _ _ _ hj]
    unfold bk3
    rw [put_byteAt h0 _ _ (by rw [bk2_l]; omega) (by omega), if_neg (by omega)]
end
theorem over_step (x : List UInt8) (r k : Nat) (b : List UInt8) (hk : k < b.length) (h : r + b.length ≤ x.length) : (bvs (over x r (b.take k))).set (r + k) (bv b[k]) = bvs (over x r (b.take (k + 1))) := by
  have e : (bvs (over x r (b.take k))).set (r + k) (bv b[k]) = bvs ((over x r (b.take k)).set (r + k) b[k]) := by unfold bvs; rw [List.map_set]
  rw [e]
  congr 1
  have l1 : (b.take k).length = k := by simp; omega
  have l2 : (b.take (k + 1)).length = k + 1 := by simp; omega
  apply ext_getD
  · rw [List.length_set, over_length _ _ _ (by rw [l1]; omega), over_length _ _ _ (by rw [l2]; omega)]
  · intro j hj
    rw [List.length_set, over_length _ _ _ (by rw [l1]; omega)] at hj
    rw [over_getD _ _ _ (by rw [l2]; omega), l2, List.getD_eq_getElem?_getD, List.getElem?_set]
    by_cases h1 : r + k = j
    · rw [if_pos h1, if_pos (by rw [over_length _ _ _ (by rw [l1]; omega)]; omega), if_pos (by omega), List.getD_eq_getElem?_getD, List.getElem?_take_of_lt (by omega), show j - r = k by omega, List.getElem?_eq_getElem hk]
    · rw [if_neg h1, ← List.getD_eq_getElem?_getD, over_getD _ _ _ (by rw [l1]; omega), l1]
      by_cases h2 : r ≤ j ∧ j < r + k
      · rw [if_pos h2, if_pos (by omega)]
        simp only [List.getD_eq_getElem?_getD]
        rw [List.getElem?_take_of_lt (by omega), List.getElem?_take_of_lt (by omega)]
      · rw [if_neg h2, if_neg (by omega)]
end Go.Proofs.Ytnnhklembdaieaa
