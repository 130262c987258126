/- SuperFollows: the plain law. -/
import Derived.Test.YtnnhklembdaieaaAlive12
namespace Go.Proofs.Ytnnhklembdaieaa
open Go.RowKit
set_option linter.unusedSimpArgs false
set_option linter.unusedVariables false

theorem newest_both {s t : SU} (hs : s.right = true) (ht : t.right = true) (hg : t.gen = s.gen + 1) (D : DSt) (h1 : D.read (s.gen % 2) = superBytes s) (h2 : D.read (t.gen % 2) = superBytes t) : newestS (D.read 0) (D.read 1) = some t := by
  rcases (show s.gen % 2 = 0 ∨ s.gen % 2 = 1 by omega) with h | h
  · have h' : t.gen % 2 = 1 := by omega
    rw [h] at h1
    rw [h'] at h2
    rw [h1, h2, newestS_two (slotS_super hs 0 h) (slotS_super ht 1 h'), if_pos (by omega)]
  · have h' : t.gen % 2 = 0 := by omega
    rw [h] at h1
    rw [h'] at h2
    rw [h1, h2, newestS_two (slotS_super ht 0 h') (slotS_super hs 1 h), if_neg (by omega)]
theorem newest_one {s t : SU} (hs : s.right = true) (hg : t.gen = s.gen + 1) (D : DSt) (h1 : D.read (s.gen % 2) = superBytes s) (h2 : D.read (t.gen % 2) = zsec) : newestS (D.read 0) (D.read 1) = some s := by
  rcases (show s.gen % 2 = 0 ∨ s.gen % 2 = 1 by omega) with h | h
  · have h' : t.gen % 2 = 1 := by omega
    rw [h] at h1
    rw [h'] at h2
    rw [h1, h2]
    unfold newestS
    rw [slotS_super hs 0 h, slotS_zero]
  · have h' : t.gen % 2 = 0 := by omega
    rw [h] at h1
    rw [h'] at h2
    rw [h1, h2]
    unfold newestS
    rw [slotS_super hs 1 h, slotS_zero]

def fo2 (i : Nat) (X : List UInt8) : DSt := ((DSt.new 4).write i X).sync
def fo4 (i : Nat) (X : List UInt8) (j : Nat) (Y : List UInt8) (keep : Bool) : DSt := ((fo2 i X).write j Y).crash [keep]
def fo7 (i : Nat) (X : List UInt8) (j : Nat) (Y : List UInt8) (keep : Bool) : DSt := (((fo4 i X j Y keep).write j Y).sync).crash []
section
variable {i j : Nat} {X Y : List UInt8} {keep : Bool}
theorem fo2_l : (fo2 i X).l = (List.replicate 4 zsec).set i X := by simp [fo2, DSt.new, DSt.write, DSt.sync, doneAll]
theorem fo4_l : (fo4 i X j Y keep).l = if keep then ((List.replicate 4 zsec).set i X).set j Y else (List.replicate 4 zsec).set i X := by
  have h : (fo2 i X).waits = [] := rfl
  simp [fo4, DSt.crash, DSt.write, h, doneKeep, fo2_l]
theorem fo7_l : (fo7 i X j Y keep).l = ((fo4 i X j Y keep).l).set j Y := by
  have h : (fo4 i X j Y keep).waits = [] := rfl
  simp [fo7, DSt.crash, DSt.write, DSt.sync, h, doneKeep, doneAll]
theorem fo4_read (k : Nat) : (fo4 i X j Y keep).read k = (fo4 i X j Y keep).l.getD k [] := rfl
theorem fo7_read (k : Nat) : (fo7 i X j Y keep).read k = (fo7 i X j Y keep).l.getD k [] := rfl
theorem fo4_i (hi : i < 4) (hij : i ≠ j) : (fo4 i X j Y keep).read i = X := by
  rw [fo4_read, fo4_l]
  cases keep <;> simp [List.getD_eq_getElem?_getD, List.getElem?_set, hi, Ne.symm hij]
theorem fo4_j1 (hj : j < 4) : (fo4 i X j Y true).read j = Y := by
  rw [fo4_read, fo4_l]
  simp [List.getD_eq_getElem?_getD, List.getElem?_set, hj]
theorem fo4_j0 (hj : j < 4) (hij : i ≠ j) : (fo4 i X j Y false).read j = zsec := by
  rw [fo4_read, fo4_l]
  simp only [Bool.false_eq_true, if_false]
  rw [List.getD_eq_getElem?_getD, List.getElem?_set_ne hij, List.getElem?_replicate, if_pos hj]
  rfl
theorem fo7_i (hi : i < 4) (hij : i ≠ j) : (fo7 i X j Y keep).read i = X := by
  rw [fo7_read, fo7_l, fo4_l]
  cases keep <;> simp [List.getD_eq_getElem?_getD, List.getElem?_set, hi, Ne.symm hij]
theorem fo7_j (hj : j < 4) : (fo7 i X j Y keep).read j = Y := by
  rw [fo7_read, fo7_l, fo4_l]
  cases keep <;> simp [List.getD_eq_getElem?_getD, List.getElem?_set, hj]
theorem fo2_len : (fo2 i X).l.length = 4 := by rw [fo2_l]; simp
theorem fo4_len : (fo4 i X j Y keep).l.length = 4 := by rw [fo4_l]; cases keep <;> simp
theorem fo7_len : (fo7 i X j Y keep).l.length = 4 := by rw [fo7_l]; simp [fo4_len]
end
end Go.Proofs.Ytnnhklembdaieaa
