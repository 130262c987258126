/- The sums' fixed calls; SumsTell. -/
import Derived.Test.YtnnhklembdaieaaSumD
import Derived.Test.YtnnhklembdaieaaAlive11
import Derived.Deep.CutRange
import Derived.Deep.CutBlock
namespace Go.Proofs.Ytnnhklembdaieaa
open Go.RowKit
set_option linter.unusedSimpArgs false
set_option linter.unusedVariables false

def ctZ : List Value := .int .u32 (ctW false) :: .int .i32 0 :: .int .u32 0 :: (ctTab false ++ [.int .i64 ((0 : Nat) : Int)])
theorem info78 : (Try.prog.info? 78).map (fun i => (i.size, i.bytes, i.zero.map (·.cells.toList))) = some (260, 1048, some ctZ) := by kernel_rfl
theorem zc78 : Try.zeroCells78 = ctZ.toArray := by kernel_rfl
theorem ct_new (w : World) : CtAt (w.alloc (.cells Try.zeroCells78 78)) w.heap.size false 0 := by
  rw [zc78]; exact Blk.new w 78 ctZ.toArray
def nine : List UInt8 := [49, 50, 51, 52, 53, 54, 55, 56, 57]
theorem shortNine : shortN nine = 36974 := by kernel_rfl
theorem longNine : longN nine = 3808858755 := by kernel_rfl

set_option maxRecDepth 100000 in
set_option maxHeartbeats 1600000 in
theorem alive01 (w : World) : Calls Try.prog 38 #[] w fun e w' => e = .returned (.bool true) ∧ Below w.heap.size w w' := by
  have kc := fun (w : World) (C : Array Value) (n c : Nat) => Lib.run_convert_bytes_const (P := Try.prog) w 28 5 C n c Try.underlying28 Try.underlying5
  have S1 := hide shortNine
  have S2 := hide longNine
  have h1 := ct_new w
  have b1 : Below w.heap.size w (w.alloc (.cells Try.zeroCells78 78)) := (Below.refl _ w).alloc (Nat.le_refl _) _
  go_enter Try.func38, Try.ntmps38
  go_upto_region 2 with fail
  obtain ⟨w1, hw1⟩ : ∃ w1, w1 = w.alloc (.cells Try.zeroCells78 78) := ⟨_, rfl⟩
  obtain ⟨b, hb⟩ : ∃ b, b = w.heap.size := ⟨_, rfl⟩
  rw [← hw1] at h1 b1 ⊢
  rw [← hb] at h1 ⊢
  have HB := hide hb
  clear hw1 hb
  have hcl := h1.asked
  have hbl : b < w1.heap.size := Blk.lt h1
  have H1 := hide h1
  clear h1 hcl
  go_wp2_with fail
  have hS : SlAt (w1.alloc (.cells #[.int .u8 49, .int .u8 50, .int .u8 51, .int .u8 52, .int .u8 53, .int .u8 54, .int .u8 55, .int .u8 56, .int .u8 57] 5 (9, 10))) (some ⟨w1.heap.size, 0, none⟩) 9 (bvs nine) :=
    ⟨rfl, fun _ => ⟨w1.heap.size, 0, rfl, by simp, fun j v hv => by rw [Nat.zero_add, World.cell?_alloc_mark]; simpa [bvs, bv, nine] using hv⟩⟩
  have b2 : Below w1.heap.size w1 (w1.alloc (.cells #[.int .u8 49, .int .u8 50, .int .u8 51, .int .u8 52, .int .u8 53, .int .u8 54, .int .u8 55, .int .u8 56, .int .u8 57] 5 (9, 10))) := (Below.refl _ w1).alloc (Nat.le_refl _) _
  have H2 := hide (Blk.below H1.out b2 hbl : CtAt _ b false 0)
  obtain ⟨w2, hw2⟩ : ∃ w2, w2 = w1.alloc (.cells #[.int .u8 49, .int .u8 50, .int .u8 51, .int .u8 52, .int .u8 53, .int .u8 54, .int .u8 55, .int .u8 56, .int .u8 57] 5 (9, 10)) := ⟨_, rfl⟩
  have b12 := b1.trans (b2.mono b1.size)
  rw [← hw2] at hS H2 b12 ⊢
  have HBL : w1.heap.size ≠ b := by omega
  have HS := hide hS
  have HB12 := hide b12
  clear hw2 b2 b1 hS b12 H1
  refine (short_ok _ 9 9 nine w2 HS.out (by omega)).mono ?_
  rintro e w3 ⟨rfl, rfl⟩
  rw [S1.out]
  go_wp2_with fail
  refine (long_ok _ 9 9 nine w2 HS.out (by omega)).mono ?_
  rintro e w3 ⟨rfl, rfl⟩
  rw [S2.out]
  go_wp2_with fail
  refine (cLong_ok w2 b 0 false H2.out (by omega) _ 9 9 nine HS.out (by omega) (fun a ha _ e => by injection ha with ha; rw [← ha] at e; exact HBL e)).mono ?_
  rintro e w3 ⟨rfl, h3, f3⟩
  rw [S2.out]
  have H3 := hide (And.intro h3 f3)
  clear h3 f3
  go_wp2_with fail
  refine (asked_ok w3 b 1 true H3.out.1).mono ?_
  rintro e w4 ⟨rfl, rfl⟩
  go_wp2
  go_ret
  exact ⟨rfl, HB12.out.trans (H3.out.2.below HB12.out.size (fun k hk => by have := HB.out; omega))⟩
end Go.Proofs.Ytnnhklembdaieaa
