/- The super's sector: Write, Read. -/
import Derived.Test.YtnnhklembdaieaaSuperA
namespace Go.Proofs.Ytnnhklembdaieaa
open Go.RowKit
set_option linter.unusedSimpArgs false
set_option linter.unusedVariables false

theorem swrite_no (s : SU) (h : s.right = false) (w : World) : Calls Try.prog 73 #[superV s] w fun e w' => e = .returned (.tuple #[.slice none 0 0, .int .i64 3]) ∧ Below w.heap.size w w' := by
  have b1 : Below w.heap.size w (w.alloc (.cells #[.int .u64 (s.gen : Int), .int .i64 s.area, .int .i64 s.len] 115)) := (Below.refl _ _).alloc (Nat.le_refl _) _
  have hr := sRight_ok s (w.alloc (.cells #[.int .u64 (s.gen : Int), .int .i64 s.area, .int .i64 s.len] 115))
  rw [h] at hr
  clear h
  unfold superV at hr ⊢
  go_enter Try.func73, Try.ntmps73
  go_wp2_with (go_at_call 76; refine hr.mono ?_; rintro e w1 ⟨rfl, h1⟩)
  go_ret2
  exact ⟨rfl, b1.trans (h1.mono (by simp))⟩

set_option maxRecDepth 100000 in
set_option maxHeartbeats 1600000 in
theorem swrite_ok (g a l : Nat) (h1 : 1 ≤ g) (h2 : g ≤ 1099511627776) (h3 : a ≤ 1) (h4 : l ≤ 1048576) (w : World) :
    Calls Try.prog 73 #[.agg #[.int .u64 (g : Int), .int .i64 (a : Int), .int .i64 (l : Int)]] w fun e w' => ∃ A cap, e = .returned (.tuple #[.slice A 128 cap, .int .i64 0]) ∧ w'.ownsRow w.heap.size 5 1 (.slice A 128 cap) 128 (bvs (superBytes ⟨g, a, l⟩)) ∧ Below w.heap.size w w' := by
  obtain ⟨i0, hi0, hz0, hss0, hb0⟩ := info_parts info5'
  have kc := fun (w : World) (C : Array Value) (n c : Nat) => Lib.run_convert_bytes_const (P := Try.prog) w 28 5 C n c Try.underlying28 Try.underlying5
  have b1 : Below w.heap.size w (w.alloc (.cells #[.int .u64 (g : Int), .int .i64 (a : Int), .int .i64 (l : Int)] 115)) := (Below.refl _ _).alloc (Nat.le_refl _) _
  have hbl := Blk.new w 115 #[.int .u64 (g : Int), .int .i64 (a : Int), .int .i64 (l : Int)]
  have hr := sRight_ok ⟨g, a, l⟩ (w.alloc (.cells #[.int .u64 (g : Int), .int .i64 (a : Int), .int .i64 (l : Int)] 115))
  rw [(SU.right_iff ⟨g, (a : Int), (l : Int)⟩).2 ⟨h1, h2, by simp only; omega, by simp only; omega, by simp only; omega⟩] at hr
  unfold superV at hr
  simp only at hr
  have hg64 : g < 18446744073709551616 := by omega
  go_enter Try.func73, Try.ntmps73
  go_wp2_with (go_at_call 76; refine hr.mono ?_; rintro e w2 ⟨rfl, hb2⟩; have k2 := hbl.below hb2 hbl.lt; have c0 := k2.cell 0; have c1 := k2.cell 1; have c2 := k2.cell 2; simp at c0 c1 c2; have d0 : (w2.alloc (.cells #[.int .u8 80, .int .u8 76, .int .u8 70, .int .u8 84] 5 (4, 5))).cell? ⟨w.heap.size, 0, none⟩ = some (.int .u64 (g : Int)) := (World.cell?_alloc_lt _ _ _ k2.lt).trans c0)
  have b2 := b1.trans (hb2.mono (by simp))
  clear hr hbl hb2 b1
  have hs3 : SlAt (w2.alloc (.cells #[.int .u8 80, .int .u8 76, .int .u8 70, .int .u8 84] 5 (4, 5))) (some ⟨w2.heap.size, 0, none⟩) 4 (bvs [80, 76, 70, 84]) := SlAt.mark w2 (bvs [80, 76, 70, 84]) 5 (4, 5) 4 rfl
  refine (sput_full _ _ 4 [80, 76, 70, 84] hs3 (by omega) (by omega) g 8 hg64 (by omega) (by omega)).mono ?_
  rintro e w3 ⟨v3, rfl, ho3, b3⟩
  have k3 := (k2.alloc (.cells #[.int .u8 80, .int .u8 76, .int .u8 70, .int .u8 84] 5 (4, 5))).below b3 (Blk.lt (k2.alloc _))
  have b3' := (b2.alloc b2.size (.cells #[.int .u8 80, .int .u8 76, .int .u8 70, .int .u8 84] 5 (4, 5))).trans (b3.mono (by have := b2.size; simp; omega))
  have ho3' : w3.ownsRow w.heap.size 5 1 v3 12 (bvs ([80, 76, 70, 84] ++ beN 8 g)) := own_base ho3 (by have := b2.size; simp; omega)
  clear hs3 kc ho3 b3 k2 b2 c0 c1 c2 d0
  have c0 := k3.cell 0
  have c1 := k3.cell 1
  have c2 := k3.cell 2
  simp at c0 c1 c2
  have HO := hide ho3'
  clear ho3'
  go_wp2_with (at_builtin; refine wpList_append_own_at _ rfl _ _ 28 rfl w.heap.size 5 i0 _ 1 1 Try.underlying28 hi0 hz0 hss0 hb0 rfl (by omega) v3 12 _ rfl (HO.out.alloc _) ⟨w3.heap.size, 0, none⟩ 1 1 [_] rfl rfl (cell_one_new _ _ _) (by simp [Value.oneCell']) (by unfold maxLen; omega) (by omega) ?_ ?_; (have := b3'.size; simp; omega); intro v4 w4 ho4 hgr4 _ hat4; have k4 := k3.app HO.out (by decide) hgr4; have c4 := k4.cell 2; simp at c4)
  have b4 : Below w.heap.size w w4 := below_app b3' b3'.size HO.out hgr4
  have ho4' : w4.ownsRow w.heap.size 5 1 v4 13 (bvs ([80, 76, 70, 84] ++ (beN 8 g ++ beN 1 a))) := by
    have e : bvs ([80, 76, 70, 84] ++ beN 8 g) ++ [Value.int .u8 (a : Int)] = bvs ([80, 76, 70, 84] ++ (beN 8 g ++ beN 1 a)) := by
      rw [← List.append_assoc, bvs_append _ (beN 1 a), beN_one]
      congr 1
      simp only [bvs, List.map_cons, List.map_nil, bv, UInt8.toNat_ofNat', List.cons.injEq, Value.int.injEq, true_and, and_true]
      omega
    rw [← e]
    exact ho4
  clear ho4 hgr4 hat4 HO k3 b3' c0 c1 c2
  have HO := hide ho4'
  clear ho4'
  refine (sput_own w4 w.heap.size b4.size v4 13 _ HO.out (by omega) l 4 (by omega) (by omega) (by omega)).mono ?_
  rintro e w5 ⟨v5, rfl, ho5, f5, ow5⟩
  have b5 : Below w.heap.size w w5 := b4.trans (f5.below b4.size (fun k hk => (HO.out.lt k hk).1))
  have hhead : bvs ([80, 76, 70, 84] ++ (beN 8 g ++ beN 1 a) ++ beN 4 l) = bvs (superHead ⟨g, a, l⟩) := by
    simp only [superHead, Int.toNat_natCast, List.append_assoc]
  have ho5' : w5.ownsRow w.heap.size 5 1 v5 17 (bvs (superHead ⟨g, a, l⟩)) := by rw [← hhead]; exact ho5
  obtain ⟨A5, cap5, rfl, _, _, _⟩ := own_shape ho5'
  have s5 := sl_own ho5'
  clear ho5 hhead HO f5 ow5 k4 c4 b4
  have HO := hide ho5'
  have HS := hide s5
  obtain ⟨H, hH⟩ : ∃ H, H = superHead ⟨g, a, l⟩ := ⟨_, rfl⟩
  rw [← hH] at HO HS
  have hHl : H.length = 17 := by rw [hH]; exact superHead_length _
  have HH := hide (And.intro hH hHl)
  have hlong := longN_lt H
  clear ho5' s5 hH hHl
  go_wp2_with fail
  refine (long_ok A5 17 cap5 H w5 HS.out (by omega)).mono ?_
  rintro e w6 ⟨rfl, rfl⟩
  go_wp2_with fail
  refine (sput_own w5 w.heap.size b5.size _ 17 _ HO.out (by omega) (longN H) 4 (by omega) (by omega) (by omega)).mono ?_
  rintro e w6 ⟨v6, rfl, ho6, f6, ow6⟩
  have b6 : Below w.heap.size w w6 := b5.trans (f6.below b5.size (fun k hk => (HO.out.lt k hk).1))
  have ho6' : w6.ownsRow w.heap.size 5 1 v6 21 (bvs (H ++ beN 4 (longN H))) := ho6
  obtain ⟨A6, cap6, rfl, _, _, _⟩ := own_shape ho6'
  clear ho6 f6 ow6 HO HS b5
  have HO := hide ho6'
  clear ho6'
  go_wp2_with (at_builtin; refine wpList_append_zeros rfl _ _ 28 3 rfl w.heap.size 5 i0 _ 1 Try.underlying28 Try.underlying3 hi0 hz0 hss0 hb0 rfl rfl _ 21 _ rfl HO.out (by omega) 107 rfl (by omega) (by unfold maxLen; omega) (by omega) b6.size ?_; intro v7 w7 ho7 hgr7)
  have ho7' : w7.ownsRow w.heap.size 5 1 v7 128 (bvs (superBytes ⟨g, a, l⟩)) := by
    have e : bvs (H ++ beN 4 (longN H)) ++ List.replicate 107 (Value.int .u8 0) = bvs (superBytes ⟨g, a, l⟩) := by
      rw [HH.out.1]
      simp only [superBytes, ← List.append_assoc]
      rw [bvs_append _ (List.replicate 107 0)]
      congr 1
    rw [← e]
    exact ho7
  have b7 : Below w.heap.size w w7 := b6.grown hgr7 b6.size (fun k hk => (HO.out.lt k hk).1)
  obtain ⟨A7, cap7, rfl, _, _, _⟩ := own_shape ho7'
  go_ret2
  exact ⟨A7, cap7, rfl, ho7', b7⟩
theorem swriteE (s : SU) (h : s.right = true) (w : World) :
    Calls Try.prog 73 #[superV s] w fun e w' => ∃ A cap, e = .returned (.tuple #[.slice A 128 cap, .int .i64 0]) ∧ w'.ownsRow w.heap.size 5 1 (.slice A 128 cap) 128 (bvs (superBytes s)) ∧ Below w.heap.size w w' := by
  obtain ⟨h1, h2, h3, h4, h5⟩ := (s.right_iff).1 h
  obtain ⟨g, a, l⟩ := s
  simp only at h1 h2 h3 h4 h5
  obtain ⟨a, rfl⟩ := Int.eq_ofNat_of_zero_le (a := a) (by omega)
  obtain ⟨l, rfl⟩ := Int.eq_ofNat_of_zero_le (a := l) (by omega)
  exact swrite_ok g a l h1 h2 (by omega) (by omega) w
end Go.Proofs.Ytnnhklembdaieaa
