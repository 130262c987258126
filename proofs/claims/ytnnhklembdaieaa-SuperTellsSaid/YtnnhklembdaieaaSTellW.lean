/- SuperTells: the walk. -/
import Derived.Test.YtnnhklembdaieaaRefT
import Derived.Test.YtnnhklembdaieaaSBackW
namespace Go.Proofs.Ytnnhklembdaieaa
open Go.RowKit
set_option linter.unusedSimpArgs false
set_option linter.unusedVariables false

set_option maxRecDepth 100000 in
set_option maxHeartbeats 1600000 in
theorem stell_far (w : World) (g : Nat) (a l : Int) (A : Option Addr) (n c : Nat) (hn : n ≤ 9223372036854775807) (h : 300 < n) :
    Calls Try.prog 14 #[.agg #[.int .u64 (g : Int), .int .i64 a, .int .i64 l], .slice A n c] w fun e w' => e = .returned (.bool true) ∧ Below w.heap.size w w' := by
  have h1 : decide ((n : Int) > 300) = true := by simp; omega
  have b1 : Below w.heap.size w (w.alloc (.cells #[.int .u64 (g : Int), .int .i64 a, .int .i64 l] 115)) := (Below.refl _ _).alloc (Nat.le_refl _) _
  clear h
  go_enter Try.func14, Try.ntmps14
  go_wp2_with fail
  refine (alive12 _).mono ?_
  rintro e w2 ⟨rfl, b2⟩
  go_wp2
  go_ret
  exact ⟨rfl, b1.trans (b2.mono (by simp))⟩

set_option maxRecDepth 100000 in
set_option maxHeartbeats 3200000 in
theorem stell_near (w : World) (g : Nat) (a l : Int) (hg : g < 18446744073709551616) (A : Option Addr) (n c : Nat) (xs : List UInt8) (hx : SlAt w A n (bvs xs)) (hnc : n ≤ c) (hn : n ≤ 300) :
    Calls Try.prog 14 #[.agg #[.int .u64 (g : Int), .int .i64 a, .int .i64 l], .slice A n c] w fun e w' => e = .returned (.bool true) ∧ Below w.heap.size w w' := by
  have h1 : decide ((n : Int) > 300) = false := by simp; omega
  have k1 := Blk.new w 115 #[.int .u64 (g : Int), .int .i64 a, .int .i64 l]
  have b1 : Below w.heap.size w (w.alloc (.cells #[.int .u64 (g : Int), .int .i64 a, .int .i64 l] 115)) := (Below.refl _ _).alloc (Nat.le_refl _) _
  have xl : xs.length = n := by have := hx.1; rwa [bvs_length] at this
  have HXL := hide xl
  clear xl
  have hAs : ∀ w, Calls Try.prog 72 #[.agg #[.int .u64 (g : Int), .int .i64 a, .int .i64 l]] w fun e w' => e = .returned (.agg #[.int .u64 (g : Int), .int .i64 a, .int .i64 l]) ∧ Below w.heap.size w w' := fun w => as_ok ⟨g, a, l⟩ w
  go_enter Try.func14, Try.ntmps14
  go_upto_region 3 with fail
  obtain ⟨w1, hw1⟩ : ∃ w1, w1 = w.alloc (.cells #[.int .u64 (g : Int), .int .i64 a, .int .i64 l] 115) := ⟨_, rfl⟩
  obtain ⟨g2, hg2⟩ : ∃ g2, g2 = w.heap.size := ⟨_, rfl⟩
  rw [← hw1] at k1 b1 ⊢
  rw [← hg2] at k1 ⊢
  have HG2 := hide hg2
  clear hw1 hg2
  have c0 := k1.cell 0
  have c1 := k1.cell 1
  have c2 := k1.cell 2
  simp at c0 c1 c2
  go_wp2_with fail
  refine (hAs _).mono ?_
  rintro e w2 ⟨rfl, b2⟩
  have k2 := (k1.below b2 k1.lt).alloc (.cells #[.int .u64 (g : Int), .int .i64 a, .int .i64 l] 105)
  have k5 := Blk.new w2 105 #[.int .u64 (g : Int), .int .i64 a, .int .i64 l]
  have b3 := (b1.trans (b2.mono b1.size)).alloc (by have := b1.size; have := b2.size; omega) (.cells #[.int .u64 (g : Int), .int .i64 a, .int .i64 l] 105)
  go_upto_region 4 with fail
  obtain ⟨w3, hw3⟩ : ∃ w3, w3 = w2.alloc (.cells #[.int .u64 (g : Int), .int .i64 a, .int .i64 l] 105) := ⟨_, rfl⟩
  obtain ⟨g5, hg5⟩ : ∃ g5, g5 = w2.heap.size := ⟨_, rfl⟩
  rw [← hw3] at k2 k5 b3 ⊢
  rw [← hg5] at k5 ⊢
  clear hw3 hg5 c0 c1 c2 k1 b1 b2
  have c0 := k2.cell 0
  have c1 := k2.cell 1
  have c2 := k2.cell 2
  simp at c0 c1 c2
  have hw : Calls Try.prog 73 #[.agg #[.int .u64 (g : Int), .int .i64 a, .int .i64 l]] w3 _ := swriteB ⟨g, a, l⟩ w3
  go_wp2_with fail
  refine hw.mono ?_
  rintro e w4 ⟨cv, ec, rfl, hor, b4⟩
  have k24 := k2.below b4 k2.lt
  have k54 := k5.below b4 k5.lt
  have b4' := b3.trans (b4.mono b3.size)
  have HOR := hide hor
  clear hw c0 c1 c2 b4 hor k2 k5 b3
  obtain ⟨T, fe, ok, hT1, hT2, hfo⟩ : ∃ (T : SU) (fe : Int) (ok : Bool), readRes xs = .tuple #[superV T, .int .i64 fe] ∧ refRes xs = .tuple #[superV T, .bool ok] ∧ ((fe = 0 ∧ ok = true) ∨ (fe = 3 ∧ ok = false)) := by
    rcases hrs : readS xs with _ | t
    · exact ⟨SU.zero, 3, false, readRes_none hrs, refRes_none hrs, .inr ⟨rfl, rfl⟩⟩
    · exact ⟨t, 0, true, readRes_some hrs, refRes_some hrs, .inl ⟨rfl, rfl⟩⟩
  have hsr := sreadE A n c hnc xs w4 (hx.below b4' (Nat.le_refl _))
  have hrr := fun w => rreadE xs (by rw [HXL.out]; omega) w
  rw [hT1] at hsr
  rw [hT2] at hrr
  clear hT1 hT2
  have hAt := fun w => as_ok T w
  obtain ⟨tg, ta, tl⟩ := T
  unfold superV at hsr hrr hAt
  simp only at hsr hrr hAt
  have HAT := hide hAt
  clear hAt
  go_wp2_with fail
  refine hsr.mono ?_
  rintro e w5 ⟨rfl, b5⟩
  have k25 := (k24.below b5 k24.lt).alloc (.cells #[.int .u64 (tg : Int), .int .i64 ta, .int .i64 tl] 115)
  have k55 := (k54.below b5 k54.lt).alloc (.cells #[.int .u64 (tg : Int), .int .i64 ta, .int .i64 tl] 115)
  have k85 := Blk.new w5 115 #[.int .u64 (tg : Int), .int .i64 ta, .int .i64 tl]
  have b5' := (b4'.trans (b5.mono b4'.size)).alloc (by have := b4'.size; have := b5.size; omega) (.cells #[.int .u64 (tg : Int), .int .i64 ta, .int .i64 tl] 115)
  have hor5 : Below w4.heap.size w4 (w5.alloc (.cells #[.int .u64 (tg : Int), .int .i64 ta, .int .i64 tl] 115)) := b5.alloc b5.size _
  go_upto_region 6 with fail
  obtain ⟨w6, hw6⟩ : ∃ w6, w6 = w5.alloc (.cells #[.int .u64 (tg : Int), .int .i64 ta, .int .i64 tl] 115) := ⟨_, rfl⟩
  obtain ⟨g8, hg8⟩ : ∃ g8, g8 = w5.heap.size := ⟨_, rfl⟩
  rw [← hw6] at k25 k55 k85 b5' hor5 ⊢
  rw [← hg8] at k85 ⊢
  clear hw6 hg8 hsr b5 k24 k54
  have hst := run_str w6 A n c xs (hx.below b5' (Nat.le_refl _))
  go_wp2_with fail
  refine (hrr _).mono ?_
  rintro e w7 ⟨rfl, b7⟩
  have k27 := (k25.below b7 k25.lt).alloc (.cells #[.int .u64 (tg : Int), .int .i64 ta, .int .i64 tl] 105)
  have k57 := (k55.below b7 k55.lt).alloc (.cells #[.int .u64 (tg : Int), .int .i64 ta, .int .i64 tl] 105)
  have k87 := (k85.below b7 k85.lt).alloc (.cells #[.int .u64 (tg : Int), .int .i64 ta, .int .i64 tl] 105)
  have k10 := Blk.new w7 105 #[.int .u64 (tg : Int), .int .i64 ta, .int .i64 tl]
  have b7' := (b5'.trans (b7.mono b5'.size)).alloc (by have := b5'.size; have := b7.size; omega) (.cells #[.int .u64 (tg : Int), .int .i64 ta, .int .i64 tl] 105)
  have hor7 : Below w4.heap.size w4 (w7.alloc (.cells #[.int .u64 (tg : Int), .int .i64 ta, .int .i64 tl] 105)) := (hor5.trans (b7.mono hor5.size)).alloc (by have := hor5.size; have := b7.size; omega) _
  go_upto_region 7 with fail
  obtain ⟨w8, hw8⟩ : ∃ w8, w8 = w7.alloc (.cells #[.int .u64 (tg : Int), .int .i64 ta, .int .i64 tl] 105) := ⟨_, rfl⟩
  obtain ⟨g10, hg10⟩ : ∃ g10, g10 = w7.heap.size := ⟨_, rfl⟩
  rw [← hw8] at k27 k57 k87 k10 b7' hor7 ⊢
  rw [← hg10] at k10 ⊢
  clear hw8 hg10 hrr b7 k25 k55 k85 b5' hor5 hst
  have HOR8 : (((SU.mk g a l).right = true ∧ ec = 0 ∧ ∃ A cap, cv = .slice A 128 cap ∧ 128 ≤ cap ∧ SlAt w8 A 128 (bvs (superBytes ⟨g, a, l⟩))) ∨ ((SU.mk g a l).right = false ∧ ec = 3 ∧ cv = .slice none 0 0)) := by
    rcases HOR.out with ⟨x1, x2, A2, c2, x3, x4, x5⟩ | x
    · exact .inl ⟨x1, x2, A2, c2, x3, x4, x5.below hor7 (Nat.le_refl _)⟩
    · exact .inr x
  have HOR9 := hide HOR8
  clear HOR8 HOR hor7
  have HC := hide (fun w' (h : Below w8.heap.size w8 w') => And.intro (And.intro ((k27.below h k27.lt).cell 0) (And.intro ((k27.below h k27.lt).cell 1) ((k27.below h k27.lt).cell 2))) (And.intro (And.intro ((k57.below h k57.lt).cell 0) (And.intro ((k57.below h k57.lt).cell 1) ((k57.below h k57.lt).cell 2))) (And.intro (And.intro ((k87.below h k87.lt).cell 0) (And.intro ((k87.below h k87.lt).cell 1) ((k87.below h k87.lt).cell 2))) (And.intro ((k10.below h k10.lt).cell 0) (And.intro ((k10.below h k10.lt).cell 1) ((k10.below h k10.lt).cell 2))))))
  clear k27 k57 k87 k10
  have HR := hide (And.intro (fun w => (sRight_ok ⟨g, a, l⟩ w : Calls Try.prog 76 #[.agg #[.int .u64 (g : Int), .int .i64 a, .int .i64 l]] w _)) (fun w => (rRight_ok ⟨g, a, l⟩ w : Calls Try.prog 77 #[.agg #[.int .u64 (g : Int), .int .i64 a, .int .i64 l]] w _)))
  obtain ⟨rt, hrt⟩ : ∃ rt, rt = (SU.mk g a l).right := ⟨_, rfl⟩
  rw [← hrt] at HR HOR9
  have HRT := hide hrt
  clear hrt
  go_cut [58] (fun s58 wx => s58 = .bool false ∧ Below w8.heap.size w8 wx)
  case first =>
    have nn : (rt != rt) = false := by cases rt <;> rfl
    rcases hfo with ⟨rfl, rfl⟩ | ⟨rfl, rfl⟩
    · clear HOR9
      refine wp_region_held 25 (fun w' => (w'.cell? ⟨g2, 0, none⟩ = some (.int .u64 (g : Int)) ∧ w'.cell? ⟨g2, 1, none⟩ = some (.int .i64 a) ∧ w'.cell? ⟨g2, 2, none⟩ = some (.int .i64 l)) ∧ (w'.cell? ⟨g5, 0, none⟩ = some (.int .u64 (g : Int)) ∧ w'.cell? ⟨g5, 1, none⟩ = some (.int .i64 a) ∧ w'.cell? ⟨g5, 2, none⟩ = some (.int .i64 l)) ∧ (w'.cell? ⟨g8, 0, none⟩ = some (.int .u64 (tg : Int)) ∧ w'.cell? ⟨g8, 1, none⟩ = some (.int .i64 ta) ∧ w'.cell? ⟨g8, 2, none⟩ = some (.int .i64 tl)) ∧ (w'.cell? ⟨g10, 0, none⟩ = some (.int .u64 (tg : Int)) ∧ w'.cell? ⟨g10, 1, none⟩ = some (.int .i64 ta) ∧ w'.cell? ⟨g10, 2, none⟩ = some (.int .i64 tl))) (fun i => i == 1 || i == 3 || i == 7) (by kernel_rfl) (by kernel_rfl) (HC.out w8 (Below.refl _ _)) (fun ops hops F hF => ?_)
      subst hops
      simp only [List.take_succ_cons, List.take_zero, List.drop_succ_cons, List.drop_zero] at hF ⊢
      iterate 1 (refine held_q rfl rfl ?_; apply Exists.intro; refine ⟨fun w' hw' => ?_, ?_⟩; (obtain ⟨⟨x0, x1, x2⟩, ⟨y0, y1, y2⟩, ⟨z0, z1, z2⟩, v0, v1, v2⟩ := hw'; go_simp; rfl); simp only [Act.put, List.setIfInBounds_toArray, List.set_cons_zero, List.set_cons_succ, Nat.reduceAdd])
      refine held_loud rfl rfl (fun K hK => ?_)
      go_simp
      refine (HR.out.1 _).mono ?_
      rintro e w9 ⟨rfl, b9⟩
      have b9' : Below w8.heap.size w8 w9 := Below.of_drew b9
      refine hK _ _ (HC.out w9 b9') ?_
      clear hK K
      simp only [Act.put, List.setIfInBounds_toArray, List.set_cons_zero, List.set_cons_succ, Nat.reduceAdd]
      iterate 1 (refine held_q rfl rfl ?_; apply Exists.intro; refine ⟨fun w' hw' => ?_, ?_⟩; (obtain ⟨⟨x0, x1, x2⟩, ⟨y0, y1, y2⟩, ⟨z0, z1, z2⟩, v0, v1, v2⟩ := hw'; go_simp; rfl); simp only [Act.put, List.setIfInBounds_toArray, List.set_cons_zero, List.set_cons_succ, Nat.reduceAdd])
      refine held_loud rfl rfl (fun K hK => ?_)
      go_simp
      refine (HR.out.2 _).mono ?_
      rintro e w10 ⟨rfl, b10⟩
      have b10' := b9'.trans (b10.mono b9'.size)
      refine hK _ _ (HC.out w10 b10') ?_
      clear hK K
      simp only [Act.put, List.setIfInBounds_toArray, List.set_cons_zero, List.set_cons_succ, Nat.reduceAdd]
      iterate 3 (refine held_q rfl rfl ?_; apply Exists.intro; refine ⟨fun w' hw' => ?_, ?_⟩; (obtain ⟨⟨x0, x1, x2⟩, ⟨y0, y1, y2⟩, ⟨z0, z1, z2⟩, v0, v1, v2⟩ := hw'; go_simp; rfl); simp only [Act.put, List.setIfInBounds_toArray, List.set_cons_zero, List.set_cons_succ, Nat.reduceAdd])
      refine held_loud rfl rfl (fun K hK => ?_)
      go_simp
      refine (HAT.out _).mono ?_
      rintro e w11 ⟨rfl, b11⟩
      have b11' := b10'.trans (b11.mono b10'.size)
      refine hK _ _ (HC.out w11 b11') ?_
      clear hK K
      simp only [Act.put, List.setIfInBounds_toArray, List.set_cons_zero, List.set_cons_succ, Nat.reduceAdd]
      iterate 13 (refine held_q rfl rfl ?_; apply Exists.intro; refine ⟨fun w' hw' => ?_, ?_⟩; (obtain ⟨⟨x0, x1, x2⟩, ⟨y0, y1, y2⟩, ⟨z0, z1, z2⟩, v0, v1, v2⟩ := hw'; go_simp; rfl); simp only [Act.put, List.setIfInBounds_toArray, List.set_cons_zero, List.set_cons_succ, Nat.reduceAdd])
      iterate 2 (refine held_skip rfl ?_; simp only [Act.put, List.setIfInBounds_toArray, List.set_cons_zero, List.set_cons_succ, Nat.reduceAdd])
      iterate 2 (refine held_q rfl rfl ?_; apply Exists.intro; refine ⟨fun w' hw' => ?_, ?_⟩; (obtain ⟨⟨x0, x1, x2⟩, ⟨y0, y1, y2⟩, ⟨z0, z1, z2⟩, v0, v1, v2⟩ := hw'; go_simp; rfl); simp only [Act.put, List.setIfInBounds_toArray, List.set_cons_zero, List.set_cons_succ, Nat.reduceAdd])
      refine held_nil (hF _ _ ?_)
      clear hF F
      go_wp2
      go_meet
      exact ⟨rfl, b11'⟩
    · clear HOR9
      refine wp_region_held 25 (fun w' => (w'.cell? ⟨g2, 0, none⟩ = some (.int .u64 (g : Int)) ∧ w'.cell? ⟨g2, 1, none⟩ = some (.int .i64 a) ∧ w'.cell? ⟨g2, 2, none⟩ = some (.int .i64 l)) ∧ (w'.cell? ⟨g5, 0, none⟩ = some (.int .u64 (g : Int)) ∧ w'.cell? ⟨g5, 1, none⟩ = some (.int .i64 a) ∧ w'.cell? ⟨g5, 2, none⟩ = some (.int .i64 l)) ∧ (w'.cell? ⟨g8, 0, none⟩ = some (.int .u64 (tg : Int)) ∧ w'.cell? ⟨g8, 1, none⟩ = some (.int .i64 ta) ∧ w'.cell? ⟨g8, 2, none⟩ = some (.int .i64 tl)) ∧ (w'.cell? ⟨g10, 0, none⟩ = some (.int .u64 (tg : Int)) ∧ w'.cell? ⟨g10, 1, none⟩ = some (.int .i64 ta) ∧ w'.cell? ⟨g10, 2, none⟩ = some (.int .i64 tl))) (fun i => i == 1 || i == 3 || i == 7) (by kernel_rfl) (by kernel_rfl) (HC.out w8 (Below.refl _ _)) (fun ops hops F hF => ?_)
      subst hops
      simp only [List.take_succ_cons, List.take_zero, List.drop_succ_cons, List.drop_zero] at hF ⊢
      iterate 1 (refine held_q rfl rfl ?_; apply Exists.intro; refine ⟨fun w' hw' => ?_, ?_⟩; (obtain ⟨⟨x0, x1, x2⟩, ⟨y0, y1, y2⟩, ⟨z0, z1, z2⟩, v0, v1, v2⟩ := hw'; go_simp; rfl); simp only [Act.put, List.setIfInBounds_toArray, List.set_cons_zero, List.set_cons_succ, Nat.reduceAdd])
      refine held_loud rfl rfl (fun K hK => ?_)
      go_simp
      refine (HR.out.1 _).mono ?_
      rintro e w9 ⟨rfl, b9⟩
      have b9' : Below w8.heap.size w8 w9 := Below.of_drew b9
      refine hK _ _ (HC.out w9 b9') ?_
      clear hK K
      simp only [Act.put, List.setIfInBounds_toArray, List.set_cons_zero, List.set_cons_succ, Nat.reduceAdd]
      iterate 1 (refine held_q rfl rfl ?_; apply Exists.intro; refine ⟨fun w' hw' => ?_, ?_⟩; (obtain ⟨⟨x0, x1, x2⟩, ⟨y0, y1, y2⟩, ⟨z0, z1, z2⟩, v0, v1, v2⟩ := hw'; go_simp; rfl); simp only [Act.put, List.setIfInBounds_toArray, List.set_cons_zero, List.set_cons_succ, Nat.reduceAdd])
      refine held_loud rfl rfl (fun K hK => ?_)
      go_simp
      refine (HR.out.2 _).mono ?_
      rintro e w10 ⟨rfl, b10⟩
      have b10' := b9'.trans (b10.mono b9'.size)
      refine hK _ _ (HC.out w10 b10') ?_
      clear hK K
      simp only [Act.put, List.setIfInBounds_toArray, List.set_cons_zero, List.set_cons_succ, Nat.reduceAdd]
      iterate 3 (refine held_q rfl rfl ?_; apply Exists.intro; refine ⟨fun w' hw' => ?_, ?_⟩; (obtain ⟨⟨x0, x1, x2⟩, ⟨y0, y1, y2⟩, ⟨z0, z1, z2⟩, v0, v1, v2⟩ := hw'; go_simp; rfl); simp only [Act.put, List.setIfInBounds_toArray, List.set_cons_zero, List.set_cons_succ, Nat.reduceAdd])
      refine held_loud rfl rfl (fun K hK => ?_)
      go_simp
      refine (HAT.out _).mono ?_
      rintro e w11 ⟨rfl, b11⟩
      have b11' := b10'.trans (b11.mono b10'.size)
      refine hK _ _ (HC.out w11 b11') ?_
      clear hK K
      simp only [Act.put, List.setIfInBounds_toArray, List.set_cons_zero, List.set_cons_succ, Nat.reduceAdd]
      iterate 17 (refine held_q rfl rfl ?_; apply Exists.intro; refine ⟨fun w' hw' => ?_, ?_⟩; (obtain ⟨⟨x0, x1, x2⟩, ⟨y0, y1, y2⟩, ⟨z0, z1, z2⟩, v0, v1, v2⟩ := hw'; go_simp; rfl); simp only [Act.put, List.setIfInBounds_toArray, List.set_cons_zero, List.set_cons_succ, Nat.reduceAdd])
      refine held_nil (hF _ _ ?_)
      clear hF F
      go_wp2
      go_meet
      exact ⟨rfl, b11'⟩
  case rest =>
    obtain ⟨rfl, bc⟩ := hcut
    have HC2 := hide (fun w' (h : Below wc.heap.size wc w') => HC.out w' (bc.trans (h.mono bc.size)))
    have bcw := b7'.trans (bc.mono b7'.size)
    have HOR10 : ((rt = true ∧ ec = 0 ∧ ∃ A cap, cv = .slice A 128 cap ∧ 128 ≤ cap ∧ SlAt wc A 128 (bvs (superBytes ⟨g, a, l⟩))) ∨ (rt = false ∧ ec = 3 ∧ cv = .slice none 0 0)) := by
      rcases HOR9.out with ⟨x1, x2, A2, c2, x3, x4, x5⟩ | x
      · exact .inl ⟨x1, x2, A2, c2, x3, x4, x5.below bc (Nat.le_refl _)⟩
      · exact .inr x
    clear HOR9 HC b7' bc
    obtain ⟨_, ⟨y0, y1, y2⟩, _⟩ := HC2.out wc (Below.refl _ _)
    have y0 : wc.cell? ⟨g5, 0, none⟩ = some (.int .u64 (g : Int)) := y0
    have y1 : wc.cell? ⟨g5, 1, none⟩ = some (.int .i64 a) := y1
    have y2 : wc.cell? ⟨g5, 2, none⟩ = some (.int .i64 l) := y2
    rcases HOR10 with ⟨rfl, rfl, A2, cap2, rfl, hcap, s2⟩ | ⟨rfl, rfl, rfl⟩
    · have hW := fun w => rwriteE ⟨g, a, l⟩ HRT.out.symm w
      unfold superV strv at hW
      simp only at hW
      have HW := hide hW
      clear hW
      go_wp2_with fail
      refine (HR.out.2 _).mono ?_
      rintro e w9 ⟨rfl, b9⟩
      have bw9 := bcw.trans (b9.mono bcw.size)
      have HC3 := hide (fun w' (h : Below w9.heap.size w9 w') => HC2.out w' (b9.trans (h.mono b9.size)))
      have s9 := s2.below b9 (Nat.le_refl _)
      clear y0 y1 y2 HC2 s2 b9
      go_upto_region 11 with fail
      have hst : ∀ w', Below w9.heap.size w9 w' → (convert 28 9 (.slice A2 128 cap2)).run Try.prog w' = .ok (.string (bs (superBytes ⟨g, a, l⟩))) w' := fun w' h => run_str w' A2 128 cap2 _ (s9.below h (Nat.le_refl _))
      have HST := hide hst
      clear hst
      have hlist : ((bs (superBytes ⟨g, (a : Int), l⟩)).toList == (bs (superBytes ⟨g, a, l⟩)).toList) = true := by simp
      obtain ⟨X, hX⟩ : ∃ X, X = bs (superBytes ⟨g, a, l⟩) := ⟨_, rfl⟩
      rw [← hX] at HST HW hlist
      clear hX
      refine wp_region_held 12 (fun w' => (w'.cell? ⟨g5, 0, none⟩ = some (.int .u64 (g : Int)) ∧ w'.cell? ⟨g5, 1, none⟩ = some (.int .i64 a) ∧ w'.cell? ⟨g5, 2, none⟩ = some (.int .i64 l)) ∧ (convert 28 9 (.slice A2 128 cap2)).run Try.prog w' = .ok (.string X) w') (fun i => i == 0 || i == 9) (by kernel_rfl) (by kernel_rfl) ⟨(HC3.out w9 (Below.refl _ _)).2.1, HST.out w9.drew (Below.refl _ _).drew⟩ (fun ops hops F hF => ?_)
      subst hops
      simp only [List.take_succ_cons, List.take_zero, List.drop_succ_cons, List.drop_zero] at hF ⊢
      refine held_loud rfl rfl (fun K hK => ?_)
      go_simp
      refine (alive12 _).mono ?_
      rintro e w10 ⟨rfl, b10⟩
      have b10' : Below w9.heap.size w9 w10 := Below.of_drew b10
      refine hK _ _ ⟨(HC3.out w10 b10').2.1, HST.out w10 b10'⟩ ?_
      clear hK K
      simp only [Act.put, List.setIfInBounds_toArray, List.set_cons_zero, List.set_cons_succ, Nat.reduceAdd]
      iterate 8 (refine held_q rfl rfl ?_; apply Exists.intro; refine ⟨fun w' hw' => ?_, ?_⟩; (obtain ⟨⟨y0, y1, y2⟩, st⟩ := hw'; go_simp; rfl); simp only [Act.put, List.setIfInBounds_toArray, List.set_cons_zero, List.set_cons_succ, Nat.reduceAdd])
      refine held_loud rfl rfl (fun K hK => ?_)
      go_simp
      refine (HW.out _).mono ?_
      rintro e w11 ⟨rfl, b11⟩
      have b11' := b10'.trans (b11.mono b10'.size)
      refine hK _ _ ⟨(HC3.out w11 b11').2.1, HST.out w11 b11'⟩ ?_
      clear hK K
      simp only [Act.put, List.setIfInBounds_toArray, List.set_cons_zero, List.set_cons_succ, Nat.reduceAdd]
      iterate 2 (refine held_q rfl rfl ?_; apply Exists.intro; refine ⟨fun w' hw' => ?_, ?_⟩; (obtain ⟨⟨y0, y1, y2⟩, st⟩ := hw'; go_simp; rfl); simp only [Act.put, List.setIfInBounds_toArray, List.set_cons_zero, List.set_cons_succ, Nat.reduceAdd])
      refine held_nil (hF _ _ ?_)
      clear hF F
      go_wp2
      go_ret
      exact ⟨by first | rfl | simp, bw9.trans (b11'.mono bw9.size)⟩
    · go_wp2_with fail
      refine (HR.out.2 _).mono ?_
      rintro e w9 ⟨rfl, b9⟩
      have bw9 := bcw.trans (b9.mono bcw.size)
      clear y0 y1 y2 HC2 b9
      go_wp2_with fail
      refine (alive12 _).mono ?_
      rintro e w10 ⟨rfl, b10⟩
      go_wp2
      go_ret
      exact ⟨rfl, bw9.trans (b10.mono bw9.size)⟩

theorem stell_any (w : World) (g : Nat) (a l : Int) (hg : g < 18446744073709551616) (A : Option Addr) (n c : Nat) (xs : List UInt8) (hxl : xs.length = n) (o : (n ≤ c ∧ c ≤ 9223372036854775807) ∧ SlAt w A n (bvs xs)) :
    Calls Try.prog 14 #[.agg #[.int .u64 (g : Int), .int .i64 a, .int .i64 l], .slice A n c] w fun e w' => e = .returned (.bool true) ∧ Below w.heap.size w w' := by
  by_cases h : 300 < n
  · exact stell_far w g a l A n c (by omega) h
  · exact stell_near w g a l hg A n c xs o.2 o.1.1 (by omega)
end Go.Proofs.Ytnnhklembdaieaa
