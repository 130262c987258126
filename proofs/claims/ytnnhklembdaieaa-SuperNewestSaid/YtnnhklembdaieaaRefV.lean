/- The statements' helper newest (pigeonloftlaw12): both newest are told alike. -/
import Derived.Test.YtnnhklembdaieaaRefU
import Derived.Test.YtnnhklembdaieaaLivesW
namespace Go.Proofs.Ytnnhklembdaieaa
open Go.RowKit
set_option linter.unusedSimpArgs false
set_option linter.unusedVariables false

set_option maxRecDepth 100000 in
set_option maxHeartbeats 3200000 in
theorem both_newest (w : World) (base d bl x : Nat) (wv lv av tv : Value) (S : DSt) (hD : DiskAt w base d bl wv S) (hX : RefAt w base x lv av tv S) (h2 : 2 ≤ S.l.length) :
    Calls Try.prog 80 #[.pointer (some ⟨d, 0, none⟩), .pointer (some ⟨x, 0, none⟩)] w fun e w' => e = .returned (.bool true) ∧ Below w.heap.size w w' := by
  obtain ⟨T, fe, ok, hT1, hT2, hfo⟩ : ∃ (T : SU) (fe : Int) (ok : Bool), newRes (newestS (S.read 0) (S.read 1)) = .tuple #[superV T, .int .i64 fe] ∧ refNewRes (newestS (S.read 0) (S.read 1)) = .tuple #[superV T, .bool ok] ∧ ((fe = 0 ∧ ok = true) ∨ (fe = 4 ∧ ok = false)) := by
    rcases newestS (S.read 0) (S.read 1) with _ | t
    · exact ⟨SU.zero, 4, false, rfl, rfl, .inr ⟨rfl, rfl⟩⟩
    · exact ⟨t, 0, true, rfl, rfl, .inl ⟨rfl, rfl⟩⟩
  have hn := newestE w base d bl wv S hD h2 _ hT1
  have hr := fun w (h : RefAt w base x lv av tv S) => rnewest_ok w base x lv av tv S h h2 _ _ rfl rfl
  rw [hT2] at hr
  have hAt := fun w => as_ok T w
  clear hT1 hT2
  obtain ⟨tg, ta, tl⟩ := T
  unfold superV at hn hr hAt
  simp only at hn hr hAt
  have HAT := hide hAt
  clear hAt
  go_enter Try.func80, Try.ntmps80
  go_wp2_with fail
  refine hn.mono ?_
  rintro e w1 ⟨rfl, b1⟩
  have hX1 := (hX.below b1 (Nat.le_refl _)).below ((Below.refl w1.heap.size w1).alloc (Nat.le_refl _) (.cells #[.int .u64 (tg : Int), .int .i64 ta, .int .i64 tl] 115)) (Nat.le_refl _)
  have k5 := Blk.new w1 115 #[.int .u64 (tg : Int), .int .i64 ta, .int .i64 tl]
  have b2 := b1.alloc b1.size (.cells #[.int .u64 (tg : Int), .int .i64 ta, .int .i64 tl] 115)
  have hr1 := hr _ hX1
  go_upto_region 2 with fail
  obtain ⟨w2, hw2⟩ : ∃ w2, w2 = w1.alloc (.cells #[.int .u64 (tg : Int), .int .i64 ta, .int .i64 tl] 115) := ⟨_, rfl⟩
  obtain ⟨g5, hg5⟩ : ∃ g5, g5 = w1.heap.size := ⟨_, rfl⟩
  rw [← hw2] at k5 b2 hr1 ⊢
  rw [← hg5] at k5 ⊢
  clear hw2 hg5 hn hr b1 hX1
  go_wp2_with fail
  refine hr1.mono ?_
  rintro e w3 ⟨rfl, b3⟩
  have k53 := (k5.below b3 k5.lt).alloc (.cells #[.int .u64 (tg : Int), .int .i64 ta, .int .i64 tl] 105)
  have k7 := Blk.new w3 105 #[.int .u64 (tg : Int), .int .i64 ta, .int .i64 tl]
  have b4 := (b2.trans (b3.mono b2.size)).alloc (by have := b2.size; have := b3.size; omega) (.cells #[.int .u64 (tg : Int), .int .i64 ta, .int .i64 tl] 105)
  go_upto_region 3 with fail
  obtain ⟨w4, hw4⟩ : ∃ w4, w4 = w3.alloc (.cells #[.int .u64 (tg : Int), .int .i64 ta, .int .i64 tl] 105) := ⟨_, rfl⟩
  obtain ⟨g7, hg7⟩ : ∃ g7, g7 = w3.heap.size := ⟨_, rfl⟩
  rw [← hw4] at k53 k7 b4 ⊢
  rw [← hg7] at k7 ⊢
  clear hw4 hg7 hr1 b3 k5 b2
  have HC := hide (fun w' (h : Below w4.heap.size w4 w') => And.intro (And.intro ((k53.below h k53.lt).cell 0) (And.intro ((k53.below h k53.lt).cell 1) ((k53.below h k53.lt).cell 2))) (And.intro ((k7.below h k7.lt).cell 0) (And.intro ((k7.below h k7.lt).cell 1) ((k7.below h k7.lt).cell 2))))
  clear k53 k7
  rcases hfo with ⟨rfl, rfl⟩ | ⟨rfl, rfl⟩
  · refine wp_region_held 17 (fun w' => (w'.cell? ⟨g5, 0, none⟩ = some (.int .u64 (tg : Int)) ∧ w'.cell? ⟨g5, 1, none⟩ = some (.int .i64 ta) ∧ w'.cell? ⟨g5, 2, none⟩ = some (.int .i64 tl)) ∧ (w'.cell? ⟨g7, 0, none⟩ = some (.int .u64 (tg : Int)) ∧ w'.cell? ⟨g7, 1, none⟩ = some (.int .i64 ta) ∧ w'.cell? ⟨g7, 2, none⟩ = some (.int .i64 tl))) (fun i => i == 1) (by kernel_rfl) (by kernel_rfl) (HC.out w4 (Below.refl _ _)) (fun ops hops F hF => ?_)
    subst hops
    simp only [List.take_succ_cons, List.take_zero, List.drop_succ_cons, List.drop_zero] at hF ⊢
    iterate 1 (refine held_q rfl rfl ?_; apply Exists.intro; refine ⟨fun w' hw' => ?_, ?_⟩; (obtain ⟨⟨x0, x1, x2⟩, y0, y1, y2⟩ := hw'; go_simp; rfl); simp only [Act.put, List.setIfInBounds_toArray, List.set_cons_zero, List.set_cons_succ, Nat.reduceAdd])
    refine held_loud rfl rfl (fun K hK => ?_)
    go_simp
    refine (HAT.out _).mono ?_
    rintro e w9 ⟨rfl, b9⟩
    have b9' : Below w4.heap.size w4 w9 := Below.of_drew b9
    refine hK _ _ (HC.out w9 b9') ?_
    clear hK K
    simp only [Act.put, List.setIfInBounds_toArray, List.set_cons_zero, List.set_cons_succ, Nat.reduceAdd]
    iterate 11 (refine held_q rfl rfl ?_; apply Exists.intro; refine ⟨fun w' hw' => ?_, ?_⟩; (obtain ⟨⟨x0, x1, x2⟩, y0, y1, y2⟩ := hw'; go_simp; rfl); simp only [Act.put, List.setIfInBounds_toArray, List.set_cons_zero, List.set_cons_succ, Nat.reduceAdd])
    iterate 2 (refine held_skip rfl ?_; simp only [Act.put, List.setIfInBounds_toArray, List.set_cons_zero, List.set_cons_succ, Nat.reduceAdd])
    iterate 2 (refine held_q rfl rfl ?_; apply Exists.intro; refine ⟨fun w' hw' => ?_, ?_⟩; (obtain ⟨⟨x0, x1, x2⟩, y0, y1, y2⟩ := hw'; go_simp; rfl); simp only [Act.put, List.setIfInBounds_toArray, List.set_cons_zero, List.set_cons_succ, Nat.reduceAdd])
    refine held_nil (hF _ _ ?_)
    clear hF F
    go_wp2
    go_ret
    exact ⟨rfl, b4.trans (b9'.mono b4.size)⟩
  · refine wp_region_held 17 (fun w' => (w'.cell? ⟨g5, 0, none⟩ = some (.int .u64 (tg : Int)) ∧ w'.cell? ⟨g5, 1, none⟩ = some (.int .i64 ta) ∧ w'.cell? ⟨g5, 2, none⟩ = some (.int .i64 tl)) ∧ (w'.cell? ⟨g7, 0, none⟩ = some (.int .u64 (tg : Int)) ∧ w'.cell? ⟨g7, 1, none⟩ = some (.int .i64 ta) ∧ w'.cell? ⟨g7, 2, none⟩ = some (.int .i64 tl))) (fun i => i == 1) (by kernel_rfl) (by kernel_rfl) (HC.out w4 (Below.refl _ _)) (fun ops hops F hF => ?_)
    subst hops
    simp only [List.take_succ_cons, List.take_zero, List.drop_succ_cons, List.drop_zero] at hF ⊢
    iterate 1 (refine held_q rfl rfl ?_; apply Exists.intro; refine ⟨fun w' hw' => ?_, ?_⟩; (obtain ⟨⟨x0, x1, x2⟩, y0, y1, y2⟩ := hw'; go_simp; rfl); simp only [Act.put, List.setIfInBounds_toArray, List.set_cons_zero, List.set_cons_succ, Nat.reduceAdd])
    refine held_loud rfl rfl (fun K hK => ?_)
    go_simp
    refine (HAT.out _).mono ?_
    rintro e w9 ⟨rfl, b9⟩
    have b9' : Below w4.heap.size w4 w9 := Below.of_drew b9
    refine hK _ _ (HC.out w9 b9') ?_
    clear hK K
    simp only [Act.put, List.setIfInBounds_toArray, List.set_cons_zero, List.set_cons_succ, Nat.reduceAdd]
    iterate 15 (refine held_q rfl rfl ?_; apply Exists.intro; refine ⟨fun w' hw' => ?_, ?_⟩; (obtain ⟨⟨x0, x1, x2⟩, y0, y1, y2⟩ := hw'; go_simp; rfl); simp only [Act.put, List.setIfInBounds_toArray, List.set_cons_zero, List.set_cons_succ, Nat.reduceAdd])
    refine held_nil (hF _ _ ?_)
    clear hF F
    go_wp2
    go_ret
    exact ⟨rfl, b4.trans (b9'.mono b4.size)⟩
end Go.Proofs.Ytnnhklembdaieaa
