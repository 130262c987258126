/- AreaHalves: the walk. -/
import Derived.Test.YtnnhklembdaieaaAreaE
namespace Go.Proofs.Ytnnhklembdaieaa
open Go.RowKit
set_option linter.unusedSimpArgs false
set_option linter.unusedVariables false

theorem halves_far (w : World) (n : Int) (h : n < 4 ∨ 4096 < n) : Calls Try.prog 13 #[.int .i64 n] w fun e w' => e = .returned (.bool true) ∧ Below w.heap.size w w' := by
  have hc : decide (n < 4) = true ∨ (decide (n < 4) = false ∧ decide (n > 4096) = true) := by
    by_cases h1 : n < 4
    · exact .inl (by simp [h1])
    · exact .inr ⟨by simp; omega, by simp; omega⟩
  have hn := new_no n w h
  clear h
  rcases hc with h1 | ⟨h1, h2⟩
  all_goals
    go_enter Try.func13, Try.ntmps13
    go_wp2_with fail
    refine hn.mono ?_
    rintro e w1 ⟨rfl, rfl⟩
    go_wp2_with fail
    refine (alive13 _).mono ?_
    rintro e w2 ⟨rfl, b2⟩
    go_wp2
    go_ret
    exact ⟨rfl, b2⟩

set_option maxRecDepth 100000 in
set_option maxHeartbeats 3200000 in
theorem halves_near (w : World) (n : Nat) (h4 : 4 ≤ n) (hm : n ≤ 4096) : Calls Try.prog 13 #[.int .i64 (n : Int)] w fun e w' => e = .returned (.bool true) ∧ Below w.heap.size w w' := by
  obtain ⟨m, hmd⟩ : ∃ m, m = (n - 2) / 2 := ⟨_, rfl⟩
  have hm1 : 1 ≤ m := by omega
  have hm2 : m ≤ 4096 := by omega
  have hr1 : rightA n 2 (m : Int) = true := by simp [rightA]; omega
  have hr2 : rightA n (2 + (m : Int)) (m : Int) = true := by simp [rightA]; omega
  have hroom : roomA (m : Int) = (m : Int) * 128 := if_neg (by omega)
  have hleft : (((n : Int) - 2 - (m : Int) - (m : Int) == 0) = true) ∨ (((n : Int) - 2 - (m : Int) - (m : Int) == 0) = false ∧ ((n : Int) - 2 - (m : Int) - (m : Int) == 1) = true) := by
    by_cases h0 : n = 2 + m + m
    · left; rw [beq_iff_eq]; omega
    · right; exact ⟨by rw [beq_eq_false_iff_ne]; omega, by rw [beq_iff_eq]; omega⟩
  go_enter Try.func13, Try.ntmps13
  go_wp2_with fail
  refine (newE n w (by omega) (by omega)).mono ?_
  rintro e w1 ⟨d, bl, rfl, h1, b1⟩
  have hl : (DSt.new n).l.length = n := by simp [DSt.new]
  have hsd := secDisk h1
  rw [hl] at hsd
  have hh := halves_ok _ n (by omega) hm w1 hsd
  rw [← hmd, show ((2 + m : Nat) : Int) = 2 + (m : Int) by omega] at hh
  clear hl h1 hmd
  go_wp2_with fail
  refine hh.mono ?_
  rintro e w2 ⟨rfl, b2⟩
  have hsd2 := hsd.later b2
  have b2' := b1.trans (b2.mono b1.size)
  clear hh hsd b1 b2
  go_upto_region 6 with fail
  have k3 : Blk ((w2.alloc (.cells #[.int .i64 2, .int .i64 (m : Int)] 113)).alloc (.cells #[.int .i64 (2 + (m : Int)), .int .i64 (m : Int)] 113)) w2.heap.size 113 #[.int .i64 2, .int .i64 (m : Int)] := (Blk.new w2 113 _).alloc _
  have k4 : Blk ((w2.alloc (.cells #[.int .i64 2, .int .i64 (m : Int)] 113)).alloc (.cells #[.int .i64 (2 + (m : Int)), .int .i64 (m : Int)] 113)) (w2.heap.size + 1) 113 #[.int .i64 (2 + (m : Int)), .int .i64 (m : Int)] := by simpa using Blk.new (w2.alloc (.cells #[.int .i64 2, .int .i64 (m : Int)] 113)) 113 #[.int .i64 (2 + (m : Int)), .int .i64 (m : Int)]
  have b3 : Below w.heap.size w ((w2.alloc (.cells #[.int .i64 2, .int .i64 (m : Int)] 113)).alloc (.cells #[.int .i64 (2 + (m : Int)), .int .i64 (m : Int)] 113)) := (b2'.alloc b2'.size _).alloc (by have := b2'.size; simp; omega) _
  have hs3 : SecOf (.pointer (some ⟨d, 0, none⟩)) n ((w2.alloc (.cells #[.int .i64 2, .int .i64 (m : Int)] 113)).alloc (.cells #[.int .i64 (2 + (m : Int)), .int .i64 (m : Int)] 113)) := hsd2.later (((Below.refl _ w2).alloc (Nat.le_refl _) _).alloc (by simp) _)
  obtain ⟨w3, hw3⟩ : ∃ w3, w3 = (w2.alloc (.cells #[.int .i64 2, .int .i64 (m : Int)] 113)).alloc (.cells #[.int .i64 (2 + (m : Int)), .int .i64 (m : Int)] 113) := ⟨_, rfl⟩
  rw [← hw3] at k3 k4 b3 hs3 ⊢
  obtain ⟨a1, ha1⟩ : ∃ a1, a1 = w2.heap.size := ⟨_, rfl⟩
  obtain ⟨a2, ha2⟩ : ∃ a2, a2 = w2.heap.size + 1 := ⟨_, rfl⟩
  rw [← ha2] at k4 ⊢
  rw [← ha1] at k3 ⊢
  clear hw3 ha1 ha2 hsd2 b2'
  have c3 := k3.cell 0
  have c31 := k3.cell 1
  have c4 := k4.cell 0
  have c41 := k4.cell 1
  simp at c3 c31 c4 c41
  have HC := hide (fun w' (h : Below w3.heap.size w3 w') => And.intro ((h.cell (p := ⟨a1, 0, none⟩) k3.lt).trans c3) (And.intro ((h.cell (p := ⟨a1, 1, none⟩) k3.lt).trans c31) (And.intro ((h.cell (p := ⟨a2, 0, none⟩) k4.lt).trans c4) ((h.cell (p := ⟨a2, 1, none⟩) k4.lt).trans c41))))
  have H3 := hide (And.intro b3 hs3)
  clear c3 c31 c4 c41 k3 k4 b3 hs3
  have hR1 := fun w' (h : SecOf (.pointer (some ⟨d, 0, none⟩)) n w') => right_ok (.pointer (some ⟨d, 0, none⟩)) n hm 2 (m : Int) w' h (by omega)
  have hR2 := fun w' (h : SecOf (.pointer (some ⟨d, 0, none⟩)) n w') => right_ok (.pointer (some ⟨d, 0, none⟩)) n hm (2 + (m : Int)) (m : Int) w' h (by omega)
  have hRo := fun w' => room_ok 2 (m : Int) w'
  rw [hr1] at hR1
  rw [hr2] at hR2
  rw [hroom] at hRo
  have HRR := hide (And.intro hR1 (And.intro hR2 hRo))
  clear hR1 hR2 hRo hr1 hr2 hroom
  have e1 : IntKind.i64.wrap (2 + (m : Int)) = 2 + (m : Int) := IntWalk.i64_in _ (by omega)
  have e2 : ((2 + (m : Int)) == 2 + (m : Int)) = true := by simp
  have e3 : ((m : Int) == (m : Int)) = true := by simp
  have e4 : IntKind.i64.wrap ((m : Int) * 128) = (m : Int) * 128 := IntWalk.i64_in _ (by omega)
  have e5 : ((m : Int) * 128 == (m : Int) * 128) = true := by simp
  rcases hleft with hl1 | ⟨hl1, hl2⟩
  · refine wp_region_held 53 (fun w' => (w'.cell? ⟨a1, 0, none⟩ = some (.int .i64 2) ∧ w'.cell? ⟨a1, 1, none⟩ = some (.int .i64 (m : Int)) ∧ w'.cell? ⟨a2, 0, none⟩ = some (.int .i64 (2 + (m : Int))) ∧ w'.cell? ⟨a2, 1, none⟩ = some (.int .i64 (m : Int)))) (fun i => i == 0 || i == 38 || i == 43 || i == 47) (by kernel_rfl) (by kernel_rfl) (HC.out w3 (Below.refl _ _)) (fun ops hops F hF => ?_)
    subst hops
    simp only [List.take_succ_cons, List.take_zero, List.drop_succ_cons, List.drop_zero] at hF ⊢
    refine held_loud rfl rfl (fun K hK => ?_)
    go_simp
    refine (alive13 _).mono ?_
    rintro e w4 ⟨rfl, b4⟩
    have b4' : Below w3.heap.size w3 w4 := Below.of_drew b4
    refine hK _ _ (HC.out w4 b4') ?_
    clear hK K
    simp only [Act.put, List.setIfInBounds_toArray, List.set_cons_zero, List.set_cons_succ, Nat.reduceAdd]
    iterate 30 (refine held_q rfl rfl ?_; apply Exists.intro; refine ⟨fun w' hw' => ?_, ?_⟩; (obtain ⟨q1, q2, q3, q4⟩ := hw'; go_simp; rfl); simp only [Act.put, List.setIfInBounds_toArray, List.set_cons_zero, List.set_cons_succ, Nat.reduceAdd])
    iterate 2 (refine held_skip rfl ?_; simp only [Act.put, List.setIfInBounds_toArray, List.set_cons_zero, List.set_cons_succ, Nat.reduceAdd])
    iterate 5 (refine held_q rfl rfl ?_; apply Exists.intro; refine ⟨fun w' hw' => ?_, ?_⟩; (obtain ⟨q1, q2, q3, q4⟩ := hw'; go_simp; rfl); simp only [Act.put, List.setIfInBounds_toArray, List.set_cons_zero, List.set_cons_succ, Nat.reduceAdd])
    refine held_loud rfl rfl (fun K hK => ?_)
    go_simp
    refine (HRR.out.1 w4 (H3.out.2.later b4')).mono ?_
    rintro e w5 ⟨rfl, b5⟩
    have b5' := b4'.trans (b5.mono b4'.size)
    refine hK _ _ (HC.out w5 b5') ?_
    clear hK K
    simp only [Act.put, List.setIfInBounds_toArray, List.set_cons_zero, List.set_cons_succ, Nat.reduceAdd]
    iterate 4 (refine held_q rfl rfl ?_; apply Exists.intro; refine ⟨fun w' hw' => ?_, ?_⟩; (obtain ⟨q1, q2, q3, q4⟩ := hw'; go_simp; rfl); simp only [Act.put, List.setIfInBounds_toArray, List.set_cons_zero, List.set_cons_succ, Nat.reduceAdd])
    refine held_loud rfl rfl (fun K hK => ?_)
    go_simp
    refine (HRR.out.2.1 w5 (H3.out.2.later b5')).mono ?_
    rintro e w6 ⟨rfl, b6⟩
    have b6' := b5'.trans (b6.mono b5'.size)
    refine hK _ _ (HC.out w6 b6') ?_
    clear hK K
    simp only [Act.put, List.setIfInBounds_toArray, List.set_cons_zero, List.set_cons_succ, Nat.reduceAdd]
    iterate 3 (refine held_q rfl rfl ?_; apply Exists.intro; refine ⟨fun w' hw' => ?_, ?_⟩; (obtain ⟨q1, q2, q3, q4⟩ := hw'; go_simp; rfl); simp only [Act.put, List.setIfInBounds_toArray, List.set_cons_zero, List.set_cons_succ, Nat.reduceAdd])
    refine held_loud rfl rfl (fun K hK => ?_)
    go_simp
    refine (HRR.out.2.2 w6).mono ?_
    rintro e w7 ⟨rfl, b7⟩
    have b7' := b6'.trans (b7.mono b6'.size)
    refine hK _ _ (HC.out w7 b7') ?_
    clear hK K
    simp only [Act.put, List.setIfInBounds_toArray, List.set_cons_zero, List.set_cons_succ, Nat.reduceAdd]
    iterate 5 (refine held_q rfl rfl ?_; apply Exists.intro; refine ⟨fun w' hw' => ?_, ?_⟩; (obtain ⟨q1, q2, q3, q4⟩ := hw'; go_simp; rfl); simp only [Act.put, List.setIfInBounds_toArray, List.set_cons_zero, List.set_cons_succ, Nat.reduceAdd])
    refine held_nil (hF _ _ ?_)
    clear hF F
    go_wp2
    go_ret
    exact ⟨rfl, H3.out.1.trans (b7'.mono H3.out.1.size)⟩
  · refine wp_region_held 53 (fun w' => (w'.cell? ⟨a1, 0, none⟩ = some (.int .i64 2) ∧ w'.cell? ⟨a1, 1, none⟩ = some (.int .i64 (m : Int)) ∧ w'.cell? ⟨a2, 0, none⟩ = some (.int .i64 (2 + (m : Int))) ∧ w'.cell? ⟨a2, 1, none⟩ = some (.int .i64 (m : Int)))) (fun i => i == 0 || i == 38 || i == 43 || i == 47) (by kernel_rfl) (by kernel_rfl) (HC.out w3 (Below.refl _ _)) (fun ops hops F hF => ?_)
    subst hops
    simp only [List.take_succ_cons, List.take_zero, List.drop_succ_cons, List.drop_zero] at hF ⊢
    refine held_loud rfl rfl (fun K hK => ?_)
    go_simp
    refine (alive13 _).mono ?_
    rintro e w4 ⟨rfl, b4⟩
    have b4' : Below w3.heap.size w3 w4 := Below.of_drew b4
    refine hK _ _ (HC.out w4 b4') ?_
    clear hK K
    simp only [Act.put, List.setIfInBounds_toArray, List.set_cons_zero, List.set_cons_succ, Nat.reduceAdd]
    iterate 37 (refine held_q rfl rfl ?_; apply Exists.intro; refine ⟨fun w' hw' => ?_, ?_⟩; (obtain ⟨q1, q2, q3, q4⟩ := hw'; go_simp; rfl); simp only [Act.put, List.setIfInBounds_toArray, List.set_cons_zero, List.set_cons_succ, Nat.reduceAdd])
    refine held_loud rfl rfl (fun K hK => ?_)
    go_simp
    refine (HRR.out.1 w4 (H3.out.2.later b4')).mono ?_
    rintro e w5 ⟨rfl, b5⟩
    have b5' := b4'.trans (b5.mono b4'.size)
    refine hK _ _ (HC.out w5 b5') ?_
    clear hK K
    simp only [Act.put, List.setIfInBounds_toArray, List.set_cons_zero, List.set_cons_succ, Nat.reduceAdd]
    iterate 4 (refine held_q rfl rfl ?_; apply Exists.intro; refine ⟨fun w' hw' => ?_, ?_⟩; (obtain ⟨q1, q2, q3, q4⟩ := hw'; go_simp; rfl); simp only [Act.put, List.setIfInBounds_toArray, List.set_cons_zero, List.set_cons_succ, Nat.reduceAdd])
    refine held_loud rfl rfl (fun K hK => ?_)
    go_simp
    refine (HRR.out.2.1 w5 (H3.out.2.later b5')).mono ?_
    rintro e w6 ⟨rfl, b6⟩
    have b6' := b5'.trans (b6.mono b5'.size)
    refine hK _ _ (HC.out w6 b6') ?_
    clear hK K
    simp only [Act.put, List.setIfInBounds_toArray, List.set_cons_zero, List.set_cons_succ, Nat.reduceAdd]
    iterate 3 (refine held_q rfl rfl ?_; apply Exists.intro; refine ⟨fun w' hw' => ?_, ?_⟩; (obtain ⟨q1, q2, q3, q4⟩ := hw'; go_simp; rfl); simp only [Act.put, List.setIfInBounds_toArray, List.set_cons_zero, List.set_cons_succ, Nat.reduceAdd])
    refine held_loud rfl rfl (fun K hK => ?_)
    go_simp
    refine (HRR.out.2.2 w6).mono ?_
    rintro e w7 ⟨rfl, b7⟩
    have b7' := b6'.trans (b7.mono b6'.size)
    refine hK _ _ (HC.out w7 b7') ?_
    clear hK K
    simp only [Act.put, List.setIfInBounds_toArray, List.set_cons_zero, List.set_cons_succ, Nat.reduceAdd]
    iterate 5 (refine held_q rfl rfl ?_; apply Exists.intro; refine ⟨fun w' hw' => ?_, ?_⟩; (obtain ⟨q1, q2, q3, q4⟩ := hw'; go_simp; rfl); simp only [Act.put, List.setIfInBounds_toArray, List.set_cons_zero, List.set_cons_succ, Nat.reduceAdd])
    refine held_nil (hF _ _ ?_)
    clear hF F
    go_wp2
    go_ret
    exact ⟨rfl, H3.out.1.trans (b7'.mono H3.out.1.size)⟩

theorem halves_any (w : World) (n : Int) : Calls Try.prog 13 #[.int .i64 n] w fun e w' => e = .returned (.bool true) ∧ Below w.heap.size w w' := by
  by_cases h : n < 4 ∨ 4096 < n
  · exact halves_far w n h
  · obtain ⟨k, rfl⟩ := Int.eq_ofNat_of_zero_le (a := n) (by omega)
    exact halves_near w k (by omega) (by omega)
end Go.Proofs.Ytnnhklembdaieaa
