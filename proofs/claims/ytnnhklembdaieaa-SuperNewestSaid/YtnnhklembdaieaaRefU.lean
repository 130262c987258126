/- The document's super: Newest. -/
import Derived.Test.YtnnhklembdaieaaRefT
namespace Go.Proofs.Ytnnhklembdaieaa
open Go.RowKit
set_option linter.unusedSimpArgs false
set_option linter.unusedVariables false

def refNewRes (o : Option SU) : Value := match o with | some s => .tuple #[superV s, .bool true] | none => .tuple #[superV SU.zero, .bool false]
/-- what is read of a slot, in three ways. -/
theorem slot_ways (k : Nat) (a : List UInt8) : ∃ (T : SU) (x : Bool), refRes a = .tuple #[superV T, .bool x] ∧ ((x = false ∧ slotS k a = none) ∨ (x = true ∧ T.gen % 2 ≠ k ∧ slotS k a = none) ∨ (x = true ∧ T.gen % 2 = k ∧ slotS k a = some T)) := by
  rcases h : readS a with _ | t
  · exact ⟨SU.zero, false, refRes_none h, .inl ⟨rfl, by unfold slotS; rw [h]⟩⟩
  · refine ⟨t, true, refRes_some h, ?_⟩
    by_cases ht : t.gen % 2 = k
    · exact .inr (.inr ⟨rfl, ht, by unfold slotS; rw [h]; simp [ht]⟩)
    · exact .inr (.inl ⟨rfl, ht, by unfold slotS; rw [h]; simp [ht]⟩)

set_option maxRecDepth 100000 in
set_option maxHeartbeats 3200000 in
theorem rnewest_ok (w : World) (base x : Nat) (lv av tv : Value) (S : DSt) (h : RefAt w base x lv av tv S) (h2 : 2 ≤ S.l.length) (a b : List UInt8) (ha : S.read 0 = a) (hb : S.read 1 = b) :
    Calls Try.prog 99 #[.pointer (some ⟨x, 0, none⟩)] w fun e w' => e = .returned (refNewRes (newestS a b)) ∧ Below w.heap.size w w' := by
  have la : a.length = 128 := by rw [← ha]; exact DSt.read_length h.ok (by omega)
  have lb : b.length = 128 := by rw [← hb]; exact DSt.read_length h.ok (by omega)
  have b0 : Below w.heap.size w (w.alloc (.cells #[.int .u64 0, .int .i64 0, .int .i64 0] 105)) := (Below.refl _ _).alloc (Nat.le_refl _) _
  have k2 := Blk.new w 105 #[.int .u64 0, .int .i64 0, .int .i64 0]
  have h1 := h.below b0 (Nat.le_refl _)
  have hr0 : ∀ w', RefAt w' base x lv av tv S → Calls Try.prog 33 #[.pointer (some ⟨x, 0, none⟩), .int .i64 0] w' fun e w'' => e = .returned (.tuple #[.string (bs a), .int .i64 0]) ∧ w' = w'' := fun w' h => by
    have := refRead_ok w' base x lv av tv S h 0 (by omega)
    rw [ha] at this; exact this
  have hr1 : ∀ w', RefAt w' base x lv av tv S → Calls Try.prog 33 #[.pointer (some ⟨x, 0, none⟩), .int .i64 1] w' fun e w'' => e = .returned (.tuple #[.string (bs b), .int .i64 0]) ∧ w' = w'' := fun w' h => by
    have := refRead_ok w' base x lv av tv S h 1 (by omega)
    rw [hb] at this; exact this
  have hA := fun w => rreadE a (by omega) w
  have hB := fun w => rreadE b (by omega) w
  obtain ⟨⟨ag, aa, al⟩, xa, e1, w1⟩ := slot_ways 0 a
  obtain ⟨⟨bg, ba, bl⟩, xb, e2, w2⟩ := slot_ways 1 b
  rw [e1] at hA
  rw [e2] at hB
  unfold superV at hA hB
  simp only at hA hB w1 w2
  have HW := hide (And.intro w1 w2)
  have HH := hide h1
  obtain ⟨N, hN⟩ : ∃ N, N = newestS a b := ⟨_, rfl⟩
  have HN := hide (show newestS a b = match slotS 0 a, slotS 1 b with | some x, some y => if x.gen < y.gen then some y else some x | some x, none => some x | none, o => o from rfl)
  clear ha hb e1 e2 w1 w2 la lb h h1 h2
  rw [← hN]
  have HNN := hide hN
  clear hN
  go_enter Try.func99, Try.ntmps99
  go_upto_region 1 with fail
  obtain ⟨v1, hv1⟩ : ∃ v1, v1 = w.alloc (.cells #[.int .u64 0, .int .i64 0, .int .i64 0] 105) := ⟨_, rfl⟩
  rw [← hv1] at b0 k2 HH ⊢
  clear hv1
  go_wp2_with fail
  refine (hr0 v1 HH.out).mono ?_
  rintro e w' ⟨rfl, rfl⟩
  go_wp2_with fail
  refine (hr1 v1 HH.out).mono ?_
  rintro e w' ⟨rfl, rfl⟩
  go_wp2_with fail
  refine (hA v1).mono ?_
  rintro e v2 ⟨rfl, b2⟩
  have k22 := (k2.below b2 k2.lt).alloc (.cells #[.int .u64 (ag : Int), .int .i64 aa, .int .i64 al] 105)
  have k82 := Blk.new v2 105 #[.int .u64 (ag : Int), .int .i64 aa, .int .i64 al]
  have b2' := (b0.trans (b2.mono b0.size)).alloc (by have := b0.size; have := b2.size; omega) (.cells #[.int .u64 (ag : Int), .int .i64 aa, .int .i64 al] 105)
  go_upto_region 4 with fail
  obtain ⟨v3, hv3⟩ : ∃ v3, v3 = v2.alloc (.cells #[.int .u64 (ag : Int), .int .i64 aa, .int .i64 al] 105) := ⟨_, rfl⟩
  obtain ⟨g8, hg8⟩ : ∃ g8, g8 = v2.heap.size := ⟨_, rfl⟩
  rw [← hv3] at k22 k82 b2' ⊢
  rw [← hg8] at k82 ⊢
  clear hv3 hg8 b2 k2 b0 hr0 hr1 hA
  go_wp2_with fail
  refine (hB v3).mono ?_
  rintro e v4 ⟨rfl, b4⟩
  have k24 := (k22.below b4 k22.lt).alloc (.cells #[.int .u64 (bg : Int), .int .i64 ba, .int .i64 bl] 105)
  have k84 := (k82.below b4 k82.lt).alloc (.cells #[.int .u64 (bg : Int), .int .i64 ba, .int .i64 bl] 105)
  have k10 := Blk.new v4 105 #[.int .u64 (bg : Int), .int .i64 ba, .int .i64 bl]
  have bx3 := (b2'.trans (b4.mono b2'.size)).alloc (by have := b2'.size; have := b4.size; omega) (.cells #[.int .u64 (bg : Int), .int .i64 ba, .int .i64 bl] 105)
  go_upto_region 5 with fail
  obtain ⟨v5, hv5⟩ : ∃ v5, v5 = v4.alloc (.cells #[.int .u64 (bg : Int), .int .i64 ba, .int .i64 bl] 105) := ⟨_, rfl⟩
  obtain ⟨g10, hg10⟩ : ∃ g10, g10 = v4.heap.size := ⟨_, rfl⟩
  rw [← hv5] at k24 k84 k10 bx3 ⊢
  rw [← hg10] at k10 ⊢
  clear hv5 hg10 b4 k22 k82 b2' hB
  have c0 := k84.cell 0
  have c1 := k84.cell 1
  have c2 := k84.cell 2
  have e0 := k10.cell 0
  have e1 := k10.cell 1
  have e2 := k10.cell 2
  have d0 := k24.cell 0
  have d1 := k24.cell 1
  have d2 := k24.cell 2
  have z0 := k24.frozen 0
  have z1 := k24.frozen 1
  have z2 := k24.frozen 2
  simp at c0 c1 c2 e0 e1 e2 d0 d1 d2
  clear k24 k84 k10
  obtain ⟨w1, w2⟩ := HW.out
  have key : (N = none ∧ (xa = false ∨ (xa = true ∧ ((ag : Int) % 2 == 0) = false)) ∧ (xb = false ∨ (xb = true ∧ ((bg : Int) % 2 == 1) = false))) ∨
      (N = some ⟨bg, ba, bl⟩ ∧ (xa = false ∨ (xa = true ∧ ((ag : Int) % 2 == 0) = false)) ∧ (xb = true ∧ ((bg : Int) % 2 == 1) = true)) ∨
      (N = some ⟨ag, aa, al⟩ ∧ (xa = true ∧ ((ag : Int) % 2 == 0) = true) ∧ (xb = false ∨ (xb = true ∧ ((bg : Int) % 2 == 1) = false))) ∨
      (N = some ⟨bg, ba, bl⟩ ∧ (xa = true ∧ ((ag : Int) % 2 == 0) = true) ∧ (xb = true ∧ ((bg : Int) % 2 == 1) = true) ∧ decide (bg < ag) = false) ∨
      (N = some ⟨ag, aa, al⟩ ∧ (xa = true ∧ ((ag : Int) % 2 == 0) = true) ∧ (xb = true ∧ ((bg : Int) % 2 == 1) = true) ∧ decide (bg < ag) = true) := by
    have hn := HNN.out.trans HN.out
    have t0 : ag % 2 = 0 → ((ag : Int) % 2 == 0) = true := fun h => by rw [beq_iff_eq]; omega
    have t1 : ag % 2 ≠ 0 → ((ag : Int) % 2 == 0) = false := fun h => by rw [beq_eq_false_iff_ne]; omega
    have u0 : bg % 2 = 1 → ((bg : Int) % 2 == 1) = true := fun h => by rw [beq_iff_eq]; omega
    have u1 : bg % 2 ≠ 1 → ((bg : Int) % 2 == 1) = false := fun h => by rw [beq_eq_false_iff_ne]; omega
    rcases w1 with ⟨h1, s1⟩ | ⟨h1, p1, s1⟩ | ⟨h1, p1, s1⟩ <;> rcases w2 with ⟨h2, s2⟩ | ⟨h2, p2, s2⟩ | ⟨h2, p2, s2⟩ <;> rw [s1, s2] at hn <;> simp only at hn
    · exact .inl ⟨hn, .inl h1, .inl h2⟩
    · exact .inl ⟨hn, .inl h1, .inr ⟨h2, u1 p2⟩⟩
    · exact .inr (.inl ⟨hn, .inl h1, h2, u0 p2⟩)
    · exact .inl ⟨hn, .inr ⟨h1, t1 p1⟩, .inl h2⟩
    · exact .inl ⟨hn, .inr ⟨h1, t1 p1⟩, .inr ⟨h2, u1 p2⟩⟩
    · exact .inr (.inl ⟨hn, .inr ⟨h1, t1 p1⟩, h2, u0 p2⟩)
    · exact .inr (.inr (.inl ⟨hn, ⟨h1, t0 p1⟩, .inl h2⟩))
    · exact .inr (.inr (.inl ⟨hn, ⟨h1, t0 p1⟩, .inr ⟨h2, u1 p2⟩⟩))
    · by_cases hg : ag < bg
      · rw [if_pos hg] at hn
        exact .inr (.inr (.inr (.inl ⟨hn, ⟨h1, t0 p1⟩, ⟨h2, u0 p2⟩, by simp; omega⟩)))
      · rw [if_neg hg] at hn
        exact .inr (.inr (.inr (.inr ⟨hn, ⟨h1, t0 p1⟩, ⟨h2, u0 p2⟩, by simp; omega⟩)))
  clear w1 w2 HN HNN HW HH
  have B3 : ∀ V0 V1 V2, Below w.heap.size w (((v5.setCell ⟨w.heap.size, 0, none⟩ V0).setCell ⟨w.heap.size, 1, none⟩ V1).setCell ⟨w.heap.size, 2, none⟩ V2) := fun V0 V1 V2 =>
    ((bx3.setCell (p := ⟨w.heap.size, 0, none⟩) (Nat.le_refl _) _).setCell (p := ⟨w.heap.size, 1, none⟩) (Nat.le_refl _) _).setCell (p := ⟨w.heap.size, 2, none⟩) (Nat.le_refl _) _
  have HB3 := hide B3
  clear B3 bx3
  have R1 : refNewRes none = .tuple #[superV SU.zero, .bool false] := rfl
  have R2 : ∀ s, refNewRes (some s) = .tuple #[superV s, .bool true] := fun _ => rfl
  rcases key with ⟨rfl, q1 | ⟨q1, q2⟩, q3 | ⟨q3, q4⟩⟩ | ⟨rfl, q1 | ⟨q1, q2⟩, q3, q4⟩ | ⟨rfl, ⟨q1, q2⟩, q3 | ⟨q3, q4⟩⟩ | ⟨rfl, ⟨q1, q2⟩, ⟨q3, q4⟩, q5⟩ | ⟨rfl, ⟨q1, q2⟩, ⟨q3, q4⟩, q5⟩
  all_goals
    subst q1 q3
    go_wp2
    first
    | exact bodyPost_ret (v := .tuple #[superV SU.zero, .bool false]) (by simp [results, Try.results99, go_sem, superV, SU.zero, d0, d1, d2]) rfl ⟨rfl, HB3.out _ _ _⟩
    | exact bodyPost_ret (v := .tuple #[superV ⟨bg, ba, bl⟩, .bool true]) (by simp [results, Try.results99, go_sem, superV, d0, d1, d2]) rfl ⟨rfl, HB3.out _ _ _⟩
    | exact bodyPost_ret (v := .tuple #[superV ⟨ag, aa, al⟩, .bool true]) (by simp [results, Try.results99, go_sem, superV, d0, d1, d2]) rfl ⟨rfl, HB3.out _ _ _⟩
end Go.Proofs.Ytnnhklembdaieaa
