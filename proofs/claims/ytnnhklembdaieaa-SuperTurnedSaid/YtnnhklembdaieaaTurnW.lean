/- SuperTurned: the walk. -/
import Derived.Test.YtnnhklembdaieaaSBackW
import Derived.Test.YtnnhklembdaieaaBurstW
namespace Go.Proofs.Ytnnhklembdaieaa
open Go.RowKit
set_option linter.unusedSimpArgs false
set_option linter.unusedVariables false

set_option maxRecDepth 100000 in
set_option maxHeartbeats 1600000 in
theorem turn_far (w : World) (g : Nat) (a l : Int) (at_ by_ pad_ : Int) (hat : 0 ≤ at_ ∧ at_ < 256) (h : (SU.mk g a l).right = false ∨ ((SU.mk g a l).right = true ∧ (by_ = 0 ∨ 104 < at_))) :
    Calls Try.prog 16 #[.agg #[.int .u64 (g : Int), .int .i64 a, .int .i64 l], .int .u8 at_, .int .u32 by_, .int .u8 pad_] w fun e w' => e = .returned (.bool true) ∧ Below w.heap.size w w' := by
  have k1 := Blk.new w 115 #[.int .u64 (g : Int), .int .i64 a, .int .i64 l]
  have b1 : Below w.heap.size w (w.alloc (.cells #[.int .u64 (g : Int), .int .i64 a, .int .i64 l] 115)) := (Below.refl _ _).alloc (Nat.le_refl _) _
  have hR := fun w => sRight_ok ⟨g, a, l⟩ w
  have hw := swriteB ⟨g, a, l⟩ (w.alloc (.cells #[.int .u64 (g : Int), .int .i64 a, .int .i64 l] 115))
  have hcase : (SU.mk g a l).right = false ∨ ((SU.mk g a l).right = true ∧ (by_ == 0) = true) ∨ ((SU.mk g a l).right = true ∧ (by_ == 0) = false ∧ decide (at_ > 104) = true) := by
    rcases h with h | ⟨h, h2⟩
    · exact .inl h
    · by_cases hb : by_ = 0
      · exact .inr (.inl ⟨h, by simp [hb]⟩)
      · exact .inr (.inr ⟨h, by simp [hb], by simp; omega⟩)
  clear h
  obtain ⟨h0, h255⟩ := hat
  unfold superV at hw hR
  simp only at hw hR
  rcases hcase with hr | ⟨hr, q1⟩ | ⟨hr, q1, q2⟩
  · rw [hr] at hR hw
    simp only [Bool.false_eq_true, false_and, true_and, false_or] at hw
    clear hr
    go_enter Try.func16, Try.ntmps16
    go_wp2_with fail
    refine hw.mono ?_
    rintro e w2 ⟨cv, ec, rfl, ⟨rfl, rfl⟩, b2⟩
    have k2 := k1.below b2 k1.lt
    have b2' := b1.trans (b2.mono b1.size)
    clear hw k1 b1 b2
    go_wp2_with fail
    refine (alive12 _).mono ?_
    rintro e w3 ⟨rfl, b3⟩
    have k3 := k2.below b3 k2.lt
    have b3' := b2'.trans (b3.mono b2'.size)
    have c0 := k3.cell 0
    have c1 := k3.cell 1
    have c2 := k3.cell 2
    simp at c0 c1 c2
    go_wp2_with fail
    refine (hR w3).mono ?_
    rintro e w4 ⟨rfl, b4⟩
    go_wp2
    go_ret
    exact ⟨rfl, b3'.trans (b4.mono b3'.size)⟩
  all_goals
    rw [hr] at hR hw
    simp only [Bool.true_eq_false, false_and, true_and, or_false] at hw
    clear hr
    go_enter Try.func16, Try.ntmps16
    go_wp2_with fail
    refine hw.mono ?_
    rintro e w2 ⟨cv, ec, rfl, ⟨rfl, A, cap, rfl, _, _⟩, b2⟩
    have k2 := k1.below b2 k1.lt
    have b2' := b1.trans (b2.mono b1.size)
    clear hw k1 b1 b2
    go_wp2_with fail
    refine (alive12 _).mono ?_
    rintro e w3 ⟨rfl, b3⟩
    have k3 := k2.below b3 k2.lt
    have b3' := b2'.trans (b3.mono b2'.size)
    have c0 := k3.cell 0
    have c1 := k3.cell 1
    have c2 := k3.cell 2
    simp at c0 c1 c2
    go_wp2_with fail
    refine (hR w3).mono ?_
    rintro e w4 ⟨rfl, b4⟩
    go_wp2
    go_ret
    exact ⟨rfl, b3'.trans (b4.mono b3'.size)⟩

set_option maxRecDepth 100000 in
set_option maxHeartbeats 3200000 in
theorem turn_near (w : World) (g : Nat) (a l : Int) (hr : (SU.mk g a l).right = true) (at_ by_ pad_ : Nat) (hat : at_ ≤ 104) (hb0 : by_ ≠ 0) (hb1 : by_ < 4294967296) (hpad : pad_ < 256) :
    Calls Try.prog 16 #[.agg #[.int .u64 (g : Int), .int .i64 a, .int .i64 l], .int .u8 (at_ : Int), .int .u32 (by_ : Int), .int .u8 (pad_ : Int)] w fun e w' => e = .returned (.bool true) ∧ Below w.heap.size w w' := by
  have hd2 : ((by_ : Int) == 0) = false := by simp [hb0]
  have hd4 : decide ((at_ : Int) > 104) = false := by simp; omega
  have b1 : Below w.heap.size w (w.alloc (.cells #[.int .u64 (g : Int), .int .i64 a, .int .i64 l] 115)) := (Below.refl _ _).alloc (Nat.le_refl _) _
  have hw := swriteE ⟨g, a, l⟩ hr (w.alloc (.cells #[.int .u64 (g : Int), .int .i64 a, .int .i64 l] 115))
  obtain ⟨i0, hi0, hz0, hs0, hbb0⟩ := info_parts info5
  obtain ⟨s, hs⟩ : ∃ s, s = SU.mk g a l := ⟨_, rfl⟩
  rw [← hs] at hr
  unfold superV at hw
  simp only at hw
  rw [← hs] at hw
  have Hr := hide hr
  clear hs hr
  have hXl : (superBytes s).length = 128 := superBytes_length s
  obtain ⟨X, hX⟩ : ∃ X, superBytes s = X := ⟨_, rfl⟩
  rw [hX] at hw hXl
  have HX := hide (And.intro hX hXl)
  clear hX hXl
  have hat0 : (0 : Int) ≤ (at_ : Int) := by omega
  have hat1 : (at_ : Int) ≤ 104 := by omega
  go_enter Try.func16, Try.ntmps16
  go_wp2_with fail
  refine hw.mono ?_
  rintro e w2 ⟨A, cap, rfl, ho2, b2⟩
  have b2' := b1.trans (b2.mono b1.size)
  obtain ⟨ga, hga, _, hga2, hra⟩ := (own_shape ho2).choose_spec.choose_spec.2.2.2 (by omega)
  have hAe : A = some ⟨ga, 0, none⟩ := by
    have := (own_shape ho2).choose_spec.choose_spec.1
    injection this with h1 _ _
    rw [h1]; exact hga
  subst hAe
  clear hga ho2 hw b1 b2
  have hnews : ∀ (w' : World), Below w2.heap.size w2 w' → ∀ (j : Nat) (u : Value), (bvs X)[j]? = some u → w'.cell? ((⟨ga, 0, none⟩ : Addr).add j) = some u := fun w' hb j u hu => by
    rw [Addr.add_mid]; exact (hb.cell (p := ⟨ga, 0 + j, none⟩) hga2).trans (hra j u hu)
  have HN := hide hnews
  clear hnews hra
  have hm1 : (w2.alloc (.cells #[] 5)).ownsRow w2.heap.size 5 1 (.slice (some ⟨w2.heap.size, 0, none⟩) 0 0) 0 [] := World.ownsRow_made w2 #[] 0 (Nat.le_refl _) (by simp [maxLen]) rfl
  have HM1 := hide hm1
  have hm2 := fun w5 : World => (World.ownsRow_made w5 #[] 0 (Nat.le_refl _) (by simp [maxLen]) rfl : (w5.alloc (.cells #[] 5)).ownsRow w5.heap.size 5 1 (.slice (some ⟨w5.heap.size, 0, none⟩) 0 0) 0 [])
  have HM2 := hide hm2
  clear hm1 hm2
  go_upto_region 6 with fail
  go_wp2_with (first
    | (at_builtin; refine wpList_append_own_at _ rfl (.tmp 45) (.tmp 46) 28 rfl w2.heap.size 5 i0 _ 1 1 Try.underlying28 hi0 hz0 hs0 hbb0 rfl (by omega) _ 0 [] rfl HM1.out ⟨ga, 0, none⟩ 128 cap (bvs X) rfl (by rw [bvs_length, HX.out.2]) (HN.out _ ((Below.refl _ _).alloc (Nat.le_refl _) _)) (bvs_one X) (by unfold maxLen; omega) (by omega) ?_ ?_; (simp); intro v5 w5 hown5 hgrow5 _ _; have b5 : Below w2.heap.size w2 w5 := ((Below.refl _ w2).alloc (Nat.le_refl _) _).grown hgrow5 (by simp) (fun k hk => (HM1.out.lt k hk).1))
    | (at_builtin; refine wpList_append_own_at _ rfl (.tmp 48) (.tmp 49) 28 rfl _ 5 i0 _ 1 1 Try.underlying28 hi0 hz0 hs0 hbb0 rfl (by omega) _ 0 [] rfl (HM2.out w5) ⟨ga, 0, none⟩ 128 cap (bvs X) rfl (by rw [bvs_length, HX.out.2]) (HN.out _ (b5.alloc b5.size _)) (bvs_one X) (by unfold maxLen; omega) (by omega) ?_ ?_; (simp); intro v6 w6 hown6 hgrow6 _ _))
  have f6 : Fr nob w5 w6 := ((Fr.refl nob w5).alloc _).grown hgrow6 (fun k hk => .inr ((HM2.out w5).lt k hk).1)
  have oC : w6.ownsRow w2.heap.size 5 1 v5 128 (bvs X) := by simpa using Fr.own hown5 f6 (fun _ _ h => h)
  have oD : w6.ownsRow w5.heap.size 5 1 v6 128 (bvs X) := by simpa using hown6
  have b6 : Below w.heap.size w w6 := b2'.trans ((b5.trans ((f6.belowThis (fun _ h => h)).mono b5.size)).mono b2'.size)
  obtain ⟨CA, cc, rfl, _, _, hCA⟩ := own_shape oC
  obtain ⟨gc, rfl, hgc1, _, _⟩ := hCA (by omega)
  obtain ⟨DA, cd, rfl, _, _, hDA⟩ := own_shape oD
  obtain ⟨gd, rfl, hgd1, _, _⟩ := hDA (by omega)
  have hgc5 : gc < w5.heap.size := (hown5.lt gc rfl).2
  have hb5s := b5.size
  have hX17 : X.take 17 ++ X.drop 17 = X := List.take_append_drop 17 X
  have HI := hide (And.intro oC (And.intro oD b6))
  have hgc0 : w.heap.size ≤ gc := by have := b2'.size; omega
  have hgcd : gc ≠ gd := by omega
  clear hown5 hown6 hgrow5 hgrow6 f6 oC oD b6 hCA hDA b5
  go_wp2_with fail
  go_loopw [13] (fun i wr => ∃ (k : Nat) (C : List UInt8), k ≤ 32 ∧ i = .int .i64 k ∧ C.length = 17 ∧ wr.ownsRow w2.heap.size 5 1 (.slice (some ⟨gc, 0, none⟩) 128 cc) 128 (bvs (C ++ X.drop 17)) ∧ numOf8 C = numOf8 (X.take 17) ^^^ (2 ^ at_ * (by_ % 2 ^ k)) ∧ wr.ownsRow w5.heap.size 5 1 (.slice (some ⟨gd, 0, none⟩) 128 cd) 128 (bvs X) ∧ Below w.heap.size w wr) (fun i _ => 32 - (intOf i).toNat)
  case atStart => exact ⟨0, X.take 17, by omega, rfl, by rw [List.length_take, HX.out.2]; rfl, by rw [hX17]; exact HI.out.1, by simp [Nat.mod_one], HI.out.2.1, HI.out.2.2⟩
  case round =>
    clear HI
    obtain ⟨k, C, hk, rfl, hCl, hC, hnum, hD, hbl⟩ := hrel
    by_cases hlt : k < 32
    · have hk0 : (0 : Int) ≤ (k : Int) := by omega
      have hq : by_ / 2 ^ k < 4294967296 := Nat.lt_of_le_of_lt (Nat.div_le_self _ _) hb1
      have hand : bits .and .u32 ((by_ : Int) / 2 ^ k) 1 = ((by_ / 2 ^ k % 2 : Nat) : Int) := by
        have := u32_and_nat (by_ / 2 ^ k) 1 hq (by omega)
        rw [Nat.and_one_is_mod] at this
        rw [← this]
        congr 1
      have hsplit : by_ % 2 ^ (k + 1) = by_ % 2 ^ k + 2 ^ k * (by_ / 2 ^ k % 2) := by
        rw [Nat.pow_succ, Nat.mod_mul]
      by_cases hbit : by_ / 2 ^ k % 2 = 1
      · have ht : (bits .and .u32 ((by_ : Int) / 2 ^ k) 1 == 1) = true := by rw [hand, beq_iff_eq, hbit]; rfl
        obtain ⟨P, hP⟩ : ∃ P, P = (at_ + k) / 8 := ⟨_, rfl⟩
        obtain ⟨R, hR⟩ : ∃ R, R = (at_ + k) % 8 := ⟨_, rfl⟩
        have hR8 : R < 8 := by omega
        have hPC : P < C.length := by omega
        obtain ⟨x, hx⟩ : ∃ x, x = C[P] := ⟨_, rfl⟩
        have hcell : wr.cell? ⟨gc, P, none⟩ = some (.int .u8 (x.toNat : Int)) := by
          have := hC.cells (g := gc) rfl P (bv x) (by rw [bvs, List.getElem?_map, List.getElem?_append_left hPC, List.getElem?_eq_getElem hPC, hx]; rfl)
          rw [Addr.add_mid, Nat.zero_add] at this
          exact this
        have e0 : IntKind.i64.wrap (at_ : Int) = (at_ : Int) := IntWalk.i64_in _ (by omega)
        have e1 : IntKind.i64.wrap ((at_ : Int) + (k : Int)) = (at_ : Int) + (k : Int) := IntWalk.i64_in _ (by omega)
        have e2 : ((at_ : Int) + (k : Int)).tdiv 8 = (P : Int) := by rw [Int.tdiv_eq_ediv_of_nonneg (by omega)]; omega
        have e3 : ((at_ : Int) + (k : Int)).tmod 8 = (R : Int) := by rw [Int.tmod_eq_emod_of_nonneg (by omega)]; omega
        have e5 : IntKind.i64.wrap (P : Int) = (P : Int) := IntWalk.i64_in _ (by omega)
        have e6 : IntKind.i64.wrap (R : Int) = (R : Int) := IntWalk.i64_in _ (by omega)
        have p0 : (0 : Int) ≤ (P : Int) := by omega
        have p1 : (P : Int) < 128 := by omega
        have r0 : (0 : Int) ≤ (R : Int) := by omega
        have r1 : (R : Int) < 8 := by omega
        have e4 : (0 : Int) ≤ (at_ : Int) + (k : Int) := by omega
        obtain ⟨y, hy, e7⟩ := flip_fact x R hR8
        have hfz := hC.frozenAt P
        have hnum2 : numOf8 (C.set P y) = numOf8 (X.take 17) ^^^ (2 ^ at_ * (by_ % 2 ^ (k + 1))) := by
          rw [num_flip C P R hPC y (by rw [hy, hx]), hnum, hsplit, hbit, Nat.mul_one, Nat.xor_assoc, show 8 * P + R = at_ + k by omega, Nat.pow_add, ← two_mul_xor]
          congr 2
          have hlo : by_ % 2 ^ k < 2 ^ k := Nat.mod_lt _ (Nat.two_pow_pos k)
          rw [Nat.xor_comm, Nat.add_comm]
          exact (xor_top k _ hlo)
        have hset : bvs (C.set P y ++ X.drop 17) = (bvs (C ++ X.drop 17)).set P (bv y) := by
          rw [bvs_append, bvs_append, List.set_append_left _ _ (by rw [bvs_length]; exact hPC)]
          congr 1
          unfold bvs; rw [List.map_set]
        have HC := hide (And.intro hC hD)
        have HNU := hide (And.intro hnum2 hset)
        clear hand hnum hnum2 hset hx hy hP hR hC hD hsplit hbit
        go_upto_region 11 with fail
        obtain ⟨w8, hw8⟩ : ∃ w8, w8 = wr := ⟨_, rfl⟩
        rw [← hw8] at hcell hfz HC hbl ⊢
        clear hw8
        refine wp_region_held 22 (fun w' => w'.cell? ⟨gc, P, none⟩ = some (.int .u8 (x.toNat : Int))) (fun _ => false) (by kernel_rfl) (by kernel_rfl) hcell (fun ops hops F hF => ?_)
        clear hops
        simp only [List.take_succ_cons, List.take_zero, List.drop_succ_cons, List.drop_zero] at hF ⊢
        iterate 22 (refine held_q rfl rfl ?_; apply Exists.intro; refine ⟨fun w' hw' => ?_, ?_⟩; (go_simp; rfl); simp only [Act.put, List.setIfInBounds_toArray, List.set_cons_zero, List.set_cons_succ, Nat.reduceAdd])
        refine held_nil (hF _ _ ?_)
        clear hF F
        have hd8 : w8.drew.cell? ⟨gc, P, none⟩ = some (.int .u8 (x.toNat : Int)) := hcell
        have hf8 : w8.drew.frozen? ⟨gc, P, none⟩ = false := hfz
        go_wp2
        go_roundw
        case rel => exact ⟨k + 1, C.set P y, by omega, by go_num, by rw [List.length_set]; exact hCl, by
          have := (HC.out.1.stored P (bv y)).1
          rw [← HNU.out.2] at this
          exact this, HNU.out.1, Fr.own HC.out.2 (((Fr.refl (fun k => k = gc) w8).drew).setCell (p := ⟨gc, P, none⟩) (.inl rfl) _) (fun k hk e => by simp [Value.ownBlock] at hk; omega), (hbl.drew).setCell (p := ⟨gc, P, none⟩) hgc0 _⟩
        case measure => simp [intOf] <;> omega
      · have ht : (bits .and .u32 ((by_ : Int) / 2 ^ k) 1 == 1) = false := by rw [hand, beq_eq_false_iff_ne]; omega
        have hz : by_ / 2 ^ k % 2 = 0 := by omega
        have HS := hide (show by_ % 2 ^ (k + 1) = by_ % 2 ^ k by rw [hsplit, hz]; omega)
        have HNU := hide hnum
        clear hand hsplit hbit hz hnum hq
        go_wp2
        go_roundw
        case rel => exact ⟨k + 1, C, by omega, by go_num, hCl, hC, by rw [HS.out]; exact HNU.out, hD, hbl⟩
        case measure => simp [intOf] <;> omega
    · obtain rfl : k = 32 := by omega
      have hby : by_ % 2 ^ 32 = by_ := Nat.mod_eq_of_lt hb1
      rw [hby] at hnum
      obtain ⟨p, hp⟩ : ∃ p, p = pad_ % 107 := ⟨_, rfl⟩
      have hp107 : p < 107 := by omega
      have hpi : (pad_ : Int) % 107 = (p : Int) := by omega
      have hC0 : readS (C ++ X.drop 17) = none := by
        rw [← HX.out.1]
        exact super_turned s C at_ by_ hCl (by rw [hnum, ← HX.out.1, superHead_take]) (by omega) hb0 hb1
      have hD0 : readS (X.set (21 + p) 1) = none := by rw [← HX.out.1]; exact super_pad s p hp107
      have hsD := sl_own hD
      have hfz := hD.frozenAt (21 + p)
      have hu := hD.cellAt (21 + p) (by omega)
      rw [List.getElem?_eq_getElem (by rw [bvs_length, HX.out.2]; omega)] at hu
      have hpp0 : (0 : Int) ≤ (p : Int) := by omega
      have hpp1 : (p : Int) < 107 := by omega
      have hpad0 : (0 : Int) ≤ (pad_ : Int) := by omega
      have hpad1 : (pad_ : Int) < 256 := by omega
      have HH := hide (And.intro hC (And.intro hD (And.intro hC0 (And.intro hD0 hCl))))
      clear hnum hby hp hC hD hC0 hD0 hsD
      have hcc : 128 ≤ cc ∧ 128 ≤ cd := by
        obtain ⟨A2, c2, hv, hc, _, _⟩ := own_shape HH.out.1
        injection hv with _ _ h3
        obtain ⟨A4, c4, hv4, hc4, _, _⟩ := own_shape HH.out.2.1
        injection hv4 with _ _ h5
        omega
      have hsC : SlAt (wr.setCell ⟨gd, 21 + p, none⟩ (.int .u8 1)) (some ⟨gc, 0, none⟩) 128 (bvs (C ++ X.drop 17)) :=
        sl_own (Fr.own HH.out.1 ((Fr.refl (fun k => k = gd) wr).setCell (p := ⟨gd, 21 + p, none⟩) (.inl rfl) (.int .u8 1)) (fun k hk e => by simp [Value.ownBlock] at hk; omega))
      have hsD : SlAt (wr.setCell ⟨gd, 21 + p, none⟩ (.int .u8 1)) (some ⟨gd, 0, none⟩) 128 (bvs (X.set (21 + p) 1)) := by
        have := sl_own (HH.out.2.1.stored (21 + p) (.int .u8 1)).1
        have e : (bvs X).set (21 + p) (.int .u8 1) = bvs (X.set (21 + p) 1) := by unfold bvs; rw [List.map_set]; rfl
        rwa [e] at this
      have hbz : Below w.heap.size w (wr.setCell ⟨gd, 21 + p, none⟩ (.int .u8 1)) := hbl.setCell (p := ⟨gd, 21 + p, none⟩) (show w.heap.size ≤ gd by have := b2'.size; omega) _
      have HZ := hide (And.intro hsC (And.intro hsD hbz))
      clear hsC hsD hbz
      have hrc := sreadE (some ⟨gc, 0, none⟩) 128 cc hcc.1 _ _ HZ.out.1
      rw [readRes_none HH.out.2.2.1] at hrc
      unfold superV SU.zero at hrc
      simp only at hrc
      go_wp2_with fail
      refine hrc.mono ?_
      rintro e w10 ⟨rfl, b10⟩
      have s10 := HZ.out.2.1.below b10 (Nat.le_refl _)
      have b10' := HZ.out.2.2.trans (b10.mono HZ.out.2.2.size)
      have s11 : SlAt (w10.alloc (.cells #[.int .u64 0, .int .i64 0, .int .i64 0] 115)) (some ⟨gd, 0, none⟩) 128 (bvs (X.set (21 + p) 1)) := s10.below ((Below.refl _ w10).alloc (Nat.le_refl _) _) (Nat.le_refl _)
      have b11 := b10'.alloc b10'.size (.cells #[.int .u64 0, .int .i64 0, .int .i64 0] 115)
      have hrd := sreadE (some ⟨gd, 0, none⟩) 128 cd hcc.2 _ _ s11
      rw [readRes_none HH.out.2.2.2.1] at hrd
      unfold superV SU.zero at hrd
      simp only at hrd
      clear hu hfz
      go_wp2_with fail
      refine hrd.mono ?_
      rintro e w12 ⟨rfl, b12⟩
      have b13 := (b11.trans (b12.mono b11.size)).alloc (by have := b11.size; have := b12.size; omega) (.cells #[.int .u64 0, .int .i64 0, .int .i64 0] 115)
      go_wp2_with fail
      refine (alive12 _).mono ?_
      rintro e w14 ⟨rfl, b14⟩
      go_wp2
      go_ret
      exact ⟨rfl, b13.trans (b14.mono b13.size)⟩

theorem turn_any (w : World) (g : Nat) (a l : Int) (at_ by_ pad_ : Int) (h1 : 0 ≤ at_ ∧ at_ < 256) (h2 : 0 ≤ by_ ∧ by_ < 4294967296) (h3 : 0 ≤ pad_ ∧ pad_ < 256) :
    Calls Try.prog 16 #[.agg #[.int .u64 (g : Int), .int .i64 a, .int .i64 l], .int .u8 at_, .int .u32 by_, .int .u8 pad_] w fun e w' => e = .returned (.bool true) ∧ Below w.heap.size w w' := by
  by_cases hr : (SU.mk g a l).right = true
  · by_cases hb : by_ = 0 ∨ 104 < at_
    · exact turn_far w g a l at_ by_ pad_ h1 (.inr ⟨hr, hb⟩)
    · obtain ⟨x, rfl⟩ := Int.eq_ofNat_of_zero_le h1.1
      obtain ⟨y, rfl⟩ := Int.eq_ofNat_of_zero_le h2.1
      obtain ⟨z, rfl⟩ := Int.eq_ofNat_of_zero_le h3.1
      exact turn_near w g a l hr x y z (by omega) (by omega) (by omega) (by omega)
  · exact turn_far w g a l at_ by_ pad_ h1 (.inl (by simpa using hr))
end Go.Proofs.Ytnnhklembdaieaa
