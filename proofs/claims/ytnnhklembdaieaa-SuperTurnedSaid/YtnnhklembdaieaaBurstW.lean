/- SumsBursts: the walk. -/
import Derived.Test.YtnnhklembdaieaaBurstL
namespace Go.Proofs.Ytnnhklembdaieaa
open Go.RowKit
set_option linter.unusedSimpArgs false
set_option linter.unusedVariables false

set_option maxRecDepth 100000 in
set_option maxHeartbeats 3200000 in
theorem burst_far (w : World) (A : Option Addr) (n c : Nat) (at_ by_ : Int) (hn : n ≤ 9223372036854775807) (h : 3000 < n ∨ by_ = 0 ∨ at_ < 0 ∨ 8 * (n : Int) - 32 < at_) :
    Calls Try.prog 8 #[.slice A n c, .int .i64 at_, .int .u32 by_] w fun e w' => e = .returned (.bool true) ∧ Below w.heap.size w w' := by
  have hd : (decide ((n : Int) > 3000) = true) ∨ (n ≤ 3000 ∧ decide ((n : Int) > 3000) = false ∧ (by_ == 0) = true) ∨ (n ≤ 3000 ∧ decide ((n : Int) > 3000) = false ∧ (by_ == 0) = false ∧ decide (at_ < 0) = true) ∨
      (n ≤ 3000 ∧ decide ((n : Int) > 3000) = false ∧ (by_ == 0) = false ∧ decide (at_ < 0) = false ∧ decide (at_ > 8 * (n : Int) - 32) = true) := by
    by_cases h1 : 3000 < n
    · exact .inl (by simp; omega)
    · by_cases h2 : by_ = 0
      · exact .inr (.inl ⟨by omega, by simp; omega, by simp [h2]⟩)
      · by_cases h3 : at_ < 0
        · exact .inr (.inr (.inl ⟨by omega, by simp; omega, by simp [h2], by simp [h3]⟩))
        · exact .inr (.inr (.inr ⟨by omega, by simp; omega, by simp [h2], by simp [h3], by simp; omega⟩))
  clear h
  rcases hd with hd | ⟨h0, hd, hd2⟩ | ⟨h0, hd, hd2, hd3⟩ | ⟨h0, hd, hd2, hd3, hd4⟩
  all_goals
    go_enter Try.func8, Try.ntmps8
    go_wp2_with fail
    refine (alive01 _).mono ?_
    rintro e w1 ⟨rfl, b1⟩
    go_wp2
    go_ret
    exact ⟨rfl, b1⟩

theorem xor_top (k a : Nat) (h : a < 2 ^ k) : 2 ^ k ^^^ a = 2 ^ k + a := by
  apply Nat.eq_of_testBit_eq
  intro i
  rw [Nat.testBit_xor, Nat.testBit_two_pow]
  by_cases hi : i < k
  · have e : Nat.testBit (2 ^ k + a) i = a.testBit i := Nat.testBit_two_pow_add_gt hi a
    rw [e, decide_eq_false (by omega)]; simp
  · by_cases he : i = k
    · subst he
      rw [Nat.testBit_two_pow_add_eq, Nat.testBit_lt_two_pow h]; simp
    · have h1 : a.testBit i = false := Nat.testBit_lt_two_pow (Nat.lt_of_lt_of_le h (Nat.pow_le_pow_right (by omega) (by omega)))
      have h2 : (2 ^ k + a).testBit i = false := Nat.testBit_lt_two_pow (by
        have : 2 ^ (k + 1) ≤ 2 ^ i := Nat.pow_le_pow_right (by omega) (by omega)
        rw [Nat.pow_succ] at this
        omega)
      rw [h1, h2, decide_eq_false (by omega)]; rfl

set_option maxRecDepth 100000 in
set_option maxHeartbeats 3200000 in
theorem burst_near (w : World) (A : Option Addr) (n c : Nat) (l : List UInt8) (hl : SlAt w A n (bvs l)) (hn : n ≤ 3000) (at_ by_ : Nat) (hb0 : by_ ≠ 0) (hb1 : by_ < 4294967296) (hat : at_ + 32 ≤ 8 * n) :
    Calls Try.prog 8 #[.slice A n c, .int .i64 (at_ : Int), .int .u32 (by_ : Int)] w fun e w' => e = .returned (.bool true) ∧ Below w.heap.size w w' := by
  have hd1 : decide ((n : Int) > 3000) = false := by simp; omega
  have hd2 : ((by_ : Int) == 0) = false := by simp [hb0]
  have hd3 : decide ((at_ : Int) < 0) = false := by simp
  have hd4 : decide ((at_ : Int) > 8 * (n : Int) - 32) = false := by simp; omega
  have l1 : l.length = n := by have := hl.1; rwa [bvs_length] at this
  obtain ⟨i0, hi0, hz0, hs0, hbb0⟩ := info_parts info5
  obtain ⟨ga, oa, rfl, ga2, hra⟩ := hl.2 (by omega)
  have hnews : ∀ (j : Nat) (u : Value), (bvs l)[j]? = some u → (w.alloc (.cells #[] 5)).cell? ((⟨ga, oa, none⟩ : Addr).add j) = some u := fun j u hu => by
    rw [Addr.add_mid, World.cell?_alloc_lt _ _ _ ga2]; exact hra j u hu
  have hmade : (w.alloc (.cells #[] 5)).ownsRow w.heap.size 5 1 (.slice (some ⟨w.heap.size, 0, none⟩) 0 0) 0 [] := World.ownsRow_made w #[] 0 (Nat.le_refl _) (by simp [maxLen]) rfl
  have HN := hide hnews
  have HM := hide hmade
  have HL1 := hide l1
  clear hnews hmade l1 hra
  go_enter Try.func8, Try.ntmps8
  go_wp2_with (at_builtin; refine wpList_append_own_at _ rfl _ _ 28 rfl w.heap.size 5 i0 _ 1 1 Try.underlying28 hi0 hz0 hs0 hbb0 rfl (by omega) _ 0 [] rfl HM.out ⟨ga, oa, none⟩ n c (bvs l) rfl (by rw [bvs_length, HL1.out, Nat.mul_one]) HN.out (bvs_one l) (by unfold maxLen; omega) (by omega) ?_ ?_; (simp); intro v5 w5 hown5 hgrow5 _ _)
  have hbl5 : Below w.heap.size w w5 := ((Below.refl _ w).alloc (Nat.le_refl _) _).grown hgrow5 (by simp) (fun k hk => (HM.out.lt k hk).1)
  have hown : w5.ownsRow w.heap.size 5 1 v5 n (bvs l) := by simpa using hown5
  clear hown5 hgrow5
  obtain ⟨CA, ccap, rfl, _, _, hCA⟩ := own_shape hown
  obtain ⟨g, rfl, hg1, hg2, _⟩ := hCA (by omega)
  clear hCA
  go_loopw [8] (fun i wr => ∃ (k : Nat) (C : List UInt8), k ≤ 32 ∧ i = .int .i64 k ∧ C.length = n ∧ wr.ownsRow w.heap.size 5 1 (.slice (some ⟨g, 0, none⟩) n ccap) n (bvs C) ∧ numOf8 C = numOf8 l ^^^ (2 ^ at_ * (by_ % 2 ^ k)) ∧ Below w.heap.size w wr) (fun i _ => 32 - (intOf i).toNat)
  case atStart => exact ⟨0, l, by omega, rfl, HL1.out, hown, by simp [Nat.mod_one], hbl5⟩
  case round =>
    obtain ⟨k, C, hk, rfl, hCl, hC, hnum, hbl⟩ := hrel
    by_cases hlt : k < 32
    · have hk0 : (0 : Int) ≤ (k : Int) := by omega
      have hq : by_ / 2 ^ k < 4294967296 := Nat.lt_of_le_of_lt (Nat.div_le_self _ _) hb1
      have hand : bits .and .u32 ((by_ : Int) / 2 ^ k) 1 = ((by_ / 2 ^ k % 2 : Nat) : Int) := by
        have := u32_and_nat (by_ / 2 ^ k) 1 hq (by omega)
        rw [Nat.and_one_is_mod] at this
        rw [← this]
        congr 1
      have hsplit : by_ % 2 ^ (k + 1) = by_ % 2 ^ k + 2 ^ k * (by_ / 2 ^ k % 2) := by
        rw [Nat.pow_succ, Nat.mod_mul]
      by_cases hbit : by_ / 2 ^ k % 2 = 1
      · have ht : (bits .and .u32 ((by_ : Int) / 2 ^ k) 1 == 1) = true := by rw [hand, beq_iff_eq, hbit]; rfl
        obtain ⟨P, hP⟩ : ∃ P, P = (at_ + k) / 8 := ⟨_, rfl⟩
        obtain ⟨R, hR⟩ : ∃ R, R = (at_ + k) % 8 := ⟨_, rfl⟩
        have hPn : P < n := by omega
        have hR8 : R < 8 := by omega
        have hPC : P < C.length := by omega
        obtain ⟨x, hx⟩ : ∃ x, x = C[P] := ⟨_, rfl⟩
        have hcell : wr.cell? ⟨g, P, none⟩ = some (.int .u8 (x.toNat : Int)) := by
          have := hC.cells (g := g) rfl P (bv x) (by rw [bvs, List.getElem?_map, List.getElem?_eq_getElem hPC, hx]; rfl)
          rw [Addr.add_mid, Nat.zero_add] at this
          exact this
        have e1 : IntKind.i64.wrap ((at_ : Int) + (k : Int)) = (at_ : Int) + (k : Int) := IntWalk.i64_in _ (by omega)
        have e2 : ((at_ : Int) + (k : Int)).tdiv 8 = (P : Int) := by rw [Int.tdiv_eq_ediv_of_nonneg (by omega)]; omega
        have e3 : ((at_ : Int) + (k : Int)).tmod 8 = (R : Int) := by rw [Int.tmod_eq_emod_of_nonneg (by omega)]; omega
        have e5 : IntKind.i64.wrap (P : Int) = (P : Int) := IntWalk.i64_in _ (by omega)
        have e6 : IntKind.i64.wrap (R : Int) = (R : Int) := IntWalk.i64_in _ (by omega)
        have p0 : (0 : Int) ≤ (P : Int) := by omega
        have p1 : (P : Int) < (n : Int) := by omega
        have r0 : (0 : Int) ≤ (R : Int) := by omega
        have r1 : (R : Int) < 8 := by omega
        have e4 : (0 : Int) ≤ (at_ : Int) + (k : Int) := by omega
        obtain ⟨y, hy, e7⟩ := flip_fact x R hR8
        have hfz := hC.frozenAt P
        have hnum2 : numOf8 (C.set P y) = numOf8 l ^^^ (2 ^ at_ * (by_ % 2 ^ (k + 1))) := by
          rw [num_flip C P R hPC y (by rw [hy, hx]), hnum, hsplit, hbit, Nat.mul_one, Nat.xor_assoc, show 8 * P + R = at_ + k by omega, Nat.pow_add, ← two_mul_xor]
          congr 2
          have hlo : by_ % 2 ^ k < 2 ^ k := Nat.mod_lt _ (Nat.two_pow_pos k)
          rw [Nat.xor_comm, Nat.add_comm]
          exact (xor_top k _ hlo)
        have HC := hide hC
        have HNU := hide hnum2
        have HX := hide hx
        have HPR := hide (And.intro hP hR)
        clear hand hnum hnum2 hx hy hP hR hC hsplit hbit
        go_upto_region 8 with fail
        obtain ⟨w8, hw8⟩ : ∃ w8, w8 = wr := ⟨_, rfl⟩
        rw [← hw8] at hcell hfz HC hbl ⊢
        clear hw8
        refine wp_region_held 19 (fun w' => w'.cell? ⟨g, P, none⟩ = some (.int .u8 (x.toNat : Int))) (fun _ => false) (by kernel_rfl) (by kernel_rfl) hcell (fun ops hops F hF => ?_)
        clear hops
        simp only [List.take_succ_cons, List.take_zero, List.drop_succ_cons, List.drop_zero] at hF ⊢
        iterate 19 (refine held_q rfl rfl ?_; apply Exists.intro; refine ⟨fun w' hw' => ?_, ?_⟩; (go_simp; rfl); simp only [Act.put, List.setIfInBounds_toArray, List.set_cons_zero, List.set_cons_succ, Nat.reduceAdd])
        refine held_nil (hF _ _ ?_)
        clear hF F
        have hd8 : w8.drew.cell? ⟨g, P, none⟩ = some (.int .u8 (x.toNat : Int)) := hcell
        have hf8 : w8.drew.frozen? ⟨g, P, none⟩ = false := hfz
        go_wp2
        go_roundw
        case rel => exact ⟨k + 1, C.set P y, by omega, by go_num, by rw [List.length_set]; exact hCl, by
          have := (HC.out.stored P (bv y)).1
          rw [show (bvs C).set P (bv y) = bvs (C.set P y) by unfold bvs; rw [List.map_set]] at this
          exact this, HNU.out, (hbl.drew).setCell (p := ⟨g, P, none⟩) hg1 _⟩
        case measure => simp [intOf] <;> omega
      · have ht : (bits .and .u32 ((by_ : Int) / 2 ^ k) 1 == 1) = false := by rw [hand, beq_eq_false_iff_ne]; omega
        have hz : by_ / 2 ^ k % 2 = 0 := by omega
        have HS := hide (show by_ % 2 ^ (k + 1) = by_ % 2 ^ k by rw [hsplit, hz]; omega)
        have HNU := hide hnum
        clear hand hsplit hbit hz hnum hq
        go_wp2
        go_roundw
        case rel => exact ⟨k + 1, C, by omega, by go_num, hCl, hC, by rw [HS.out]; exact HNU.out, hbl⟩
        case measure => simp [intOf] <;> omega
    · obtain rfl : k = 32 := by omega
      have hby : by_ % 2 ^ 32 = by_ := Nat.mod_eq_of_lt hb1
      rw [hby] at hnum
      have e1 : longN l ≠ longN C := by
        have h := burst 2197175160 31 4294967295 at_ by_ (by omega) (by omega) l C (by rw [HL1.out, hCl]) hnum (by rw [HL1.out]; omega) hb1 hb0
        have a1 := runN_lt 2197175160 32 (by omega) (by omega) l 4294967295 (by omega)
        have a2 := runN_lt 2197175160 32 (by omega) (by omega) C 4294967295 (by omega)
        unfold longN; omega
      have e2 : by_ < 65536 → shortN l ≠ shortN C := by
        intro h16
        have h := burst 33800 15 65535 at_ by_ (by omega) (by omega) l C (by rw [HL1.out, hCl]) hnum (by rw [HL1.out]; omega) h16 hb0
        have a1 := runN_lt 33800 16 (by omega) (by omega) l 65535 (by omega)
        have a2 := runN_lt 33800 16 (by omega) (by omega) C 65535 (by omega)
        unfold shortN; omega
      have e1' : ((longN l : Int) != (longN C : Int)) = true := by rw [bne_iff_ne]; omega
      have sC := sl_own hC
      have E2 := hide e2
      clear e1 e2 hnum hby hC
      go_wp2_with fail
      refine (alive01 _).mono ?_
      rintro e w6 ⟨rfl, b6⟩
      have hbl6 := hbl.trans (b6.mono hbl.size)
      have SA := hide (hl.below hbl6 (Nat.le_refl _))
      have SC := hide (sC.below b6 (Nat.le_refl _))
      clear b6 hl sC
      go_wp2_with fail
      refine (long_ok _ n c l w6 SA.out (by omega)).mono ?_
      rintro e w7 ⟨rfl, rfl⟩
      go_wp2_with fail
      refine (long_ok _ n ccap C w6 SC.out (by omega)).mono ?_
      rintro e w7 ⟨rfl, rfl⟩
      by_cases h16 : by_ < 65536
      · have g1 : decide ((by_ : Int) ≥ 65536) = false := by simp; omega
        have g2 : ((shortN l : Int) != (shortN C : Int)) = true := by have := E2.out h16; rw [bne_iff_ne]; omega
        clear h16
        go_wp2_with fail
        refine (short_ok _ n c l w6 SA.out (by omega)).mono ?_
        rintro e w7 ⟨rfl, rfl⟩
        go_wp2_with fail
        refine (short_ok _ n ccap C w6 SC.out (by omega)).mono ?_
        rintro e w7 ⟨rfl, rfl⟩
        go_wp2
        go_ret
        exact ⟨rfl, hbl6⟩
      · have g1 : decide ((by_ : Int) ≥ 65536) = true := by simp; omega
        clear h16
        go_wp2
        go_ret
        exact ⟨rfl, hbl6⟩
theorem burst_any (w : World) (A : Option Addr) (n c : Nat) (l : List UInt8) (hln : l.length = n) (o : l.length ≤ 9223372036854775807 ∧ SlAt w A n (bvs l)) (at_ by_ : Int) (hb : 0 ≤ by_ ∧ by_ < 4294967296) :
    Calls Try.prog 8 #[.slice A n c, .int .i64 at_, .int .u32 by_] w fun e w' => e = .returned (.bool true) ∧ Below w.heap.size w w' := by
  by_cases h : 3000 < n ∨ by_ = 0 ∨ at_ < 0 ∨ 8 * (n : Int) - 32 < at_
  · exact burst_far w A n c at_ by_ (by omega) h
  · obtain ⟨a, rfl⟩ := Int.eq_ofNat_of_zero_le (a := at_) (by omega)
    obtain ⟨b, rfl⟩ := Int.eq_ofNat_of_zero_le (a := by_) (by omega)
    exact burst_near w A n c l o.2 (by omega) a b (by omega) (by omega) (by omega)
end Go.Proofs.Ytnnhklembdaieaa
