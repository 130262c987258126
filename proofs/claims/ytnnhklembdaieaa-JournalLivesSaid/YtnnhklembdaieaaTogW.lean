/- SumsTogether: the plain law, the walk. -/
import Derived.Test.YtnnhklembdaieaaSumE
import Derived.Test.YtnnhklembdaieaaLawA
namespace Go.Proofs.Ytnnhklembdaieaa
open Go.RowKit
set_option linter.unusedSimpArgs false
set_option linter.unusedVariables false

theorem byteN_xor (p s t : Nat) (c e : UInt8) : byteN p (s ^^^ t) (c ^^^ e) = byteN p s c ^^^ byteN p t e := by
  unfold byteN
  rw [← stepsN_xor, UInt8.toNat_xor]
  congr 1
  rw [Nat.xor_assoc, ← Nat.xor_assoc t, Nat.xor_comm t, Nat.xor_assoc c.toNat, Nat.xor_assoc]
theorem runN_xor (p : Nat) : ∀ (a b : List UInt8) (s t : Nat), a.length = b.length → runN p (s ^^^ t) (List.zipWith (· ^^^ ·) a b) = runN p s a ^^^ runN p t b
  | [], [], _, _, _ => rfl
  | x :: a, y :: b, s, t, h => by
    have := runN_xor p a b (byteN p s x) (byteN p t y) (by simpa using h)
    simp only [runN, List.zipWith_cons_cons, List.foldl_cons] at this ⊢
    rw [byteN_xor]
    exact this
  | [], _ :: _, _, _, h => by simp at h
  | _ :: _, [], _, _, h => by simp at h
def xor3 (a b c : List UInt8) : List UInt8 := List.zipWith (· ^^^ ·) (List.zipWith (· ^^^ ·) a b) c
theorem xor3_length (a b c : List UInt8) (h1 : a.length = b.length) (h2 : b.length = c.length) : (xor3 a b c).length = a.length := by simp [xor3]; omega
theorem runN_xor3 (p s : Nat) (a b c : List UInt8) (h1 : a.length = b.length) (h2 : b.length = c.length) : runN p s (xor3 a b c) = runN p s a ^^^ runN p s b ^^^ runN p s c := by
  have e : s = (s ^^^ s) ^^^ s := by rw [Nat.xor_self, Nat.zero_xor]
  unfold xor3
  conv => lhs; rw [e]
  rw [runN_xor _ _ _ _ _ (by simp; omega), runN_xor _ _ _ _ _ h1]
theorem ones3 (o x y z : Nat) : (o ^^^ x) ^^^ (o ^^^ y) ^^^ (o ^^^ z) = o ^^^ (x ^^^ y ^^^ z) := by
  apply Nat.eq_of_testBit_eq
  intro i
  simp only [Nat.testBit_xor]
  cases o.testBit i <;> cases x.testBit i <;> cases y.testBit i <;> cases z.testBit i <;> rfl
theorem long_xor3 (a b c : List UInt8) (h1 : a.length = b.length) (h2 : b.length = c.length) : longN (xor3 a b c) = longN a ^^^ longN b ^^^ longN c := by
  have hb := fun l => runN_lt 2197175160 32 (by omega) (by omega) l 4294967295 (by omega)
  have e : ∀ l, longN l = 4294967295 ^^^ runN 2197175160 4294967295 l := fun l => (xor_ones 32 _ (hb l)).symm
  rw [e, e, e, e, ones3, runN_xor3 _ _ _ _ _ h1 h2]
theorem short_xor3 (a b c : List UInt8) (h1 : a.length = b.length) (h2 : b.length = c.length) : shortN (xor3 a b c) = shortN a ^^^ shortN b ^^^ shortN c := by
  have hb := fun l => runN_lt 33800 16 (by omega) (by omega) l 65535 (by omega)
  have e : ∀ l, shortN l = 65535 ^^^ runN 33800 65535 l := fun l => (xor_ones 16 _ (hb l)).symm
  rw [e, e, e, e, ones3, runN_xor3 _ _ _ _ _ h1 h2]
theorem long_lt (l : List UInt8) : longN l < 4294967296 := by unfold longN; omega
theorem short_lt (l : List UInt8) : shortN l < 65536 := by unfold shortN; omega
theorem info5b : (Try.prog.info? 5).map (fun i => (i.size, i.bytes, i.zero.map (·.cells.toList))) = some (1, 1, some [.int .u8 0]) := by kernel_rfl

set_option maxRecDepth 100000 in
set_option maxHeartbeats 1600000 in
theorem tog_far (w : World) (A B C : Option Addr) (na ca nb cb nc cc : Nat) (hna : na ≤ 9223372036854775807) (h : 3000 < na ∨ na ≠ nb ∨ nb ≠ nc) :
    Calls Try.prog 10 #[.slice A na ca, .slice B nb cb, .slice C nc cc] w fun e w' => e = .returned (.bool true) ∧ Below w.heap.size w w' := by
  have hd : (decide ((na : Int) > 3000) = true) ∨ (decide ((na : Int) > 3000) = false ∧ ((na : Int) != (nb : Int)) = true) ∨ (decide ((na : Int) > 3000) = false ∧ ((na : Int) != (nb : Int)) = false ∧ ((nb : Int) != (nc : Int)) = true) := by
    by_cases h1 : 3000 < na
    · exact .inl (by simp; omega)
    · by_cases h2 : na = nb
      · exact .inr (.inr ⟨by simp; omega, by simp; omega, by simp; omega⟩)
      · exact .inr (.inl ⟨by simp; omega, by simp; omega⟩)
  clear h
  rcases hd with hd | ⟨hd, hd2⟩ | ⟨hd, hd2, hd3⟩
  all_goals
    go_enter Try.func10, Try.ntmps10
    go_wp2_with fail
    refine (alive01 _).mono ?_
    rintro e w1 ⟨rfl, b1⟩
    go_wp2
    go_ret
    exact ⟨rfl, b1⟩

theorem sl_own {w : World} {base : Nat} {e : TypeId} {A : Option Addr} {n cap : Nat} {xs : List Value} (h : w.ownsRow base e 1 (.slice A n cap) n xs) : SlAt w A n xs := by
  obtain ⟨A2, c2, hv, _, _, hA⟩ := own_shape h
  injection hv with hA2
  subst hA2
  refine ⟨by have := h.1; omega, fun hn => ?_⟩
  obtain ⟨g, e1, _, h2, h3⟩ := hA hn
  exact ⟨g, 0, e1, h2, h3⟩

set_option maxRecDepth 100000 in
set_option maxHeartbeats 3200000 in
theorem tog_near (w : World) (A B C : Option Addr) (n ca cb cc : Nat) (la lb lc : List UInt8) (ha : SlAt w A n (bvs la)) (hb : SlAt w B n (bvs lb)) (hc : SlAt w C n (bvs lc)) (hn : n ≤ 3000) :
    Calls Try.prog 10 #[.slice A n ca, .slice B n cb, .slice C n cc] w fun e w' => e = .returned (.bool true) ∧ Below w.heap.size w w' := by
  have hd1 : decide ((n : Int) > 3000) = false := by simp; omega
  have hd2 : ((n : Int) != (n : Int)) = false := by simp
  have l1 : la.length = n := by have := ha.1; rwa [bvs_length] at this
  have l2 : lb.length = n := by have := hb.1; rwa [bvs_length] at this
  have l3 : lc.length = n := by have := hc.1; rwa [bvs_length] at this
  obtain ⟨i0, hi0, hz0, hs0, hb0⟩ := info_parts info5
  obtain ⟨D, hD⟩ : ∃ D, D = xor3 la lb lc := ⟨_, rfl⟩
  have hDl : D.length = n := by rw [hD, xor3_length _ _ _ (by omega) (by omega)]; exact l1
  have hDk : ∀ k (h1 : k < la.length) (h2 : k < lb.length) (h3 : k < lc.length) (h4 : k < D.length), D[k] = la[k] ^^^ lb[k] ^^^ lc[k] := fun k h1 h2 h3 h4 => by subst hD; simp [xor3]
  have HD := hide hD
  have HDL := hide hDl
  have HDK := hide hDk
  have HLL := hide (And.intro l1 (And.intro l2 l3))
  clear hD hDl hDk l1 l2 l3
  go_enter Try.func10, Try.ntmps10
  go_wp2_with fail
  go_loopw [7, 8] (fun d i wr => ∃ k : Nat, k ≤ n ∧ i = .int .i64 k ∧ wr.ownsRow w.heap.size 5 1 d k (bvs (D.take k)) ∧ Below w.heap.size w wr) (fun _ i _ => n - (intOf i).toNat)
  case atStart => exact ⟨0, by omega, rfl, World.ownsRow_nil _ _ _ _, Below.refl _ _⟩
  case round =>
    obtain ⟨k, hk, rfl, hown, hbl⟩ := hrel
    by_cases hlt : k < n
    · obtain ⟨ga, oa, rfl, ga2, hra⟩ := ha.2 (by omega)
      obtain ⟨gb, ob, rfl, gb2, hrb⟩ := hb.2 (by omega)
      obtain ⟨gc, oc, rfl, gc2, hrc⟩ := hc.2 (by omega)
      have k1 : k < la.length := by rw [HLL.out.1]; exact hlt
      have k2 : k < lb.length := by rw [HLL.out.2.1]; exact hlt
      have k3 : k < lc.length := by rw [HLL.out.2.2]; exact hlt
      have k4 : k < D.length := by rw [HDL.out]; exact hlt
      obtain ⟨x, hx⟩ : ∃ x, x = la[k] := ⟨_, rfl⟩
      obtain ⟨y, hy⟩ : ∃ y, y = lb[k] := ⟨_, rfl⟩
      obtain ⟨z, hz⟩ : ∃ z, z = lc[k] := ⟨_, rfl⟩
      have c1 : ∀ w', Below w.heap.size w w' → w'.cell? ⟨ga, oa + k, none⟩ = some (.int .u8 (x.toNat : Int)) := fun w' h' => (h'.cell (p := ⟨ga, oa + k, none⟩) ga2).trans (hra k _ (by rw [hx]; simp [bvs, bv, k1]))
      have c2 : ∀ w', Below w.heap.size w w' → w'.cell? ⟨gb, ob + k, none⟩ = some (.int .u8 (y.toNat : Int)) := fun w' h' => (h'.cell (p := ⟨gb, ob + k, none⟩) gb2).trans (hrb k _ (by rw [hy]; simp [bvs, bv, k2]))
      have c3 : ∀ w', Below w.heap.size w w' → w'.cell? ⟨gc, oc + k, none⟩ = some (.int .u8 (z.toNat : Int)) := fun w' h' => (h'.cell (p := ⟨gc, oc + k, none⟩) gc2).trans (hrc k _ (by rw [hz]; simp [bvs, bv, k3]))
      have C1 := hide (fun w' h' => And.intro (c1 w' h') (And.intro (c2 w' h') (c3 w' h')))
      have hv : D[k] = x ^^^ y ^^^ z := by rw [hx, hy, hz]; exact HDK.out k k1 k2 k3 k4
      have hxl : x.toNat < 256 := x.toNat_lt
      have hyl : y.toNat < 256 := y.toNat_lt
      have hzl : z.toNat < 256 := z.toNat_lt
      have hxy : x.toNat ^^^ y.toNat < 256 := Nat.xor_lt_two_pow (n := 8) hxl hyl
      have b1 : bits .xor .u8 (x.toNat : Int) (y.toNat : Int) = ((x.toNat ^^^ y.toNat : Nat) : Int) := u8_xor_nat _ _ hxl hyl
      have b2 : bits .xor .u8 ((x.toNat ^^^ y.toNat : Nat) : Int) (z.toNat : Int) = ((x.toNat ^^^ y.toNat ^^^ z.toNat : Nat) : Int) := u8_xor_nat _ _ hxy hzl
      have hbv : bv D[k] = .int .u8 ((x.toNat ^^^ y.toNat ^^^ z.toNat : Nat) : Int) := by rw [hv]; simp [bv]
      obtain ⟨xn, hxn⟩ : ∃ xn, xn = x.toNat := ⟨_, rfl⟩
      obtain ⟨yn, hyn⟩ : ∃ yn, yn = y.toNat := ⟨_, rfl⟩
      obtain ⟨zn, hzn⟩ : ∃ zn, zn = z.toNat := ⟨_, rfl⟩
      rw [← hxn, ← hyn] at b1
      rw [← hxn, ← hyn, ← hzn] at b2 hbv
      rw [← hxn, ← hyn, ← hzn] at C1
      obtain ⟨vn, hvn⟩ : ∃ vn, vn = xn ^^^ yn ^^^ zn := ⟨_, rfl⟩
      obtain ⟨un, hun⟩ : ∃ un, un = xn ^^^ yn := ⟨_, rfl⟩
      rw [← hvn] at b2 hbv
      rw [← hun] at b1 b2
      have HBV := hide hbv
      have hk0 : (0 : Int) ≤ (k : Int) := by omega
      have hk1 : (k : Int) < (n : Int) := by omega
      have HT := hide (take_snoc D k k4)
      have bA : ∀ W, (Instr.buildSlice 28 1 #[(0, .int .u8 (vn : Int))]).run Try.prog W = .ok (.slice (some ⟨W.heap.size, 0, none⟩) 1 1) (W.alloc (.cells #[.int .u8 (vn : Int)] 5)) :=
        fun W => run_buildSlice_one 28 5 _ 1 1 Try.underlying28 info5b rfl (by omega) (by omega) (.int .u8 (vn : Int)) rfl W
      clear hx hy hz c1 c2 c3 hra hrb hrc hv hxl hyl hzl hxy hbv hxn hyn hzn hvn hun
      have hbd : Below w.heap.size w wr.drew := hbl.drew
      go_wp2_with fail
      refine wp_region_held 18 (fun w' => w'.cell? ⟨ga, oa + k, none⟩ = some (.int .u8 (xn : Int)) ∧ w'.cell? ⟨gb, ob + k, none⟩ = some (.int .u8 (yn : Int)) ∧ w'.cell? ⟨gc, oc + k, none⟩ = some (.int .u8 (zn : Int))) (fun i => i == 15 || i == 16) (by kernel_rfl) (by kernel_rfl) (C1.out _ hbd) (fun ops hops F hF => ?_)
      clear hops
      simp only [List.take_succ_cons, List.take_zero, List.drop_succ_cons, List.drop_zero] at hF ⊢
      iterate 15 (refine held_q rfl rfl ?_; apply Exists.intro; refine ⟨fun w' hw' => ?_, ?_⟩; (obtain ⟨q1, q2, q3⟩ := hw'; go_simp; rfl); simp only [Act.put, List.setIfInBounds_toArray, List.set_cons_zero, List.set_cons_succ, Nat.reduceAdd])
      refine held_loud rfl rfl (fun K hK => ?_)
      refine wp_buildSlice 28 1 _ rfl #[(0, .int .u8 (vn : Int))] (by simp [Act.eval]) _ _ (bA _) (hK _ _ (C1.out _ (hbd.alloc hbd.size _)) ?_)
      clear hK K
      simp only [Act.put, List.setIfInBounds_toArray, List.set_cons_zero, List.set_cons_succ, Nat.reduceAdd]
      refine held_loud rfl rfl (fun K hK => ?_)
      refine wp_append_lies _ _ _ 28 rfl w.heap.size 5 i0 _ 1 1 Try.underlying28 hi0 hz0 hs0 hb0 rfl (by omega) u7 k _ rfl (Fr.own hown ((Fr.refl nob wr).drew.alloc _) (fun _ _ h => h)) ⟨wr.heap.size, 0, none⟩ 1 1 [.int .u8 (vn : Int)] rfl rfl (World.news_of_block (B := wr.heap.size) (Blk.new wr.drew 5 _)) (by intro u hu; simp at hu; rw [hu]; rfl) (by omega) (by unfold maxLen; omega) (by omega) (by have := hbl.size; simp; omega) _ rfl ?_
      intro g cap2 w2 hown2 hgrow hat hgl
      have hbl2 : Below w.heap.size w w2 := (hbd.alloc hbd.size _).grown hgrow (by have := hbl.size; simp; omega) (fun k hk => (hown.lt k hk).1)
      refine hK _ _ (C1.out _ hbl2) ?_
      clear hK K
      simp only [Act.put, List.setIfInBounds_toArray, List.set_cons_zero, List.set_cons_succ, Nat.reduceAdd]
      iterate 1 (refine held_q rfl rfl ?_; apply Exists.intro; refine ⟨fun w' hw' => ?_, ?_⟩; (obtain ⟨q1, q2, q3⟩ := hw'; go_simp; rfl); simp only [Act.put, List.setIfInBounds_toArray, List.set_cons_zero, List.set_cons_succ, Nat.reduceAdd])
      refine held_nil (hF _ _ ?_)
      clear hF F
      go_wp2
      go_roundw
      case rel => exact ⟨k + 1, by omega, by go_num, by
        rw [HT.out]
        simp only [bvs, List.map_append, List.map_cons, List.map_nil]
        rw [HBV.out]
        exact hown2, hbl2⟩
      case measure => simp [intOf] <;> omega
    · obtain rfl : k = n := by omega
      rw [List.take_of_length_le (by rw [HDL.out]; omega)] at hown
      obtain ⟨DA, dcap, rfl, _, _, _⟩ := own_shape hown
      have hd := sl_own hown
      clear hown
      go_wp2_with fail
      refine (alive01 _).mono ?_
      rintro e w4 ⟨rfl, b4⟩
      have hbl4 := hbl.trans (b4.mono hbl.size)
      have a4 := ha.below hbl4 (Nat.le_refl _)
      have b4' := hb.below hbl4 (Nat.le_refl _)
      have c4 := hc.below hbl4 (Nat.le_refl _)
      have d4 := hd.below b4 (Nat.le_refl _)
      have X1 := long_xor3 la lb lc (by rw [HLL.out.1, HLL.out.2.1]) (by rw [HLL.out.2.1, HLL.out.2.2])
      have X2 := short_xor3 la lb lc (by rw [HLL.out.1, HLL.out.2.1]) (by rw [HLL.out.2.1, HLL.out.2.2])
      rw [← HD.out] at X1 X2
      have u1 : bits .xor .u32 (longN la : Int) (longN lb : Int) = ((longN la ^^^ longN lb : Nat) : Int) := u32_xor_nat _ _ (long_lt _) (long_lt _)
      have u2 : bits .xor .u32 ((longN la ^^^ longN lb : Nat) : Int) (longN lc : Int) = ((longN D : Nat) : Int) := by
        rw [X1]; exact u32_xor_nat _ _ (Nat.xor_lt_two_pow (n := 32) (long_lt _) (long_lt _)) (long_lt _)
      have v1 : bits .xor .u16 (shortN la : Int) (shortN lb : Int) = ((shortN la ^^^ shortN lb : Nat) : Int) := u16_xor_nat _ _ (short_lt _) (short_lt _)
      have v2 : bits .xor .u16 ((shortN la ^^^ shortN lb : Nat) : Int) (shortN lc : Int) = ((shortN D : Nat) : Int) := by
        rw [X2]; exact u16_xor_nat _ _ (Nat.xor_lt_two_pow (n := 16) (short_lt _) (short_lt _)) (short_lt _)
      have SA := hide a4
      have SB := hide b4'
      have SC := hide c4
      have SD := hide d4
      clear a4 b4' c4 d4 X1 X2 ha hb hc hd HD HDK HDL
      go_wp2_with fail
      refine (long_ok DA k dcap D w4 SD.out (by omega)).mono ?_
      rintro e w5 ⟨rfl, rfl⟩
      go_wp2_with fail
      refine (long_ok A k ca la w4 SA.out (by omega)).mono ?_
      rintro e w5 ⟨rfl, rfl⟩
      go_wp2_with fail
      refine (long_ok B k cb lb w4 SB.out (by omega)).mono ?_
      rintro e w5 ⟨rfl, rfl⟩
      go_wp2_with fail
      refine (long_ok C k cc lc w4 SC.out (by omega)).mono ?_
      rintro e w5 ⟨rfl, rfl⟩
      go_wp2_with fail
      refine (short_ok DA k dcap D w4 SD.out (by omega)).mono ?_
      rintro e w5 ⟨rfl, rfl⟩
      go_wp2_with fail
      refine (short_ok A k ca la w4 SA.out (by omega)).mono ?_
      rintro e w5 ⟨rfl, rfl⟩
      go_wp2_with fail
      refine (short_ok B k cb lb w4 SB.out (by omega)).mono ?_
      rintro e w5 ⟨rfl, rfl⟩
      go_wp2_with fail
      refine (short_ok C k cc lc w4 SC.out (by omega)).mono ?_
      rintro e w5 ⟨rfl, rfl⟩
      go_wp2
      go_ret
      exact ⟨by simp, hbl4⟩

theorem tog_any (w : World) (A B C : Option Addr) (na ca nb cb nc cc : Nat) (la lb lc : List UInt8) (hla : la.length = na) (ha : la.length ≤ 9223372036854775807 ∧ SlAt w A na (bvs la)) (hlb : lb.length = nb) (hb : lb.length ≤ 9223372036854775807 ∧ SlAt w B nb (bvs lb)) (hlc : lc.length = nc) (hc : lc.length ≤ 9223372036854775807 ∧ SlAt w C nc (bvs lc)) :
    Calls Try.prog 10 #[.slice A na ca, .slice B nb cb, .slice C nc cc] w fun e w' => e = .returned (.bool true) ∧ Below w.heap.size w w' := by
  by_cases h : 3000 < na ∨ na ≠ nb ∨ nb ≠ nc
  · exact tog_far w A B C na ca nb cb nc cc (by omega) h
  · have e1 : nb = na := by omega
    have e2 : nc = na := by omega
    rw [e1] at hb ⊢
    rw [e2] at hc ⊢
    exact tog_near w A B C na ca cb cc la lb lc ha.2 hb.2 hc.2 (by omega)
end Go.Proofs.Ytnnhklembdaieaa
