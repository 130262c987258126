/- SuperNewest: the walk. -/
import Derived.Test.YtnnhklembdaieaaRefV
namespace Go.Proofs.Ytnnhklembdaieaa
open Go.RowKit
set_option linter.unusedSimpArgs false
set_option linter.unusedVariables false

/-- supers that come in. -/
def SupsAt (w : World) (A : Option Addr) (ss : List SU) : Prop := ss.length ≤ 9223372036854775807 ∧ (0 < ss.length → ∃ g o, A = some ⟨g, o, none⟩ ∧ g < w.heap.size ∧ ∀ (k : Nat) (hk : k < ss.length),
  w.cell? ⟨g, o + k * 3, none⟩ = some (.int .u64 (ss[k].gen : Int)) ∧ w.cell? ⟨g, o + k * 3 + 1, none⟩ = some (.int .i64 ss[k].area) ∧ w.cell? ⟨g, o + k * 3 + 2, none⟩ = some (.int .i64 ss[k].len) ∧ ss[k].gen < 18446744073709551616)

set_option maxRecDepth 100000 in
set_option maxHeartbeats 6400000 in
theorem snew_core (w : World) (A : Option Addr) (n cA : Nat) (la : List UInt8) (hA : SlAt w A n (bvs la)) (hn : n ≤ 9223372036854775807) (B : Option Addr) (m cB : Nat) (lb : List UInt8) (hB : SlAt w B m (bvs lb)) (hm : m ≤ 9223372036854775807)
    (L : Option Addr) (cL : Nat) (ss : List SU) (hL : SupsAt w L ss) (K : Option Addr) (kn kc : Nat) (ks : List Bool) (hK : SlAt w K kn (ks.map .bool)) (hkn : kn ≤ 9223372036854775807) :
    Calls Try.prog 17 #[.slice A n cA, .slice B m cB, .slice L ss.length cL, .slice K kn kc] w fun e w' => e = .returned (.bool true) ∧ Below w.heap.size w w' := by
  have hlen := hL.1
  obtain ⟨N, hN⟩ : ∃ N, ss.length = N := ⟨_, rfl⟩
  rw [hN] at hlen ⊢
  have HN := hide hN
  clear hN
  go_enter Try.func17, Try.ntmps17
  go_wp2_with fail
  refine (newE 4 w (by omega) (by omega)).mono ?_
  rintro e w1 ⟨d, bl, rfl, h1, b1⟩
  have hrn : Calls Try.prog 29 #[.int .i64 4] w1 fun e w' => ∃ x lv, e = .returned (.pointer (some ⟨x, 0, none⟩)) ∧ RefAt w' w1.heap.size x lv (.slice none 0 0) (.slice none 0 0) (DSt.new 4) ∧ Below w1.heap.size w1 w' := refNew 4 w1 (by omega) (by omega)
  go_wp2_with fail
  refine hrn.mono ?_
  rintro e w2 ⟨x, lv, rfl, hx2, b2⟩
  have h2 := h1.below b2 (Nat.le_refl _)
  have b2' := b1.trans (b2.mono b1.size)
  have hx2' : RefAt w2 w.heap.size x lv (.slice none 0 0) (.slice none 0 0) (DSt.new 4) := ⟨hx2.ok, hx2.hx, own_base hx2.hl b1.size, World.ownsRow_nil _ _ _ _, World.ownsRow_nil _ _ _ _, hx2.ne, Nat.le_trans b1.size hx2.bx⟩
  clear hrn h1 hx2 b1 b2
  have T2 : TwoI w w2 d bl x (.slice none 0 0) lv (.slice none 0 0) (.slice none 0 0) (DSt.new 4) 4 0 := ⟨h2, hx2', by simp [DSt.new], by simp [DSt.new], by simp [DSt.new], by simp [DSt.new], b2'⟩
  clear h2 hx2' b2'
  go_wp2_with fail
  refine (fillE A n cA la w2 (hA.below T2.low (Nat.le_refl _)) hn).mono ?_
  rintro e w3 ⟨g1, rfl, hg1, k1, b3⟩
  have T3 := T2.below b3 (Nat.le_refl _)
  clear T2 b3
  go_wp2_with fail
  refine (fillE B m cB lb w3 (hB.below T3.low (Nat.le_refl _)) hm).mono ?_
  rintro e w4 ⟨g2, rfl, hg2, k2, b4⟩
  have T4 := T3.below b4 (Nat.le_refl _)
  have k14 := k1.below b4 k1.lt
  clear T3 b4 k1 hg1 hg2
  obtain ⟨P, hP⟩ : ∃ P, P = pad 128 la := ⟨_, rfl⟩
  obtain ⟨Q, hQ⟩ : ∃ Q, Q = pad 128 lb := ⟨_, rfl⟩
  have hPl : P.length = 128 := by rw [hP]; exact pad_length _ _
  have hQl : Q.length = 128 := by rw [hQ]; exact pad_length _ _
  rw [← hP] at k14
  rw [← hQ] at k2
  have HP := hide (And.intro hPl hQl)
  clear hP hQ hPl hQl
  have hw1 : Calls Try.prog 24 #[.pointer (some ⟨d, 0, none⟩), .int .i64 0, .slice (some ⟨g1, 0, none⟩) 128 128] w4 fun e w' => e = .returned (.int .i64 0) ∧ ∃ wv', DiskAt w' w.heap.size d bl wv' ((DSt.new 4).write 0 P) ∧ Fr (dfoot d bl (.slice none 0 0)) w4 w' := writeE w4 _ _ _ _ _ T4.hd 0 (by simp [DSt.new]) g1 5 128 P HP.out.1 k14 (by decide) (by simp [DSt.new])
  go_wp2_with fail
  refine hw1.mono ?_
  rintro e w5 ⟨rfl, wv5, hd5, f5⟩
  have hx5 := T4.hx.fr f5 (two_off' T4.hd T4.hx)
  have k15 := T4.hd.keep f5 k14 (by decide) (by decide) (.inl (by decide))
  have k25 := T4.hd.keep f5 k2 (by decide) (by decide) (.inl (by decide))
  have b5 := T4.low.trans (T4.hd.isBelow f5 T4.low.size)
  clear hw1 T4 f5 k14 k2
  have hw2 : Calls Try.prog 24 #[.pointer (some ⟨d, 0, none⟩), .int .i64 1, .slice (some ⟨g2, 0, none⟩) 128 128] w5 fun e w' => e = .returned (.int .i64 0) ∧ ∃ wv', DiskAt w' w.heap.size d bl wv' (((DSt.new 4).write 0 P).write 1 Q) ∧ Fr (dfoot d bl wv5) w5 w' := writeE w5 _ _ _ _ _ hd5 1 (by simp [DSt.new, DSt.write]) g2 5 128 Q HP.out.2 k25 (by decide) (by simp [DSt.new, DSt.write])
  go_wp2_with fail
  refine hw2.mono ?_
  rintro e w6 ⟨rfl, wv6, hd6, f6⟩
  have hx6 := hx5.fr f6 (two_off' hd5 hx5)
  have k16 := hd5.keep f6 k15 (by decide) (by decide) (.inl (by decide))
  have k26 := hd5.keep f6 k25 (by decide) (by decide) (.inl (by decide))
  have b6 := b5.trans (hd5.isBelow f6 b5.size)
  clear hw2 f6 k15 k25 hd5 hx5 b5
  have hr1 : Calls Try.prog 30 #[.pointer (some ⟨x, 0, none⟩), .int .i64 0, .slice (some ⟨g1, 0, none⟩) 128 128] w6 fun e w' => e = .returned (.int .i64 0) ∧ ∃ av' tv', RefAt w' w.heap.size x lv av' tv' ((DSt.new 4).write 0 P) ∧ Fr (rfoot x lv (.slice none 0 0) (.slice none 0 0)) w6 w' := refWrite_ok w6 _ x lv _ _ _ hx6 0 (by simp [DSt.new]) g1 0 128 P HP.out.1 k16.rangeAll (own_ne hx6.ha k16 (by decide)) (own_ne hx6.ht k16 (by decide)) (by simp [DSt.new])
  go_wp2_with fail
  refine hr1.mono ?_
  rintro e w7 ⟨rfl, av7, tv7, hx7, f7⟩
  have hd7 := hd6.fr f7 (two_off hd6 hx6)
  have k27 := k26.fr f7 (hx6.off k26 (by decide) (by decide) (by decide))
  have b7 := b6.trans (hx6.isBelow f7 b6.size)
  clear hr1 f7 k16 k26 hd6 hx6 b6
  have hr2 : Calls Try.prog 30 #[.pointer (some ⟨x, 0, none⟩), .int .i64 1, .slice (some ⟨g2, 0, none⟩) 128 128] w7 fun e w' => e = .returned (.int .i64 0) ∧ ∃ av' tv', RefAt w' w.heap.size x lv av' tv' (((DSt.new 4).write 0 P).write 1 Q) ∧ Fr (rfoot x lv av7 tv7) w7 w' := refWrite_ok w7 _ x lv _ _ _ hx7 1 (by simp [DSt.new, DSt.write]) g2 0 128 Q HP.out.2 k27.rangeAll (own_ne hx7.ha k27 (by decide)) (own_ne hx7.ht k27 (by decide)) (by simp [DSt.new, DSt.write])
  go_wp2_with fail
  refine hr2.mono ?_
  rintro e w8 ⟨rfl, av8, tv8, hx8, f8⟩
  have hd8 := hd7.fr f8 (two_off hd7 hx7)
  have b8 := b7.trans (hx7.isBelow f8 b7.size)
  have T8 : TwoI w w8 d bl x wv6 lv av8 tv8 (((DSt.new 4).write 0 P).write 1 Q) 4 (0 + 2) := ⟨hd8, hx8, by simp [DSt.new, DSt.write], by simp [DSt.new, DSt.write], by simp [DSt.new, DSt.write], by simp [DSt.new, DSt.write], b8⟩
  clear hr2 f8 k27 hd7 hx7 b7 hd8 hx8 b8
  have HT8 := hide T8
  clear T8
  go_wp2_with fail
  go_loopw [14] (fun i wr => ∃ (k : Nat) (s : DSt) (wv lv av tv : Value), k ≤ N ∧ k ≤ 20 ∧ i = .int .i64 k ∧ TwoI w wr d bl x wv lv av tv s 4 (k + 2)) (fun i _ => 20 - (intOf i).toNat)
  case atStart => exact ⟨0, _, _, _, _, _, by omega, by omega, rfl, HT8.out⟩
  case round =>
    obtain ⟨k, s, wv, lv, av, tv, hkN, hk20, rfl, T⟩ := hrel
    have HT := hide T
    clear T HT8
    by_cases hlt : k < N ∧ k < 20
    · obtain ⟨hlt1, hlt2⟩ := hlt
      obtain ⟨gl, ol, rfl, hgl, hrows⟩ := hL.2 (by rw [HN.out]; omega)
      have hkl : k < ss.length := by rw [HN.out]; exact hlt1
      obtain ⟨e0, e1, e2, eg⟩ := hrows k hkl
      obtain ⟨t, ht⟩ : ∃ t, t = ss[k] := ⟨_, rfl⟩
      rw [← ht] at e0 e1 e2 eg
      have HC := hide (fun w' (h : Below w.heap.size w w') => And.intro ((h.cell (p := ⟨gl, ol + k * 3, none⟩) hgl).trans e0) (And.intro ((h.cell (p := ⟨gl, ol + k * 3 + 1, none⟩) hgl).trans e1) ((h.cell (p := ⟨gl, ol + k * 3 + 2, none⟩) hgl).trans e2)))
      clear ht hrows e0 e1 e2 hkl
      obtain ⟨c0, c1, c2⟩ := HC.out wr HT.out.low
      have hk0 : (0 : Int) ≤ (k : Int) := by omega
      have hk1 : (k : Int) < (N : Int) := by omega
      have hAs := fun w => as_ok t w
      have hRr := fun w => rRight_ok t w
      by_cases hr : t.right = true
      · obtain ⟨i, hi⟩ : ∃ i, t.gen % 2 = i := ⟨_, rfl⟩
        have hi2 : i < 2 := by omega
        have hXl := superBytes_length t
        have hp := superPutE wr _ d bl wv s HT.out.hd (by rw [HT.out.hn]; omega) (by have := HT.out.h1; have := HT.out.h2; omega) t hr i hi _ rfl
        have hWt := fun w => rwriteE t hr w
        obtain ⟨X, hX⟩ : ∃ X, superBytes t = X := ⟨_, rfl⟩
        rw [hX] at hp hXl hWt
        rw [hr] at hRr
        clear hX hr
        obtain ⟨tg, ta, tl⟩ := t
        simp only at hi eg HC c0 c1 c2
        unfold superV at hp hAs hRr hWt
        simp only at hp hAs hRr hWt
        unfold strv at hWt
        have q1 : (tg : Int).tmod 2 = (i : Int) := by rw [Int.tmod_eq_emod_of_nonneg (by omega)]; omega
        have q2 : IntKind.i64.wrap (i : Int) = (i : Int) := IntWalk.i64_in _ (by omega)
        have q3 : IntKind.u64.wrap (i : Int) = (i : Int) := IntWalk.u64_in _ (by omega)
        have Hi := hide (And.intro hi2 hXl)
        clear hi hi2 hXl
        go_wp2_with fail
        refine hp.mono ?_
        rintro e w9 ⟨rfl, wv9, hd9, f9, _⟩
        have hx9 := HT.out.hx.fr f9 (two_off' HT.out.hd HT.out.hx)
        have b9 := HT.out.low.trans (HT.out.hd.isBelow f9 HT.out.low.size)
        have HU := hide (And.intro HT.out.hn (And.intro HT.out.h1 (And.intro HT.out.h2 HT.out.h3)))
        clear hp f9 HT c0 c1 c2
        obtain ⟨c0, c1, c2⟩ := HC.out w9 b9
        go_wp2_with fail
        refine (hAs w9).mono ?_
        rintro e w10 ⟨rfl, b10⟩
        have b10' := b9.trans (b10.mono b9.size)
        have hd10 := hd9.below b10 (Nat.le_refl _)
        have hx10 := hx9.below b10 (Nat.le_refl _)
        clear c0 c1 c2 hd9 hx9 b9 b10
        go_wp2_with fail
        refine (hRr w10).mono ?_
        rintro e w11 ⟨rfl, b11⟩
        have b11' := b10'.trans (b11.mono b10'.size)
        have hd11 := hd10.below b11 (Nat.le_refl _)
        have hx11 := hx10.below b11 (Nat.le_refl _)
        clear hd10 hx10 b10' b11 hRr
        have HD := hide (And.intro hd11 hx11)
        clear hd11 hx11
        go_upto_region 19 with fail
        obtain ⟨wz, hwz⟩ : ∃ wz, wz = w11 := ⟨_, rfl⟩
        rw [← hwz] at b11' HD ⊢
        clear hwz
        refine wp_region_held 16 (fun w' => w'.cell? ⟨gl, ol + k * 3, none⟩ = some (.int .u64 (tg : Int)) ∧ w'.cell? ⟨gl, ol + k * 3 + 1, none⟩ = some (.int .i64 ta) ∧ w'.cell? ⟨gl, ol + k * 3 + 2, none⟩ = some (.int .i64 tl)) (fun i => i == 12 || i == 13 || i == 14 || i == 15) (by kernel_rfl) (by kernel_rfl) (HC.out wz b11') (fun ops hops F hF => ?_)
        clear hops
        simp only [List.take_succ_cons, List.take_zero, List.drop_succ_cons, List.drop_zero] at hF ⊢
        iterate 12 (refine held_q rfl rfl ?_; apply Exists.intro; refine ⟨fun w' hw' => ?_, ?_⟩; (obtain ⟨x0, x1, x2⟩ := hw'; go_simp; rfl); simp only [Act.put, List.setIfInBounds_toArray, List.set_cons_zero, List.set_cons_succ, Nat.reduceAdd])
        refine held_loud rfl rfl (fun K2 hK2 => ?_)
        go_simp
        refine (hAs _).mono ?_
        rintro e w12 ⟨rfl, b12⟩
        have b12' : Below wz.heap.size wz w12 := Below.of_drew b12
        refine hK2 _ _ (HC.out w12 (b11'.trans (b12'.mono b11'.size))) ?_
        clear hK2 K2
        simp only [Act.put, List.setIfInBounds_toArray, List.set_cons_zero, List.set_cons_succ, Nat.reduceAdd]
        refine held_loud rfl rfl (fun K2 hK2 => ?_)
        go_simp
        refine (hWt _).mono ?_
        rintro e w13 ⟨rfl, b13⟩
        have b13' := b12'.trans (b13.mono b12'.size)
        refine hK2 _ _ (HC.out w13 (b11'.trans (b13'.mono b11'.size))) ?_
        clear hK2 K2
        simp only [Act.put, List.setIfInBounds_toArray, List.set_cons_zero, List.set_cons_succ, Nat.reduceAdd]
        obtain ⟨cp, w14, hcv, s14, b14⟩ := run_conv_bytes w13 X 128 Hi.out.2
        have b14' := b13'.trans (b14.mono b13'.size)
        refine held_loud rfl rfl (fun K2 hK2 => ?_)
        refine wp_convert 9 28 _ rfl hcv (hK2 _ _ (HC.out w14 (b11'.trans (b14'.mono b11'.size))) ?_)
        clear hK2 K2
        simp only [Act.put, List.setIfInBounds_toArray, List.set_cons_zero, List.set_cons_succ, Nat.reduceAdd]
        have hd14 := HD.out.1.below b14' (Nat.le_refl _)
        have hx14 := HD.out.2.below b14' (Nat.le_refl _)
        have b14w := b11'.trans (b14'.mono b11'.size)
        obtain ⟨gs, os, hgs, hgsl, hrs⟩ := s14.2 (by omega)
        injection hgs with hgs
        injection hgs with hg1 hg2
        subst hg1 hg2
        have hrw := refWrite_ok w14 _ x lv av tv s hx14 i (by rw [HU.out.1]; have := Hi.out.1; omega) w13.heap.size 0 cp X Hi.out.2 hrs (by
          intro he
          have := (HD.out.2.low _ (.inr (.inr (.inl he)))).2
          have := b13'.size
          omega) (by
          intro he
          have := (HD.out.2.low _ (.inr (.inr (.inr he)))).2
          have := b13'.size
          omega) (by have := HU.out.2.1; have := HU.out.2.2.1; omega)
        refine held_loud rfl rfl (fun K2 hK2 => ?_)
        go_simp
        refine hrw.mono ?_
        rintro e w15 ⟨rfl, av15, tv15, hx15, f15⟩
        have hd15 := hd14.fr f15 (two_off hd14 hx14)
        have b15 := b14w.trans (hx14.isBelow f15 b14w.size)
        refine hK2 _ _ (HC.out w15 b15) ?_
        clear hK2 K2
        simp only [Act.put, List.setIfInBounds_toArray, List.set_cons_zero, List.set_cons_succ, Nat.reduceAdd]
        have hT15 : TwoI w w15 d bl x wv9 lv av15 tv15 (s.write i X) 4 (k + 1 + 2) := ⟨hd15, hx15, HU.out.1, by have := HU.out.2.1; simp only [DSt.write, List.length_append, List.length_cons, List.length_nil]; omega, by have := HU.out.2.2.1; simp only [DSt.write]; omega, by have := HU.out.2.2.2; simp only [DSt.write]; omega, b15⟩
        have HT15 := hide hT15
        refine held_nil (hF _ _ ?_)
        clear hF F hT15 hd15 hx15 b15 hrw hcv s14 hrs hd14 hx14 b14w f15
        go_wp2
        go_roundw
        case rel => exact ⟨k + 1, _, _, _, _, _, by omega, by omega, by go_num, HT15.out⟩
        case measure => simp [intOf]; omega
      · have hr' : t.right = false := by simpa using hr
        have hp := superPut_no (.pointer (some ⟨d, 0, none⟩)) t hr' wr
        rw [hr'] at hRr
        clear hr hr'
        obtain ⟨tg, ta, tl⟩ := t
        simp only at eg HC c0 c1 c2
        unfold superV at hp hAs hRr
        simp only at hp hAs hRr
        go_wp2_with fail
        refine hp.mono ?_
        rintro e w9 ⟨rfl, b9⟩
        have HT9 := hide (HT.out.below b9 (Nat.le_refl _))
        clear c0 c1 c2 hp HT b9
        obtain ⟨c0, c1, c2⟩ := HC.out w9 HT9.out.low
        go_wp2_with fail
        refine (hAs w9).mono ?_
        rintro e w10 ⟨rfl, b10⟩
        have HT10 := hide (HT9.out.below b10 (Nat.le_refl _))
        clear c0 c1 c2 HT9 b10
        go_wp2_with fail
        refine (hRr w10).mono ?_
        rintro e w11 ⟨rfl, b11⟩
        have HT11 := hide (HT10.out.below b11 (Nat.le_refl _))
        clear HT10 b11 hRr hAs
        go_wp2
        go_roundw
        case rel => exact ⟨k + 1, _, _, _, _, _, by omega, by omega, by go_num, ⟨HT11.out.hd, HT11.out.hx, HT11.out.hn, by have := HT11.out.h1; omega, by have := HT11.out.h2; omega, by have := HT11.out.h3; omega, HT11.out.low⟩⟩
        case measure => simp [intOf]; omega
    · have hbn := both_newest wr _ d bl x wv lv av tv s HT.out.hd HT.out.hx (by rw [HT.out.hn]; omega)
      clear HN hL
      rcases (show ¬ k < N ∨ (k < N ∧ ¬ k < 20) by omega) with hx1 | hx1
      all_goals
        clear hlt
        go_wp2_with fail
        refine hbn.mono ?_
        rintro e w9 ⟨rfl, b9⟩
        have HT9 := hide (HT.out.below b9 (Nat.le_refl _))
        have hcr := crash_ok w9 _ d bl wv s HT9.out.hd (by rw [HT9.out.hn]; omega) K kn kc ks (hK.below HT9.out.low (Nat.le_refl _)) (fun a ha hn e => by
          have := hK.lt a ha hn
          have := HT9.out.hd.bb
          omega) hkn
        clear hbn b9 HT
        go_wp2_with fail
        refine hcr.mono ?_
        rintro e w10 ⟨rfl, hd10, f10⟩
        have hx10 := HT9.out.hx.fr f10 (two_off' HT9.out.hd HT9.out.hx)
        have b10 := HT9.out.low.trans (HT9.out.hd.isBelow f10 HT9.out.low.size)
        have hrc := refCrash_ok w10 _ x lv av tv s hx10 (by rw [HT9.out.hn]; omega) K kn kc false ks ks (hK.below b10 (Nat.le_refl _)) (fun a ha hn e => by
          have := hK.lt a ha hn
          have := (hx10.hl.lt _ e).1
          omega) hkn (fun k _ => by simp)
        have hsl : (s.crash ks).l.length = 4 := by simp only [DSt.crash, doneKeep_length]; exact HT9.out.hn
        clear hcr
        go_wp2_with fail
        refine hrc.mono ?_
        rintro e w11 ⟨rfl, hx11, f11⟩
        have hd11 := hd10.fr f11 (two_off hd10 hx10)
        have b11 := b10.trans (hx10.isBelow f11 b10.size)
        clear hrc f11 hd10 hx10 b10 f10
        have HD := hide (And.intro hd11 (And.intro hx11 hsl))
        clear hd11 hx11 hsl
        go_wp2_with fail
        refine (alive12 _).mono ?_
        rintro e w12 ⟨rfl, b12⟩
        have b12' := b11.trans (b12.mono b11.size)
        have hbn := both_newest w12 _ d bl x _ lv _ _ _ (HD.out.1.below b12 (Nat.le_refl _)) (HD.out.2.1.below b12 (Nat.le_refl _)) (by rw [HD.out.2.2]; omega)
        go_wp2_with fail
        refine hbn.mono ?_
        rintro e w13 ⟨rfl, b13⟩
        go_wp2
        go_ret
        exact ⟨rfl, b12'.trans (b13.mono b12'.size)⟩
theorem snew_any (w : World) (A : Option Addr) (n cA : Nat) (la : List UInt8) (hla : la.length = n) (oA : la.length ≤ 9223372036854775807 ∧ SlAt w A n (bvs la)) (B : Option Addr) (m cB : Nat) (lb : List UInt8) (hlb : lb.length = m) (oB : lb.length ≤ 9223372036854775807 ∧ SlAt w B m (bvs lb))
    (L : Option Addr) (N cL : Nat) (ss : List SU) (hN : ss.length = N) (oL : SupsAt w L ss) (K : Option Addr) (kn kc : Nat) (ks : List Bool) (hkl : ks.length = kn) (oK : ks.length ≤ 9223372036854775807 ∧ SlAt w K kn (ks.map .bool)) :
    Calls Try.prog 17 #[.slice A n cA, .slice B m cB, .slice L N cL, .slice K kn kc] w fun e w' => e = .returned (.bool true) ∧ Below w.heap.size w w' := by
  subst hN
  exact snew_core w A n cA la oA.2 (by omega) B m cB lb oB.2 (by omega) L cL ss oL K kn kc ks oK.2 (by omega)
end Go.Proofs.Ytnnhklembdaieaa
