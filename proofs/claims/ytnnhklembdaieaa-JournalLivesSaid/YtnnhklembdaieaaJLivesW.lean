/- JournalLives: the walk. -/
import Derived.Test.YtnnhklembdaieaaRJ2
namespace Go.Proofs.Ytnnhklembdaieaa
open Go.RowKit
set_option linter.unusedSimpArgs false
set_option linter.unusedVariables false

set_option maxRecDepth 100000 in
set_option maxHeartbeats 6400000 in
theorem jlives_out (w : World) (n : Int) (A : Option Addr) (N cA : Nat) (ask : Int) (hn : n < 4 ∨ 40 < n) :
    Calls Try.prog 9 #[.int .i64 n, .slice A N cA, .int .i64 ask] w fun e w' => e = .returned (.bool true) ∧ Below w.heap.size w w' := by
  rcases (show n < 4 ∨ (4096 < n ∧ 4 ≤ n) ∨ (40 < n ∧ n ≤ 4096) by omega) with h | ⟨h, h'⟩ | ⟨h, h'⟩
  · have HN := hide (new_no n w (.inl h))
    have t1 : decide (n ≥ 4) = false := by simpa using h
    clear hn
    go_enter Try.func9, Try.ntmps9
    go_wp2_with (go_at_call 21; refine HN.out.mono ?_; rintro e w' ⟨rfl, rfl⟩)
    refine (alive14 _).mono ?_
    rintro e w' ⟨rfl, b⟩
    go_wp2
    go_ret
    exact ⟨rfl, b⟩
  · have HN := hide (new_no n w (.inr h))
    have t1 : decide (n ≥ 4) = true := by simpa using h'
    have t2 : decide (n ≤ 4096) = false := by simpa using h
    clear hn
    go_enter Try.func9, Try.ntmps9
    go_wp2_with (go_at_call 21; refine HN.out.mono ?_; rintro e w' ⟨rfl, rfl⟩)
    refine (alive14 _).mono ?_
    rintro e w' ⟨rfl, b⟩
    go_wp2
    go_ret
    exact ⟨rfl, b⟩
  · obtain ⟨m, rfl⟩ : ∃ m : Nat, n = m := ⟨n.toNat, by omega⟩
    have HN := hide (newE m w (by omega) (by omega))
    have t1 : decide ((m : Int) ≥ 4) = true := by simp; omega
    have t2 : decide ((m : Int) ≤ 4096) = true := by simp; omega
    have t3 : decide ((m : Int) > 40) = true := by simp; omega
    clear hn
    go_enter Try.func9, Try.ntmps9
    go_wp2_with fail
    refine HN.out.mono ?_
    rintro e w1 ⟨d, bl, rfl, -, b1⟩
    go_wp2_with fail
    refine (alive14 _).mono ?_
    rintro e w' ⟨rfl, b⟩
    go_wp2
    go_ret
    exact ⟨rfl, b1.trans (b.mono b1.size)⟩
theorem Mid2.yx {w0 w : World} {d x y c k : Nat} {D : DSt} {ks : List Bool} (h : Mid2 w0 w d x y c k ks D) : w.cell? ⟨y, 0, none⟩ = some (.pointer (some ⟨x, 0, none⟩)) := by
  obtain ⟨bl, lv, g, a, l, R, hd, hx, hy, h1⟩ := h
  exact hy
set_option maxRecDepth 100000 in
set_option maxHeartbeats 12800000 in
theorem jlives_core (w : World) (n : Nat) (h4 : 4 ≤ n) (h40 : n ≤ 40) (A : Option Addr) (N cA : Nat) (ops : List JOpM) (hN : ops.length = N) (hA : JOpsAt w A ops) (ask : Int) :
    Calls Try.prog 9 #[.int .i64 (n : Int), .slice A N cA, .int .i64 ask] w fun e w' => e = .returned (.bool true) ∧ Below w.heap.size w w' := by
  have hlen := hA.1
  rw [hN] at hlen
  have HN := hide hN
  have t3 : decide ((n : Int) > 40) = false := by simp; omega
  clear hN
  go_enter Try.func9, Try.ntmps9
  go_wp2_with fail
  refine (newE n w (by omega) (by omega)).mono ?_
  rintro e w1 ⟨d, bl, rfl, h1, b1⟩
  have HF := hide (run_format w w1 d bl n (by omega) (by omega) h1 b1)
  clear h1 b1
  go_wp2_with fail
  refine HF.out.mono ?_
  rintro e w2 ⟨j, rfl, R2⟩
  have HR2 := hide R2
  clear HF R2
  go_wp2_with fail
  refine (refNew n w2 (by omega) (by omega)).mono ?_
  rintro e w3 ⟨x, lv, rfl, hx, b3⟩
  have HX := hide (pair_format (by omega) (by omega) (HR2.out.below b3) (hx.base_ HR2.out.low.size))
  clear hx b3 HR2
  go_wp2_with fail
  refine HX.out.mono ?_
  rintro e w4 ⟨y, rfl, hp4⟩
  have HP4 := hide hp4
  clear HX hp4
  obtain ⟨c, hc⟩ : ∃ c, c = (n - 2) / 2 := ⟨_, rfl⟩
  rw [← hc] at HP4
  clear hc
  go_wp2_with fail
  go_loopw [9, 11, 12] (fun jv yv i wr => ∃ (q j y : Nat) (D : DSt) (J : JSt), q ≤ N ∧ q ≤ 40 ∧ i = .int .i64 q ∧ jv = .pointer (some ⟨j, 0, none⟩) ∧ yv = .pointer (some ⟨y, 0, none⟩) ∧ PairE w wr d j x y c (1 + q) D J D J) (fun _ _ i _ => 40 - (intOf i).toNat)
  case atStart => obtain ⟨D, J, hp⟩ := HP4.out; exact ⟨0, j, y, D, J, by omega, by omega, rfl, rfl, rfl, hp⟩
  case round =>
    clear HP4
    obtain ⟨q, j, y, D, J, hqN, hq40, rfl, rfl, rfl, hp⟩ := hrel
    have HP := hide hp
    clear hp
    by_cases hlt : q < N ∧ q < 40
    · obtain ⟨hlt1, hlt2⟩ := hlt
      obtain ⟨g, o, rfl, hg, hops⟩ := hA.2 (by rw [HN.out]; omega)
      have hkl : q < ops.length := by rw [HN.out]; exact hlt1
      obtain ⟨m, hm⟩ : ∃ m, m = ops[q] := ⟨_, rfl⟩
      have hop := hops q hkl
      rw [← hm] at hop
      have hopr := (hop.below HP.out.low hg)
      have c0 := hopr.c0
      have c1 := hopr.c1
      have c2 := hopr.c2
      have c3 := hopr.c3
      have hk0 : (0 : Int) ≤ (q : Int) := by omega
      have hk1 : (q : Int) < (N : Int) := by omega
      have HOP := hide hop
      clear hops hkl hm hop hopr
      go_upto_region 12 with fail
      obtain ⟨kd, bA, bc, b, lA, lc, lrows, kA, kc, keep⟩ := m
      simp only at c0 c1 c2 c3 HOP
      obtain ⟨w3, hw3⟩ : ∃ w3, w3 = wr.alloc (.cells #[.int .i64 kd, .slice bA b.length bc, .slice lA lrows.length lc, .slice kA keep.length kc] 91) := ⟨_, rfl⟩
      obtain ⟨p, hp⟩ : ∃ p, p = wr.heap.size := ⟨_, rfl⟩
      have hb3 : Below wr.heap.size wr w3 := by rw [hw3]; exact (Below.refl _ _).alloc (Nat.le_refl _) _
      have kp : Blk w3 p 91 #[.int .i64 kd, .slice bA b.length bc, .slice lA lrows.length lc, .slice kA keep.length kc] := by rw [hw3, hp]; exact Blk.new wr _ _
      rw [← hw3, ← hp]
      have P3 := HP.out.below hb3
      have HP3 := hide P3
      have y0 := kp.cell 0
      have y1 := kp.cell 1
      have y2 := kp.cell 2
      have y3 := kp.cell 3
      simp at y0 y1 y2 y3
      have HKP := hide kp
      have HG := hide (great_ok w3 kd bA b.length bc HOP.out.mb lA lrows.length lc lrows rfl (HOP.out.hl.below P3.low) (.slice kA keep.length kc) rfl)
      clear hw3 hp kp P3 HP c0 c1 c2 c3 hb3
      go_wp2_with fail
      refine HG.out.mono ?_
      rintro e w4 ⟨rfl, b4⟩
      have HP4 := hide (HP3.out.below b4)
      have kp4 := HKP.out.below b4 HKP.out.lt
      have x0 := kp4.cell 0
      have x1 := kp4.cell 1
      have x2 := kp4.cell 2
      have x3 := kp4.cell 3
      simp at x0 x1 x2 x3
      have HKP4 := hide kp4
      clear HP3 kp4 HKP HG y0 y1 y2 y3 b4
      obtain ⟨gr, hgr⟩ : ∃ gr, gr = greatO b.length (lrows.map (·.l.length)) := ⟨_, rfl⟩
      rw [← hgr]
      cases gr
      rotate_left
      · clear hgr
        go_wp2_with fail
        refine (alive14 _).mono ?_
        rintro e w5 ⟨rfl, b5⟩
        clear x0 x1 x2 x3
        go_wp2
        go_ret
        exact ⟨rfl, HP4.out.low.trans (b5.mono HP4.out.low.size)⟩
      · have hbl : b.length ≤ 2100 := JOpM.notGreat (m := ⟨kd, bA, bc, b, lA, lc, lrows, kA, kc, keep⟩) hgr.symm
        have hll : lrows.length ≤ 40 := by
          have h := hgr.symm
          unfold greatO at h
          simp only [Bool.or_eq_false_iff, decide_eq_false_iff_not, List.length_map] at h
          omega
        clear hgr
        by_cases hk0' : kd = 0
        · subst hk0'
          have HAP := hide (pair_append_j HP4.out (by omega) bA b.length bc b HOP.out.hb HOP.out.mb)
          obtain ⟨r1, hr1⟩ : ∃ r, r = (japp c J b).2.1 := ⟨_, rfl⟩
          obtain ⟨r2, hr2⟩ : ∃ r, r = (japp c J b).2.2 := ⟨_, rfl⟩
          rw [← hr1, ← hr2] at HAP
          have HRE := hide (And.intro hr1 hr2)
          clear hr1 hr2
          go_wp2_with fail
          refine HAP.out.mono ?_
          rintro e w5 ⟨rfl, P5, kp5⟩
          have kq5 := kp5 _ _ HKP4.out
          have v1 : w5.cell? ⟨p, 1, none⟩ = some (.slice bA b.length bc) := (kq5.cell 1).trans rfl
          have HX := pair_append_x b P5 (by omega) bA b.length bc HOP.out.hb HOP.out.mb
          rw [← HRE.out.1, ← HRE.out.2] at HX
          have HX' := hide HX
          clear HX P5 kp5 kq5 HAP x0 x1 x2 x3
          go_wp2_with fail
          refine HX'.out.mono ?_
          rintro e w6 ⟨rfl, P6, -⟩
          have PP := hide P6
          clear HX' P6 v1
          have HT := hide (pair_tells PP.out)
          clear PP
          go_wp2_with fail
          refine HT.out.mono ?_
          rintro e w7 ⟨rfl, P7, b7⟩
          have HFJ := hide (pair_fits_j P7 ask)
          clear P7 b7 HT
          go_wp2_with fail
          refine HFJ.out.mono ?_
          rintro e w8 ⟨rfl, P8, b8⟩
          have HFX := hide (pair_fits_x P8 ask)
          clear P8 b8 HFJ
          go_wp2_with fail
          refine HFX.out.mono ?_
          rintro e w9 ⟨rfl, P9, b9⟩
          have PP := hide P9
          clear P9 b9 HFX
          go_wp2
          go_roundw
          case rel => exact ⟨q + 1, _, _, _, _, by omega, by omega, by go_num, rfl, rfl, by rw [show 1 + (q + 1) = 1 + q + 1 by omega]; exact PP.out⟩
          case measure => simp [intOf] <;> omega
        · by_cases hk1' : kd = 1
          · subst hk1'
            have HST := hide (pair_step_j HP4.out (by omega))
            have HSS := hide (And.intro (HP4.out.gen (by omega)).1 (HP4.out.steps (by omega)))
            obtain ⟨D', hD'⟩ : ∃ r, r = (jstep c D J).1 := ⟨_, rfl⟩
            obtain ⟨J', hJ'⟩ : ∃ r, r = (jstep c D J).2.1 := ⟨_, rfl⟩
            obtain ⟨r2, hr2⟩ : ∃ r, r = (jstep c D J).2.2 := ⟨_, rfl⟩
            have HX : ∀ w5, PairE w w5 d j x y c (1 + q + 1) (jstep c D J).1 (jstep c D J).2.1 D J → _ := fun w5 P => pair_step_x P (by omega) HSS.out.1 HSS.out.2
            rw [← hD', ← hJ', ← hr2] at HST HX
            have HX' := hide HX
            clear HX hD' hJ' hr2 hk0'
            go_wp2_with fail
            refine HST.out.mono ?_
            rintro e w5 ⟨rfl, P5, -⟩
            have HX := hide (HX'.out w5 P5)
            clear P5 HST HX' x0 x1 x2 x3
            go_wp2_with fail
            refine HX.out.mono ?_
            rintro e w6 ⟨rfl, P6, -⟩
            have PP := hide P6
            clear HX P6
            have HT := hide (pair_tells PP.out)
            clear PP
            go_wp2_with fail
            refine HT.out.mono ?_
            rintro e w7 ⟨rfl, P7, b7⟩
            have HFJ := hide (pair_fits_j P7 ask)
            clear P7 b7 HT
            go_wp2_with fail
            refine HFJ.out.mono ?_
            rintro e w8 ⟨rfl, P8, b8⟩
            have HFX := hide (pair_fits_x P8 ask)
            clear P8 b8 HFJ
            go_wp2_with fail
            refine HFX.out.mono ?_
            rintro e w9 ⟨rfl, P9, b9⟩
            have PP := hide P9
            clear P9 b9 HFX
            go_wp2
            go_roundw
            case rel => exact ⟨q + 1, _, _, _, _, by omega, by omega, by go_num, rfl, rfl, by rw [show 1 + (q + 1) = 1 + q + 1 by omega]; exact PP.out⟩
            case measure => simp [intOf] <;> omega
          · by_cases hk2' : kd = 2
            · subst hk2'
              have bd : Below w4.heap.size w4 w4.drew := (Below.refl _ _).drew
              have PD := HP4.out.below bd
              have kd4 := HKP4.out.drew
              have z2 : w4.drew.cell? ⟨p, 2, none⟩ = some (.slice lA lrows.length lc) := (kd4.cell 2).trans rfl
              have HAN := hide (pair_anew_j PD (by omega) lA lrows.length lc lrows rfl (HOP.out.hl.below PD.low) (by omega))
              have HSS := hide (And.intro (PD.gen (by omega)) (PD.anews (by omega) (lrows.map (·.l))))
              obtain ⟨D', hD'⟩ : ∃ r, r = (janew c D J (lrows.map (·.l))).1 := ⟨_, rfl⟩
              obtain ⟨J', hJ'⟩ : ∃ r, r = (janew c D J (lrows.map (·.l))).2.1 := ⟨_, rfl⟩
              obtain ⟨r2, hr2⟩ : ∃ r, r = (janew c D J (lrows.map (·.l))).2.2 := ⟨_, rfl⟩
              have HX : ∀ w5, PairE w w5 d j x y c (1 + q + 1) (janew c D J (lrows.map (·.l))).1 (janew c D J (lrows.map (·.l))).2.1 D J → TextsAt w5 lA lrows → _ := fun w5 P ht => pair_anew_x lrows P (by omega) HSS.out.1.1 HSS.out.1.2 HSS.out.2 lA lrows.length lc rfl ht (by omega)
              rw [← hD', ← hJ', ← hr2] at HAN HX
              have HX' := hide HX
              have HKD := hide kd4
              clear HX hD' hJ' hr2 hk0' hk1' bd PD kd4 x1 x3
              go_wp2_with fail
              refine wp_region_held 10 (fun w' => w'.cell? ⟨p, 2, none⟩ = some (.slice lA lrows.length lc)) (fun i => i == 3 || i == 7) (by kernel_rfl) (by kernel_rfl) z2 (fun ops' hops F hF => ?_)
              clear hops
              simp only [List.take_succ_cons, List.take_zero, List.drop_succ_cons, List.drop_zero] at hF ⊢
              iterate 3 (refine held_q rfl rfl ?_; apply Exists.intro; refine ⟨fun w' hw' => ?_, ?_⟩; (go_simp; rfl); simp only [Act.put, List.setIfInBounds_toArray, List.set_cons_zero, List.set_cons_succ, Nat.reduceAdd])
              refine held_loud rfl rfl (fun K hK => ?_)
              go_simp
              refine HAN.out.mono ?_
              rintro e w5 ⟨rfl, P5, kp5⟩
              have HK5 := hide (kp5 _ _ HKD.out)
              refine hK _ _ ((HK5.out.cell 2).trans rfl) ?_
              have HX := hide (HX'.out w5 P5 (HOP.out.hl.below P5.low))
              clear hK K P5 kp5 HX' HAN z2 x0 x2
              simp only [Act.put, List.setIfInBounds_toArray, List.set_cons_zero, List.set_cons_succ, Nat.reduceAdd]
              iterate 3 (refine held_q rfl rfl ?_; apply Exists.intro; refine ⟨fun w' hw' => ?_, ?_⟩; (go_simp; rfl); simp only [Act.put, List.setIfInBounds_toArray, List.set_cons_zero, List.set_cons_succ, Nat.reduceAdd])
              refine held_loud rfl rfl (fun K hK => ?_)
              go_simp
              refine HX.out.mono ?_
              rintro e w6 ⟨rfl, P6, kp6⟩
              refine hK _ _ (((kp6 _ _ HK5.out).cell 2).trans rfl) ?_
              have PP := hide P6
              clear hK K P6 kp6 HX
              simp only [Act.put, List.setIfInBounds_toArray, List.set_cons_zero, List.set_cons_succ, Nat.reduceAdd]
              iterate 2 (refine held_q rfl rfl ?_; apply Exists.intro; refine ⟨fun w' hw' => ?_, ?_⟩; (go_simp; rfl); simp only [Act.put, List.setIfInBounds_toArray, List.set_cons_zero, List.set_cons_succ, Nat.reduceAdd])
              refine held_nil (hF _ _ ?_)
              clear hF F
              go_wp2_with fail
              have HT := hide (pair_tells PP.out)
              clear PP
              go_wp2_with fail
              refine HT.out.mono ?_
              rintro e w7 ⟨rfl, P7, b7⟩
              have HFJ := hide (pair_fits_j P7 ask)
              clear P7 b7 HT
              go_wp2_with fail
              refine HFJ.out.mono ?_
              rintro e w8 ⟨rfl, P8, b8⟩
              have HFX := hide (pair_fits_x P8 ask)
              clear P8 b8 HFJ
              go_wp2_with fail
              refine HFX.out.mono ?_
              rintro e w9 ⟨rfl, P9, b9⟩
              have PP := hide P9
              clear P9 b9 HFX
              go_wp2
              go_roundw
              case rel => exact ⟨q + 1, _, _, _, _, by omega, by omega, by go_num, rfl, rfl, by rw [show 1 + (q + 1) = 1 + q + 1 by omega]; exact PP.out⟩
              case measure => simp [intOf] <;> omega
            · by_cases hk3' : kd = 3
              · subst hk3'
                have HCR := hide (pair_crash HP4.out kA keep.length kc keep HOP.out.hk HOP.out.mkp)
                clear hk0' hk1' hk2' x1 x2
                go_wp2_with fail
                refine HCR.out.mono ?_
                rintro e w5 ⟨rfl, M1, kp5⟩
                have bd : Below w5.heap.size w5 w5.drew := (Below.refl _ _).drew
                have M1d := M1.below bd
                have kd5 := (kp5 _ _ HKP4.out).drew
                have z3 : w5.drew.cell? ⟨p, 3, none⟩ = some (.slice kA keep.length kc) := (kd5.cell 3).trans rfl
                have zy := M1d.yx
                have HMC := hide (mid_crash M1d kA keep.length kc HOP.out.hk HOP.out.mkp)
                have HKD := hide kd5
                clear M1 M1d kp5 kd5 bd x0 x3 HCR
                go_wp2_with fail
                refine wp_region_held 7 (fun w' => w'.cell? ⟨p, 3, none⟩ = some (.slice kA keep.length kc) ∧ w'.cell? ⟨y, 0, none⟩ = some (.pointer (some ⟨x, 0, none⟩))) (fun i => i == 6) (by kernel_rfl) (by kernel_rfl) ⟨z3, zy⟩ (fun ops' hops F hF => ?_)
                clear hops
                simp only [List.take_succ_cons, List.take_zero, List.drop_succ_cons, List.drop_zero] at hF ⊢
                iterate 6 (refine held_q rfl rfl ?_; apply Exists.intro; refine ⟨fun w' hw' => ?_, ?_⟩; (obtain ⟨u0, u1⟩ := hw'; go_simp; rfl); simp only [Act.put, List.setIfInBounds_toArray, List.set_cons_zero, List.set_cons_succ, Nat.reduceAdd])
                refine held_loud rfl rfl (fun K hK => ?_)
                go_simp
                refine HMC.out.mono ?_
                rintro e w6 ⟨rfl, M2, kp6⟩
                have zy6 := M2.yx
                refine hK _ _ ⟨((kp6 _ _ HKD.out).cell 3).trans rfl, zy6⟩ ?_
                have HOJ := hide (mid_open_j M2)
                clear hK K M2 kp6 HKD HMC z3 zy zy6
                simp only [Act.put, List.setIfInBounds_toArray, List.set_cons_zero, List.set_cons_succ, Nat.reduceAdd]
                refine held_nil (hF _ _ ?_)
                clear hF F
                go_wp2_with fail
                refine HOJ.out.mono ?_
                rintro e w7 ⟨j', A7, n7, cp7, rows7, rfl, hr7, M3, -⟩
                have zy7 := M3.yx
                have HOX := hide (mid_open_x M3 (by omega))
                have HR7 := hide hr7
                clear M3 HOJ hr7
                go_wp2_with fail
                refine HOX.out.mono ?_
                rintro e w8 ⟨y', A8, n8, cp8, rows8, rfl, hr8, hrows, ⟨D', J', P8⟩, t7, t8, -⟩
                have hs := same_rows w8 A7 A8 n7 n8 cp7 cp8 rows7 rows8 HR7.out hr8 t7 t8
                have hsd : decide (rows7.map (·.l) = rows8.map (·.l)) = true := by simpa using hrows
                rw [hsd] at hs
                have HSM := hide hs
                have HP8 := hide P8
                clear hs hsd P8 t7 t8 hrows hr8 HOX zy7
                go_wp2_with fail
                refine HSM.out.mono ?_
                rintro e w9 ⟨rfl, b9⟩
                have PP := hide (HP8.out.below b9)
                clear b9 HSM HP8
                go_wp2_with fail
                have HT := hide (pair_tells PP.out)
                clear PP
                go_wp2_with fail
                refine HT.out.mono ?_
                rintro e w7 ⟨rfl, P7, b7⟩
                have HFJ := hide (pair_fits_j P7 ask)
                clear P7 b7 HT
                go_wp2_with fail
                refine HFJ.out.mono ?_
                rintro e w8 ⟨rfl, P8, b8⟩
                have HFX := hide (pair_fits_x P8 ask)
                clear P8 b8 HFJ
                go_wp2_with fail
                refine HFX.out.mono ?_
                rintro e w9 ⟨rfl, P9, b9⟩
                have PP := hide P9
                clear P9 b9 HFX
                go_wp2
                go_roundw
                case rel => exact ⟨q + 1, _, _, _, _, by omega, by omega, by go_num, rfl, rfl, by rw [show 1 + (q + 1) = 1 + q + 1 by omega]; exact PP.out⟩
                case measure => simp [intOf] <;> omega
              · have t0 : (kd == 0) = false := by simpa using hk0'
                have t1 : (kd == 1) = false := by simpa using hk1'
                have t2 : (kd == 2) = false := by simpa using hk2'
                have t4 : (kd == 3) = false := by simpa using hk3'
                have PP := hide (HP4.out.more (show 1 + q ≤ 1 + q + 1 by omega) (by omega))
                clear hk0' hk1' hk2' hk3' x1 x2 x3
                go_wp2_with fail
                have HT := hide (pair_tells PP.out)
                clear PP
                go_wp2_with fail
                refine HT.out.mono ?_
                rintro e w7 ⟨rfl, P7, b7⟩
                have HFJ := hide (pair_fits_j P7 ask)
                clear P7 b7 HT
                go_wp2_with fail
                refine HFJ.out.mono ?_
                rintro e w8 ⟨rfl, P8, b8⟩
                have HFX := hide (pair_fits_x P8 ask)
                clear P8 b8 HFJ
                go_wp2_with fail
                refine HFX.out.mono ?_
                rintro e w9 ⟨rfl, P9, b9⟩
                have PP := hide P9
                clear P9 b9 HFX
                go_wp2
                go_roundw
                case rel => exact ⟨q + 1, _, _, _, _, by omega, by omega, by go_num, rfl, rfl, by rw [show 1 + (q + 1) = 1 + q + 1 by omega]; exact PP.out⟩
                case measure => simp [intOf] <;> omega
    · clear HN hA
      have hlo := hide HP.out.low
      clear HP
      rcases (show ¬ q < N ∨ (q < N ∧ ¬ q < 40) by omega) with hx1 | hx1
      all_goals
        clear hlt
        go_wp2_with fail
        obtain ⟨w5, hw5⟩ : ∃ w5, w5 = (wr.alloc (Obj.cells #[Value.pointer none, Value.int IntKind.i64 0, Value.int IntKind.i64 0, Value.int IntKind.i64 0, Value.int IntKind.i64 0, Value.int IntKind.u64 0, Value.int IntKind.i64 0, Value.int IntKind.i64 0, Value.slice none 0 0, Value.int IntKind.i64 0, Value.int IntKind.i64 0, Value.int IntKind.i64 0, Value.int IntKind.i64 0, Value.int IntKind.i64 0, Value.int IntKind.i64 0, Value.int IntKind.i64 0] 119)).alloc (Obj.cells #[Value.int IntKind.u8 1] 5) := ⟨_, rfl⟩
        obtain ⟨z, hz⟩ : ∃ z, z = wr.heap.size := ⟨_, rfl⟩
        obtain ⟨z', hz'⟩ : ∃ z, z = wr.heap.size + 1 := ⟨_, rfl⟩
        have b5 : Below wr.heap.size wr w5 := by rw [hw5]; exact ((Below.refl _ _).alloc (Nat.le_refl _) _).alloc (by simp) _
        have zk : Blk w5 z 119 #[Value.pointer none, Value.int IntKind.i64 0, Value.int IntKind.i64 0, Value.int IntKind.i64 0, Value.int IntKind.i64 0, Value.int IntKind.u64 0, Value.int IntKind.i64 0, Value.int IntKind.i64 0, Value.slice none 0 0, Value.int IntKind.i64 0, Value.int IntKind.i64 0, Value.int IntKind.i64 0, Value.int IntKind.i64 0, Value.int IntKind.i64 0, Value.int IntKind.i64 0, Value.int IntKind.i64 0] := by rw [hw5, hz]; exact (Blk.new wr _ _).alloc _
        rw [← hw5, ← hz', ← hz]
        have z0 : w5.cell? ⟨z, 0, none⟩ = some (.pointer none) := (zk.cell 0).trans rfl
        have HB5 := hide (hlo.out.trans (b5.mono hlo.out.size))
        have hzl := zk.lt
        clear hw5 hz hz' b5 zk hlo
        refine (jappend_nil w5 _).mono ?_
        rintro e w' ⟨rfl, hw⟩
        rw [← hw]
        clear hw w'
        go_wp2_with (first
          | (go_at_call 49; refine (jstep_zero w5 z z0).mono ?_; rintro e w' ⟨rfl, hw⟩; rw [← hw]; clear hw w')
          | (go_at_call 45; refine (jformat_nil w5).mono ?_; rintro e w' ⟨rfl, hw⟩; rw [← hw]; clear hw w'))
        refine (alive14 _).mono ?_
        rintro e w6 ⟨rfl, b6⟩
        have z6 : w6.cell? ⟨z, 0, none⟩ = some (.pointer none) := (b6.cell (p := ⟨z, 0, none⟩) hzl).trans z0
        have HB6 := hide (HB5.out.trans (b6.mono HB5.out.size))
        have hzl6 : z < w6.heap.size := by have := b6.size; omega
        clear z0 b6 HB5 hzl
        go_wp2_with fail
        refine (janew_nil w6 _).mono ?_
        rintro e w' ⟨rfl, hw⟩
        rw [← hw]
        clear hw w'
        go_wp2_with fail
        refine (janew_zero w6 z z6 _).mono ?_
        rintro e w' ⟨rfl, hw⟩
        rw [← hw]
        clear hw w'
        go_wp2_with fail
        refine (jdone_nil w6).mono ?_
        rintro e w' ⟨rfl, hw⟩
        rw [← hw]
        clear hw w'
        go_wp2_with fail
        refine (jall_zero w6 z z6).mono ?_
        rintro e w' ⟨rfl, hw⟩
        rw [← hw]
        clear hw w'
        go_wp2_with fail
        refine (jstage_nil w6).mono ?_
        rintro e w' ⟨rfl, hw⟩
        rw [← hw]
        clear hw w'
        go_wp2_with fail
        have HS := jsuper_nil w6
        unfold sv at HS
        refine HS.mono ?_
        rintro e w7 ⟨rfl, b7⟩
        have z7 : w7.cell? ⟨z, 0, none⟩ = some (.pointer none) := (b7.cell (p := ⟨z, 0, none⟩) hzl6).trans z6
        have HB7 := hide (HB6.out.trans (b7.mono HB6.out.size))
        clear z6 b7 HB6 hzl6 HS
        go_wp2_with fail
        refine (jfits_nil w7).mono ?_
        rintro e w' ⟨rfl, hw⟩
        rw [← hw]
        clear hw w'
        go_wp2_with fail
        refine (jfits_zero w7 z z7).mono ?_
        rintro e w' ⟨rfl, hw⟩
        rw [← hw]
        clear hw w'
        go_wp2
        go_ret
        exact ⟨rfl, HB7.out⟩
theorem jlives_any (w : World) (n : Int) (A : Option Addr) (N cA : Nat) (ops : List JOpM) (hN : ops.length = N) (hA : JOpsAt w A ops) (ask : Int) :
    Calls Try.prog 9 #[.int .i64 n, .slice A N cA, .int .i64 ask] w fun e w' => e = .returned (.bool true) ∧ Below w.heap.size w w' := by
  by_cases h : 4 ≤ n ∧ n ≤ 40
  · obtain ⟨m, rfl⟩ : ∃ m : Nat, n = m := ⟨n.toNat, by omega⟩
    exact jlives_core w m (by omega) (by omega) A N cA ops hN hA ask
  · exact jlives_out w n A N cA ask (by omega)
end Go.Proofs.Ytnnhklembdaieaa
