/- DiskLives: the walk. -/
import Derived.Test.YtnnhklembdaieaaLastW
import Derived.Test.YtnnhklembdaieaaRefD
import Derived.Lib.SmallJoins
import Derived.Deep.CutRange
import Derived.Deep.DeepCutAuto
import Derived.Deep.CutBlock
namespace Go.Proofs.Ytnnhklembdaieaa
open Go.RowKit
set_option linter.unusedSimpArgs false
set_option linter.unusedVariables false

set_option maxRecDepth 100000 in
set_option maxHeartbeats 1600000 in
theorem lives_bad (w : World) (av : Value) (n : Int) (hn : n < 4 ∨ 4096 < n) :
    Calls Try.prog 4 #[.int .i64 n, av] w fun e w' => e = .returned (.bool true) ∧ Below w.heap.size w w' := by
  have hno := new_no n w hn
  have hd : (decide (n < 4) = true) ∨ (decide (n < 4) = false ∧ decide (n > 4096) = true) := by
    by_cases h : n < 4
    · exact .inl (by simp [h])
    · exact .inr ⟨by simp [h], by simp; omega⟩
  clear hn
  rcases hd with hd | ⟨hd, hd2⟩
  all_goals
    go_enter Try.func4, Try.ntmps4
    go_wp2_with fail
    refine hno.mono ?_
    rintro e w1 ⟨rfl, rfl⟩
    go_wp2_with fail
    refine (alive11 _).mono ?_
    rintro e w2 ⟨rfl, b2⟩
    go_wp2
    go_ret
    exact ⟨rfl, b2⟩

theorem RefAt.lower {w : World} {base b x : Nat} {lv av tv : Value} {s : DSt} (h : RefAt w base x lv av tv s) (hb : b ≤ base) : RefAt w b x lv av tv s :=
  ⟨h.ok, h.hx, Go.Joins.ownsRow_le h.hl hb, Go.Joins.ownsRow_le h.ha hb, Go.Joins.ownsRow_le h.ht hb, h.ne, Nat.le_trans hb h.bx⟩

/-- both disks lie there, in one state. -/
structure TwoI (w0 w : World) (d bl x : Nat) (wv lv av tv : Value) (s : DSt) (n k : Nat) : Prop where
  hd : DiskAt w w0.heap.size d bl wv s
  hx : RefAt w w0.heap.size x lv av tv s
  hn : s.l.length = n
  h1 : s.waits.length ≤ k
  h2 : s.writes ≤ k
  h3 : s.syncs ≤ k
  low : Below w0.heap.size w0 w

theorem TwoI.fr {w0 w w' : World} {S : Nat → Prop} {d bl x n k : Nat} {wv lv av tv : Value} {s : DSt} (h : TwoI w0 w d bl x wv lv av tv s n k) (hf : Fr S w w') (h1 : ∀ k, dfoot d bl wv k → ¬ S k) (h2 : ∀ k, rfoot x lv av tv k → ¬ S k) (h3 : ∀ k, S k → w0.heap.size ≤ k) : TwoI w0 w' d bl x wv lv av tv s n k :=
  ⟨h.hd.fr hf h1, h.hx.fr hf h2, h.hn, h.h1, h.h2, h.h3, h.low.trans (hf.below h.low.size h3)⟩
theorem TwoI.below {w0 w w' : World} {B d bl x n k : Nat} {wv lv av tv : Value} {s : DSt} (h : TwoI w0 w d bl x wv lv av tv s n k) (hb : Below B w w') (hB : w.heap.size ≤ B) : TwoI w0 w' d bl x wv lv av tv s n k :=
  h.fr (Fr.ofBelow hb) (fun k hk => by have := (h.hd.low k hk).2; omega) (fun k hk => by have := (h.hx.low k hk).2; omega) (fun k hk => by have := h.low.size; omega)
theorem TwoI.step {w0 w : World} {d bl x n k j : Nat} {wv lv av tv : Value} {s : DSt} (h : TwoI w0 w d bl x wv lv av tv s n k) (hj : k ≤ j) : TwoI w0 w d bl x wv lv av tv s n j :=
  ⟨h.hd, h.hx, h.hn, Nat.le_trans h.h1 hj, Nat.le_trans h.h2 hj, Nat.le_trans h.h3 hj, h.low⟩
theorem two_off {w : World} {base d bl x : Nat} {wv lv av tv : Value} {s s' : DSt} (h : DiskAt w base d bl wv s) (hx : RefAt w base x lv av tv s') (k : Nat) (hk : dfoot d bl wv k) : ¬ rfoot x lv av tv k := by
  rcases hk with rfl | rfl | h4
  · exact hx.off h.hd (by decide) (by decide) (by decide)
  · exact hx.off h.hl (by decide) (by decide) (by decide)
  · obtain ⟨cs, hb⟩ := own_blk h.hw h4
    exact hx.off hb (by decide) (by decide) (by decide)

theorem two_off' {w : World} {base d bl x : Nat} {wv lv av tv : Value} {s s' : DSt} (h : DiskAt w base d bl wv s) (hx : RefAt w base x lv av tv s') (k : Nat) (hk : rfoot x lv av tv k) : ¬ dfoot d bl wv k := fun h' => two_off h hx k h' hk

/-- one state behind another: what may grow by one. -/
structure Next1 (s s' : DSt) : Prop where
  l : s'.l.length = s.l.length
  a : s'.waits.length ≤ s.waits.length + 1
  b : s'.writes ≤ s.writes + 1
  c : s'.syncs ≤ s.syncs + 1

theorem write_pair (base d bl x : Nat) (wv lv av tv : Value) (s : DSt) (hpos : 4 ≤ s.l.length) (i : Int) (g L : Nat) (p : List UInt8) (hp : p.length = L) (hL : L ≤ 1000) (hcnt : s.waits.length < 1000000000 ∧ s.writes < 1000000000000) :
    ∃ (r : Int) (s' : DSt), Next1 s s' ∧
      (∀ w, DiskAt w base d bl wv s → Blk w g 5 (bvs p).toArray → Calls Try.prog 24 #[.pointer (some ⟨d, 0, none⟩), .int .i64 i, .slice (some ⟨g, 0, none⟩) L L] w fun e w' => e = .returned (.int .i64 r) ∧ ∃ wv', DiskAt w' base d bl wv' s' ∧ Fr (dfoot d bl wv) w w') ∧
      (∀ w, RefAt w base x lv av tv s → Blk w g 5 (bvs p).toArray → Calls Try.prog 30 #[.pointer (some ⟨x, 0, none⟩), .int .i64 i, .slice (some ⟨g, 0, none⟩) L L] w fun e w' => e = .returned (.int .i64 r) ∧ ∃ av' tv', RefAt w' base x lv av' tv' s' ∧ Fr (rfoot x lv av tv) w w') := by
  by_cases hi : 0 ≤ i ∧ i < s.l.length
  · by_cases h128 : L = 128
    · obtain ⟨j, rfl⟩ := Int.eq_ofNat_of_zero_le hi.1
      have hj : j < s.l.length := by omega
      subst h128
      refine ⟨0, s.write j p, ⟨rfl, by simp [DSt.write], by simp [DSt.write], by simp [DSt.write]⟩, fun w h hg => ?_, fun w h hg => ?_⟩
      · exact writeE w base d bl wv s h j hj g 5 128 p hp hg (by decide) hcnt
      · exact refWrite_ok w base x lv av tv s h j hj g 0 128 p hp hg.rangeAll (own_ne h.ha hg (by decide)) (own_ne h.ht hg (by decide)) hcnt
    · refine ⟨3, s, ⟨rfl, by omega, by omega, by omega⟩, fun w h hg => ?_, fun w h hg => ?_⟩
      · exact (write_form d i _ _ _ _ L L w (by have := h.hd.cell 0; simpa using this) (by omega) h.ok.num hi h128).mono fun e w' ⟨he, hw⟩ => ⟨he, wv, hw ▸ h, hw ▸ Fr.refl _ _⟩
      · exact (refWrite_form w base x lv av tv s h i hi _ L L h128 (by omega)).mono fun e w' ⟨he, hw⟩ => ⟨he, av, tv, hw ▸ h, hw ▸ Fr.refl _ _⟩
  · refine ⟨1, s, ⟨rfl, by omega, by omega, by omega⟩, fun w h hg => ?_, fun w h hg => ?_⟩
    · exact (writeBad w base d bl wv s h i hi (by omega) _).mono fun e w' ⟨he, hw⟩ => ⟨he, wv, hw ▸ h, hw ▸ Fr.refl _ _⟩
    · exact (refWrite_bad w base x lv av tv s h i hi _).mono fun e w' ⟨he, hw⟩ => ⟨he, av, tv, hw ▸ h, hw ▸ Fr.refl _ _⟩

theorem TwoI.drewN {w0 w : World} {d bl x n k : Nat} {wv lv av tv : Value} {s : DSt} (h : TwoI w0 w d bl x wv lv av tv s n k) (j : Nat) : TwoI w0 (w.drewN j) d bl x wv lv av tv s n k :=
  h.fr ((Fr.refl nob w).drewN j) (fun _ _ h => h) (fun _ _ h => h) (fun _ h => h.elim)
theorem own_sl {w : World} {base : Nat} {e : TypeId} {A : Option Addr} {n cap : Nat} {xs : List Value} (h : w.ownsRow base e 1 (.slice A n cap) n xs) : SlAt w A n xs := by
  obtain ⟨A2, c2, hv, _, _, hA⟩ := own_shape h
  injection hv with hA2
  subst hA2
  refine ⟨by have := h.1; omega, fun hn => ?_⟩
  obtain ⟨g, e1, _, h2, h3⟩ := hA hn
  exact ⟨g, 0, e1, h2, h3⟩
theorem same_rows (w : World) (b1 b2 : Nat) (v1 v2 : Value) (n : Nat) (ws : List (Nat × List UInt8)) (h1 : w.ownsRow b1 3 1 v1 n (ws.map fun p => .int .i64 (p.1 : Int))) (h2 : w.ownsRow b2 3 1 v2 n (ws.map fun p => .int .i64 (p.1 : Int))) (hn : n ≤ 1000000000) :
    Calls Try.prog 35 #[v1, v2] w fun e w' => e = .returned (.bool true) ∧ ∃ m, w.drewN m = w' := by
  obtain ⟨A1, c1, rfl, _, _, _⟩ := own_shape h1
  obtain ⟨A2, c2, rfl, _, _, _⟩ := own_shape h2
  have s1 := own_sl h1
  have s2 := own_sl h2
  have hl : (ws.map fun p => ((p.1 : Nat) : Int)).length = n := by have := s1.1; simpa using this
  have := same_ok w A1 A2 c1 c2 (ws.map fun p => ((p.1 : Nat) : Int)) (by rw [hl, List.map_map]; exact s1) (by rw [hl, List.map_map]; exact s2) (by omega)
  rwa [hl] at this

set_option maxRecDepth 100000 in
set_option maxHeartbeats 12800000 in
theorem lives_good (w : World) (A : Option Addr) (c : Nat) (ops : List OpM) (hops : OpsAt w A ops) (n : Nat) (h4 : 4 ≤ n) (h5 : n ≤ 4096) :
    Calls Try.prog 4 #[.int .i64 (n : Int), .slice A ops.length c] w fun e w' => e = .returned (.bool true) ∧ Below w.heap.size w w' := by
  have hlen := hops.1
  obtain ⟨m, hm⟩ : ∃ m, ops.length = m := ⟨_, rfl⟩
  rw [hm]
  have HM := hide hm
  rw [hm] at hlen
  clear hm
  have hd1 : decide ((n : Int) < 4) = false := by simp; omega
  have hd2 : decide ((n : Int) > 4096) = false := by simp; omega
  have hd3 : ((n : Int) != (n : Int)) = false := by simp
  go_enter Try.func4, Try.ntmps4
  go_wp2_with fail
  refine (newE n w h4 h5).mono ?_
  rintro e w1 ⟨d, bl, rfl, k1, b1⟩
  have hc0 := k1.hd.cell 0
  simp [DSt.new] at hc0
  go_wp2_with (go_at_call 28; refine (sectors_any _ _ _ _ _ hc0).mono ?_; rintro e w' ⟨rfl, rfl⟩)
  refine (refNew n w1 h4 h5).mono ?_
  rintro e w2 ⟨x, lv, rfl, k2, b2⟩
  have hI0 : TwoI w w2 d bl x (.slice none 0 0) lv (.slice none 0 0) (.slice none 0 0) (DSt.new n) n 0 :=
    ⟨k1.below b2 (Nat.le_refl _), k2.lower b1.size, by simp [DSt.new], by simp [DSt.new], by simp [DSt.new], by simp [DSt.new], b1.trans (b2.mono b1.size)⟩
  clear hc0 k1 k2 b1 b2
  go_upto_block 0 with fail
  go_cut [8] (fun s8 wx => ∃ (k : Nat) (s : DSt) (wv lv av tv : Value), k ≤ 80 ∧ TwoI w wx d bl x wv lv av tv s n k)
  case first =>
   go_wp2_with fail
   go_loopw [8] (fun i wr => ∃ (k : Nat) (s : DSt) (wv lv av tv : Value), k ≤ m ∧ k ≤ 80 ∧ i = .int .i64 k ∧ TwoI w wr d bl x wv lv av tv s n k) (fun i _ => 80 - (intOf i).toNat)
   case atStart => exact ⟨0, _, _, _, _, _, by omega, by omega, rfl, hI0⟩
   case round =>
     obtain ⟨k, s, wv, lv, av, tv, hkm, hk80, rfl, hI⟩ := hrel
     by_cases hlt : k < m ∧ k < 80
     · obtain ⟨hlt1, hlt2⟩ := hlt
       obtain ⟨g, o, rfl, hgl, hops2⟩ := hops.2 (by rw [HM.out]; omega)
       have hkl : k < ops.length := by rw [HM.out]; exact hlt1
       obtain ⟨q, hq⟩ : ∃ q, q = ops[k] := ⟨_, rfl⟩
       have hq0 := hops2 k hkl
       rw [← hq] at hq0
       have hqw := hq0.below hI.low hgl
       have e0 := hqw.c0
       have e1 := hqw.c1
       have e2 := hqw.c2
       have e3 := hqw.c3
       have e4 := hqw.c4
       have HQ := hide hqw
       have hkN : ∀ a, q.kA = some a → 0 < q.keep.length → a.block < w.heap.size := fun a ha hn => hq0.hk.lt a ha hn
       have HI := hide hI
       clear hq hq0 hqw hops2 hI hI0
       have h80 : decide ((k : Int) < 80) = true := by simp; omega
       go_upto_block 2 with fail
       have hO := Blk.new wr 32 #[.int .i64 q.kind, .int .i64 q.i, .int .i64 q.extra, .slice q.bA q.b.length q.bc, .slice q.kA q.keep.length q.kc]
       have bO : Below wr.heap.size wr (wr.alloc (.cells #[.int .i64 q.kind, .int .i64 q.i, .int .i64 q.extra, .slice q.bA q.b.length q.bc, .slice q.kA q.keep.length q.kc] 32)) := (Below.refl _ wr).alloc (Nat.le_refl _) _
       obtain ⟨wo, hwo⟩ : ∃ wo, wo = wr.alloc (.cells #[.int .i64 q.kind, .int .i64 q.i, .int .i64 q.extra, .slice q.bA q.b.length q.bc, .slice q.kA q.keep.length q.kc] 32) := ⟨_, rfl⟩
       obtain ⟨bo, hbo⟩ : ∃ bo, bo = wr.heap.size := ⟨_, rfl⟩
       have HI1 := hide (HI.out.below bO (Nat.le_refl _))
       have hbB := hide (HQ.out.hb.below bO (Nat.le_refl _))
       have hbK := hide (HQ.out.hk.below bO (Nat.le_refl _))
       have hqm := HQ.out.mb
       rw [← hwo, ← hbo] at hO ⊢
       rw [← hwo] at HI1 hbB hbK
       have hOl := hO.lt
       clear hwo hbo bO e0 e1 e2 e3 e4 HI
       have f1 := hO.cell 1
       have f2 := hO.cell 2
       have f3 := hO.cell 3
       have f4 := hO.cell 4
       simp at f1 f2 f3 f4
       go_cut [10] (fun s10 wx => s10 = .bool true ∧ ∃ (s' : DSt) (wv' lv' av' tv' : Value), TwoI w wx d bl x wv' lv' av' tv' s' n (k + 1))
       case first =>
         by_cases q0 : q.kind = 0
         · have t0 : (q.kind == 0) = true := by rw [q0]; rfl
           clear q0
           go_wp2_with fail
           refine (fill_any _ _ _ _ q.b wo hbB.out hqm).mono ?_
           rintro e w3 ⟨rfl, k3, b3⟩
           obtain ⟨L, hL⟩ : ∃ L, fillN q.extra = L := ⟨_, rfl⟩
           obtain ⟨g3, hg3⟩ : ∃ g3, g3 = wo.heap.size := ⟨_, rfl⟩
           rw [hL] at k3 ⊢
           rw [← hg3] at k3 ⊢
           have hL1 : 128 ≤ L ∧ L ≤ 131 := by rw [← hL]; unfold fillN; split <;> omega
           have HI2 := HI1.out.below b3 (Nat.le_refl _)
           have hO3 := hO.below b3 hOl
           obtain ⟨pd, hpd⟩ : ∃ pd, pd = pad L q.b := ⟨_, rfl⟩
           have hpl : pd.length = L := by rw [hpd]; exact pad_length _ _
           rw [← hpd] at k3
           have HH := hide (And.intro hg3 (And.intro hL hpl))
           clear hg3 hL hpd hpl
           obtain ⟨r, s', hn1, cW, cX⟩ := write_pair w.heap.size d bl x wv lv av tv s (by rw [HI2.hn]; exact h4) q.i g3 L pd HH.out.2.2 (by omega) (by have := HI2.h1; have := HI2.h2; omega)
           go_wp2_with fail
           have f1' : w3.drew.cell? ⟨bo, 1, none⟩ = some (.int .i64 q.i) := (hO3.cell 1).trans rfl
           refine wp_region_held 12 (fun w' => w'.cell? ⟨bo, 1, none⟩ = some (.int .i64 q.i)) (fun i => i == 4 || i == 9) (by kernel_rfl) (by kernel_rfl) f1' (fun ops hops F hF => ?_)
           clear hops
           simp only [List.take_succ_cons, List.take_zero, List.drop_succ_cons, List.drop_zero] at hF ⊢
           iterate 4 (refine held_q rfl rfl ?_; apply Exists.intro; refine ⟨fun w' hw' => ?_, ?_⟩; (go_simp; rfl); simp only [Act.put, List.setIfInBounds_toArray, List.set_cons_zero, List.set_cons_succ, Nat.reduceAdd])
           refine held_loud rfl rfl (fun K hK => ?_)
           go_simp
           refine (cW w3.drew (HI2.hd.fr ((Fr.refl nob w3).drew) (fun _ _ h => h)) k3).mono ?_
           rintro e w4 ⟨rfl, wv4, hD4, fr4⟩
           have fr4' : Fr (dfoot d bl wv) w3 w4 := ⟨fr4.os, fr4.tape, fr4.output, fr4.size, fr4.block⟩
           have hO4 := HI2.hd.keep fr4' hO3 (by decide) (by decide) (.inl (by decide))
           have k4 := HI2.hd.keep fr4' k3 (by decide) (by decide) (.inl (by decide))
           have hR4 := HI2.hx.fr fr4' (two_off' HI2.hd HI2.hx)
           refine hK _ _ ((hO4.cell 1).trans rfl) ?_
           clear hK K
           simp only [Act.put, List.setIfInBounds_toArray, List.set_cons_zero, List.set_cons_succ, Nat.reduceAdd]
           iterate 4 (refine held_q rfl rfl ?_; apply Exists.intro; refine ⟨fun w' hw' => ?_, ?_⟩; (go_simp; rfl); simp only [Act.put, List.setIfInBounds_toArray, List.set_cons_zero, List.set_cons_succ, Nat.reduceAdd])
           refine held_loud rfl rfl (fun K hK => ?_)
           go_simp
           refine (cX w4 hR4 k4).mono ?_
           rintro e w5 ⟨rfl, av5, tv5, hR5, fr5⟩
           have hO5 := hO4.fr fr5 (hR4.off hO4 (by decide) (by decide) (by decide))
           have k5 := k4.fr fr5 (hR4.off k4 (by decide) (by decide) (by decide))
           have hD5 := hD4.fr fr5 (two_off hD4 hR4)
           refine hK _ _ ((hO5.cell 1).trans rfl) ?_
           clear hK K
           simp only [Act.put, List.setIfInBounds_toArray, List.set_cons_zero, List.set_cons_succ, Nat.reduceAdd]
           iterate 2 (refine held_q rfl rfl ?_; apply Exists.intro; refine ⟨fun w' hw' => ?_, ?_⟩; (go_simp; rfl); simp only [Act.put, List.setIfInBounds_toArray, List.set_cons_zero, List.set_cons_succ, Nat.reduceAdd])
           refine held_nil (hF _ _ ?_)
           clear hF F
           obtain ⟨y, hy⟩ : ∃ y : UInt8, (bvs pd)[0]? = some (.int .u8 (y.toNat : Int)) := by
             have : 0 < pd.length := by rw [HH.out.2.2]; omega
             exact ⟨pd[0], by simp [bvs, bv, this]⟩
           have hy0 : w5.cell? ⟨g3, 0, none⟩ = some (.int .u8 (y.toNat : Int)) := (k5.cell 0).trans (by simpa using hy)
           have hy1 := k5.frozen 0
           clear hy
           have T5 : TwoI w w5 d bl x wv4 lv av5 tv5 s' n (k + 1) :=
             ⟨hD5, hR5, hn1.l.trans HI2.hn, by have := hn1.a; have := HI2.h1; omega, by have := hn1.b; have := HI2.h2; omega, by have := hn1.c; have := HI2.h3; omega,
               (HI2.low.trans (fr4'.below HI2.low.size (fun k hk => (HI2.hd.low k hk).1))).trans (fr5.below hD4.size (fun k hk => (hR4.low k hk).1))⟩
           have HT := hide T5
           have HK5 := hide k5
           have hg3w : w.heap.size ≤ g3 := by have := HI1.out.low.size; have := HH.out.1; omega
           clear T5 k5 hD4 hR4 hD5 hR5 hO4 hO5 k4 fr4 fr4' fr5
           go_wp2_with fail
           go_meet
           refine ⟨by simp, s', wv4, lv, av5, tv5, HT.out.fr ((Fr.refl (fun k => k = g3) w5).setCell (p := ⟨g3, 0, none⟩) (.inl rfl) _) (fun k hk e => HT.out.hd.off HK5.out (by decide) (by decide) (.inl (by decide)) (e ▸ hk)) (fun k hk e => HT.out.hx.off HK5.out (by decide) (by decide) (by decide) (e ▸ hk)) (fun k e => by omega)⟩
         · have t0 : (q.kind == 0) = false := by simp [q0]
           by_cases q1 : q.kind = 1
           · have t1 : (q.kind == 1) = true := by rw [q1]; rfl
             clear q0 q1
             go_wp2_with fail
             refine (sync_ok wo _ _ _ _ _ HI1.out.hd (by have := HI1.out.hn; omega) (by have := HI1.out.h3; omega)).mono ?_
             rintro e w4 ⟨rfl, hD4, fr4⟩
             have hR4 := HI1.out.hx.fr fr4 (two_off' HI1.out.hd HI1.out.hx)
             go_wp2_with fail
             refine (refSync_ok w4 _ _ _ _ _ _ hR4 (by have := HI1.out.hn; omega) (by have := HI1.out.h3; omega)).mono ?_
             rintro e w5 ⟨rfl, hR5, fr5⟩
             have hD5 := hD4.fr fr5 (two_off hD4 hR4)
             have T5 : TwoI w w5 d bl x (.slice none 0 0) lv (.slice none 0 0) (.slice none 0 0) s.sync n (k + 1) :=
               ⟨hD5, hR5, by simp [DSt.sync, doneAll_length]; exact HI1.out.hn, by simp [DSt.sync], by simp only [DSt.sync]; have := HI1.out.h2; omega, by simp only [DSt.sync]; have := HI1.out.h3; omega,
                 (HI1.out.low.trans (fr4.below HI1.out.low.size (fun k hk => (HI1.out.hd.low k hk).1))).trans (fr5.below hD4.size (fun k hk => (hR4.low k hk).1))⟩
             go_wp2_with fail
             go_meet
             exact ⟨by simp, _, _, _, _, _, T5⟩
           · have t1 : (q.kind == 1) = false := by simp [q1]
             by_cases q2 : q.kind = 2
             · have t2 : (q.kind == 2) = true := by rw [q2]; rfl
               clear q0 q1 q2
               go_wp2_with fail
               refine (crash_ok wo _ _ _ _ _ HI1.out.hd (by have := HI1.out.hn; omega) q.kA q.keep.length q.kc q.keep hbK.out ?_ HQ.out.mkp).mono ?_
               · intro a ha hn e
                 have h3 := hkN a ha hn
                 have h4 := HI1.out.hd.bb
                 omega
               rintro e w4 ⟨rfl, hD4, fr4⟩
               have hR4 := HI1.out.hx.fr fr4 (two_off' HI1.out.hd HI1.out.hx)
               have hO4 := HI1.out.hd.keep fr4 hO (by decide) (by decide) (.inl (by decide))
               have f4' : w4.cell? ⟨bo, 4, none⟩ = some (.slice q.kA q.keep.length q.kc) := (hO4.cell 4).trans rfl
               go_wp2_with fail
               refine (refCrash_ok w4 _ _ _ _ _ _ hR4 (by have := HI1.out.hn; omega) q.kA q.keep.length q.kc false q.keep q.keep ?_ ?_ HQ.out.mkp (fun k hk => by simp)).mono ?_
               · exact hbK.out.fr fr4 (fun a ha hn hf => by have := hkN a ha hn; have := (HI1.out.hd.low _ hf).1; omega)
               · intro a ha hn e
                 have h3 := hkN a ha hn
                 have h4 := (HI1.out.hx.hl.lt _ e).1
                 omega
               rintro e w5 ⟨rfl, hR5, fr5⟩
               have hD5 := hD4.fr fr5 (two_off hD4 hR4)
               have T5 : TwoI w w5 d bl x (.slice none 0 0) lv (.slice none 0 0) (.slice none 0 0) (s.crash q.keep) n (k + 1) :=
                 ⟨hD5, hR5, by simp [DSt.crash, doneKeep_length]; exact HI1.out.hn, by simp [DSt.crash], by simp only [DSt.crash]; have := HI1.out.h2; omega, by simp only [DSt.crash]; have := HI1.out.h3; omega,
                   (HI1.out.low.trans (fr4.below HI1.out.low.size (fun k hk => (HI1.out.hd.low k hk).1))).trans (fr5.below hD4.size (fun k hk => (hR4.low k hk).1))⟩
               go_wp2_with fail
               go_meet
               exact ⟨by simp, _, _, _, _, _, T5⟩
             · have t2 : (q.kind == 2) = false := by simp [q2]
               by_cases q3 : q.kind = 3
               · have t3 : (q.kind == 3) = true := by rw [q3]; rfl
                 clear q0 q1 q2 q3
                 by_cases hin : 0 ≤ q.i ∧ q.i < s.l.length
                 · obtain ⟨j, hj⟩ := Int.eq_ofNat_of_zero_le hin.1
                   have hj8 : j < s.l.length := by omega
                   rw [hj] at f1
                   have HJ := hide hj
                   clear hj hin
                   go_wp2_with fail
                   refine (readE wo _ _ _ _ _ HI1.out.hd j hj8).mono ?_
                   rintro e w4 ⟨g4, rfl, hg4, k4, hD4, n4, b4⟩
                   have HI4 := HI1.out.below b4 (Nat.le_refl _)
                   have f1' : w4.cell? ⟨bo, 1, none⟩ = some (.int .i64 j) := (b4.cell (p := ⟨bo, 1, none⟩) hOl).trans f1
                   go_wp2_with fail
                   refine (refRead_ok w4 _ _ _ _ _ _ HI4.hx j hj8).mono ?_
                   rintro e w5 ⟨rfl, rfl⟩
                   have hX : (s.read j).length = 128 := DSt.read_length HI1.out.hd.ok hj8
                   have hst := run_str w4 (some ⟨g4, 0, none⟩) 128 128 (s.read j) (SlAt.ofBlk k4 (by rw [bvs_length]; exact hX))
                   unfold strv
                   obtain ⟨y, hy⟩ : ∃ y : UInt8, (bvs (s.read j))[0]? = some (.int .u8 (y.toNat : Int)) := by
                     have : 0 < (s.read j).length := by omega
                     exact ⟨(s.read j)[0], by simp [bvs, bv, this]⟩
                   have hy0 : w4.cell? ⟨g4, 0, none⟩ = some (.int .u8 (y.toNat : Int)) := (k4.cell 0).trans (by simpa using hy)
                   have hy1 := k4.frozen 0
                   have HX := hide hX
                   have H4 := hide HI4
                   have K4 := hide k4
                   have hg4' : w.heap.size ≤ g4 := by have := HI1.out.low.size; omega
                   clear hy hX HI4 k4 hD4
                   go_wp2_with fail
                   go_meet
                   refine ⟨by simp, _, _, _, _, _, (H4.out.fr ((Fr.refl (fun k => k = g4) w4).setCell (p := ⟨g4, 0, none⟩) (.inl rfl) _) (fun k hk e => H4.out.hd.off K4.out (by decide) (by decide) (.inr n4) (e ▸ hk)) (fun k hk e => H4.out.hx.off K4.out (by decide) (by decide) (by decide) (e ▸ hk)) (fun k e => by omega)).step (by omega)⟩
                 · have HN2 := hide hin
                   clear hin
                   have hc0 := HI1.out.hd.hd.cell 0
                   simp at hc0
                   have hst : (convert 28 9 (.slice none 0 0)).run Try.prog wo = .ok (.string ⟨#[]⟩) wo := run_str wo none 0 0 [] (SlAt.nil _ _)
                   go_wp2_with fail
                   refine (read_bad d q.i _ _ _ wo hc0 (by have := HI1.out.hn; omega) HI1.out.hd.ok.num HN2.out).mono ?_
                   rintro e w4 ⟨rfl, rfl⟩
                   go_wp2_with fail
                   refine (refRead_bad wo _ _ _ _ _ _ HI1.out.hx q.i HN2.out).mono ?_
                   rintro e w5 ⟨rfl, rfl⟩
                   go_wp2_with fail
                   go_meet
                   exact ⟨by simp, _, _, _, _, _, HI1.out.step (by omega)⟩
               · have t3 : (q.kind == 3) = false := by simp [q3]
                 clear q0 q1 q2 q3
                 go_wp2_with fail
                 go_meet
                 exact ⟨by simp, _, _, _, _, _, HI1.out.step (by omega)⟩
       case rest =>
         obtain ⟨rfl, s', wv', lv', av', tv', hI'⟩ := hcut
         have hC := hide (⟨hI'.hd.hd.cell 2, hI'.hd.hd.cell 3⟩ : _ ∧ _)
         have HI' := hide hI'
         clear hI' f1 f2 f3 f4
         go_wp2_with fail
         refine (counts_any d _ _ wc (hC.out.1.trans rfl) (hC.out.2.trans rfl)).mono ?_
         rintro e w4 ⟨rfl, nd, hw4⟩
         have hI4 : TwoI w w4 d bl x wv' lv' av' tv' s' n (k + 1) := hw4 ▸ HI'.out.drewN nd
         clear hw4 hC
         have x1 : w4.cell? ⟨x, 1, none⟩ = some av' := (hI4.hx.hx.cell 1).trans rfl
         have x3 : w4.cell? ⟨x, 3, none⟩ = some (.int .i64 (s'.writes : Int)) := (hI4.hx.hx.cell 3).trans rfl
         have x4 : w4.cell? ⟨x, 4, none⟩ = some (.int .i64 (s'.syncs : Int)) := (hI4.hx.hx.cell 4).trans rfl
         have hxl := hI4.hx.hx.lt
         have H4 := hide hI4
         clear hI4
         have bw : ((s'.writes : Int) != (s'.writes : Int)) = false := by simp
         have by' : ((s'.syncs : Int) != (s'.syncs : Int)) = false := by simp
         go_wp2_with fail
         refine wp_region_held 28 (fun w' => w'.cell? ⟨x, 1, none⟩ = some av' ∧ w'.cell? ⟨x, 3, none⟩ = some (.int .i64 (s'.writes : Int)) ∧ w'.cell? ⟨x, 4, none⟩ = some (.int .i64 (s'.syncs : Int))) (fun i => i == 4 || i == 9) (by kernel_rfl) (by kernel_rfl) ⟨x1, x3, x4⟩ (fun ops hops F hF => ?_)
         subst hops
         simp only [List.take_succ_cons, List.take_zero, List.drop_succ_cons, List.drop_zero] at hF ⊢
         iterate 4 (refine held_q rfl rfl ?_; apply Exists.intro; refine ⟨fun w' hw' => ?_, ?_⟩; (obtain ⟨q1, q3, q4⟩ := hw'; go_simp; rfl); simp only [Act.put, List.setIfInBounds_toArray, List.set_cons_zero, List.set_cons_succ, Nat.reduceAdd])
         refine held_loud rfl rfl (fun K hK => ?_)
         go_simp
         refine (waits_any w4.drew _ d bl wv' s' (H4.out.hd.fr ((Fr.refl nob w4).drew) (fun _ _ h => h))).mono ?_
         rintro e w5 ⟨v, rfl, hv, b5⟩
         have b5' : Below w4.heap.size w4 w5 := Below.of_drew b5
         have H5 := hide (H4.out.below b5' (Nat.le_refl _))
         refine hK _ _ ⟨(b5'.cell (p := ⟨x, 1, none⟩) hxl).trans x1, (b5'.cell (p := ⟨x, 3, none⟩) hxl).trans x3, (b5'.cell (p := ⟨x, 4, none⟩) hxl).trans x4⟩ ?_
         clear hK K
         simp only [Act.put, List.setIfInBounds_toArray, List.set_cons_zero, List.set_cons_succ, Nat.reduceAdd]
         iterate 4 (refine held_q rfl rfl ?_; apply Exists.intro; refine ⟨fun w' hw' => ?_, ?_⟩; (obtain ⟨q1, q3, q4⟩ := hw'; go_simp; rfl); simp only [Act.put, List.setIfInBounds_toArray, List.set_cons_zero, List.set_cons_succ, Nat.reduceAdd])
         refine held_loud rfl rfl (fun K hK => ?_)
         go_simp
         refine (same_rows w5 _ _ v av' _ s'.waits hv H5.out.hx.ha (by have := H5.out.hd.ok.cnt; omega)).mono ?_
         rintro e w6 ⟨rfl, nd2, hw6⟩
         have H6 := hide (hw6 ▸ H5.out.drewN nd2 : TwoI w w6 d bl x wv' lv' av' tv' s' n (k + 1))
         refine hK _ _ ?_ ?_
         · subst hw6
           exact ⟨(b5'.cell (p := ⟨x, 1, none⟩) hxl).trans x1, (b5'.cell (p := ⟨x, 3, none⟩) hxl).trans x3, (b5'.cell (p := ⟨x, 4, none⟩) hxl).trans x4⟩
         clear hK K hw6
         simp only [Act.put, List.setIfInBounds_toArray, List.set_cons_zero, List.set_cons_succ, Nat.reduceAdd]
         iterate 18 (refine held_q rfl rfl ?_; apply Exists.intro; refine ⟨fun w' hw' => ?_, ?_⟩; (obtain ⟨q1, q3, q4⟩ := hw'; go_simp; rfl); simp only [Act.put, List.setIfInBounds_toArray, List.set_cons_zero, List.set_cons_succ, Nat.reduceAdd])
         refine held_nil (hF _ _ ?_)
         clear hF F x1 x3 x4
         go_wp2
         go_roundw
         case rel => exact ⟨k + 1, _, _, _, _, _, by omega, by omega, by go_num, H6.out⟩
         case measure => simp [intOf]; omega
     · have HI := hide hI
       clear hI hops HM hI0
       rcases (show (¬ k < m) ∨ (k < m ∧ ¬ k < 80) by omega) with hx1 | hx1
       all_goals
         clear hlt
         go_wp2_with fail
         go_meet
         exact ⟨k, s, wv, lv, av, tv, hk80, HI.out⟩
  case rest =>
    obtain ⟨k, s, wv, lv, av, tv, hk80, hI⟩ := hcut
    have HI := hide hI
    clear hI hops HM hI0
    go_upto_block 3 with fail
    go_cut [20] (fun s20 wx => TwoI w wx d bl x wv lv av tv s n k)
    case first =>
      go_wp2_with fail
      go_loopw [20] (fun i wr2 => ∃ (j : Nat), j ≤ n ∧ j ≤ 40 ∧ i = .int .i64 j ∧ TwoI w wr2 d bl x wv lv av tv s n k) (fun i _ => 40 - (intOf i).toNat)
      case atStart => exact ⟨0, by omega, by omega, rfl, HI.out⟩
      case round =>
        clear HI
        obtain ⟨j, hjn, hj40, rfl, hJ⟩ := hrel
        have HJ := hide hJ
        clear hJ
        by_cases hlt2 : j < n ∧ j < 40
        · obtain ⟨hlt1, hlt2⟩ := hlt2
          have hj8 : j < s.l.length := by rw [HJ.out.hn]; exact hlt1
          go_wp2_with fail
          refine (readE _ _ _ _ _ _ HJ.out.hd j hj8).mono ?_
          rintro e w4 ⟨g4, rfl, hg4, k4, hD4, n4, b4⟩
          have H4 := hide (HJ.out.below b4 (Nat.le_refl _))
          go_wp2_with fail
          refine (refRead_ok w4 _ _ _ _ _ _ H4.out.hx j hj8).mono ?_
          rintro e w5 ⟨rfl, rfl⟩
          have hst := run_str w4 (some ⟨g4, 0, none⟩) 128 128 (s.read j) (SlAt.ofBlk k4 (by rw [bvs_length]; exact DSt.read_length H4.out.hd.ok hj8))
          have hbe : ((bs (s.read j)).toList != (bs (s.read j)).toList) = false := by simp
          unfold strv
          clear k4 hD4
          go_wp2
          go_roundw
          case rel => exact ⟨j + 1, by omega, by omega, by go_num, H4.out⟩
          case measure => simp [intOf]; omega
        · rcases (show (¬ j < n) ∨ (j < n ∧ ¬ j < 40) by omega) with hx2 | hx2
          all_goals
            clear hlt2
            go_wp2_with fail
            go_meet
            exact HJ.out
    case rest =>
      have HJ := hide hcut
      clear hcut HI
      obtain ⟨wj, hwj⟩ : ∃ wj, wj = wc := ⟨_, rfl⟩
      rw [← hwj] at HJ ⊢
      clear hwj
      go_wp2_with fail
      refine (read_nil _ _).mono ?_
      rintro e w5 ⟨rfl, hw5⟩
      have hz5 : w5.cell? ⟨wj.heap.size, 0, none⟩ = some (.slice none 0 0) := by
        rw [← hw5, Blk.cell (Blk.new _ _ _)]; rfl
      have b5 : Below w.heap.size w w5 := by rw [← hw5]; exact HJ.out.low.alloc HJ.out.low.size _
      have hz5l : wj.heap.size < w5.heap.size := by rw [← hw5]; simp
      clear hw5
      go_wp2_with fail
      refine (counts_nil _).mono ?_
      rintro e w6 ⟨rfl, rfl⟩
      go_wp2_with fail
      refine (alive11 _).mono ?_
      rintro e w7 ⟨rfl, b7⟩
      have hz7 : w7.cell? ⟨wj.heap.size, 0, none⟩ = some (.slice none 0 0) := (b7.cell (p := ⟨wj.heap.size, 0, none⟩) hz5l).trans hz5
      have hb7 : Below w.heap.size w w7 := b5.trans (b7.mono b5.size)
      clear hz5 b5 b7 hz5l HJ
      go_wp2_with fail
      refine (write_nil _ _ _).mono ?_
      rintro e w8 ⟨rfl, rfl⟩
      go_wp2_with fail
      refine (write_zero _ _ _ _ _ _ hz7).mono ?_
      rintro e w8 ⟨rfl, rfl⟩
      go_wp2_with fail
      refine (sync_nil _).mono ?_
      rintro e w8 ⟨rfl, rfl⟩
      go_wp2_with fail
      refine (crash_zero _ _ _ _ _ hz7).mono ?_
      rintro e w8 ⟨rfl, rfl⟩
      go_wp2_with fail
      refine (sectors_nil _).mono ?_
      rintro e w8 ⟨rfl, rfl⟩
      go_wp2_with fail
      refine (sectors_any _ _ _ _ _ hz7).mono ?_
      rintro e w8 ⟨rfl, rfl⟩
      go_wp2_with fail
      refine (waits_nil _).mono ?_
      rintro e w8 ⟨rfl, rfl⟩
      go_wp2
      go_ret
      exact ⟨rfl, hb7⟩

theorem lives_any (w : World) (x : Int) (A : Option Addr) (n c : Nat) (ops : List OpM) (hn : ops.length = n) (hops : OpsAt w A ops) :
    Calls Try.prog 4 #[.int .i64 x, .slice A n c] w fun e w' => e = .returned (.bool true) ∧ Below w.heap.size w w' := by
  by_cases h : x < 4 ∨ 4096 < x
  · exact lives_bad w _ x h
  · obtain ⟨k, rfl⟩ := Int.eq_ofNat_of_zero_le (a := x) (by omega)
    subst hn
    exact lives_good w A c ops hops k (by omega) (by omega)
end Go.Proofs.Ytnnhklembdaieaa
