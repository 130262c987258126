/- SuperFollows: the walk. -/
import Derived.Test.YtnnhklembdaieaaFollL
namespace Go.Proofs.Ytnnhklembdaieaa
open Go.RowKit
set_option linter.unusedSimpArgs false
set_option linter.unusedVariables false

set_option maxRecDepth 100000 in
set_option maxHeartbeats 1600000 in
theorem foll_far (w : World) (g : Nat) (a l : Int) (tg : Nat) (ta tl : Int) (kp : Bool) (h : (SU.mk g a l).right = false ∨ ((SU.mk g a l).right = true ∧ 1099511627776 ≤ g)) :
    Calls Try.prog 18 #[.agg #[.int .u64 (g : Int), .int .i64 a, .int .i64 l], .agg #[.int .u64 (tg : Int), .int .i64 ta, .int .i64 tl], .bool kp] w fun e w' => e = .returned (.bool true) ∧ Below w.heap.size w w' := by
  have k3 : Blk ((w.alloc (.cells #[.int .u64 (g : Int), .int .i64 a, .int .i64 l] 115)).alloc (.cells #[.int .u64 (tg : Int), .int .i64 ta, .int .i64 tl] 115)) w.heap.size 115 #[.int .u64 (g : Int), .int .i64 a, .int .i64 l] := (Blk.new w 115 _).alloc _
  have b0 : Below w.heap.size w ((w.alloc (.cells #[.int .u64 (g : Int), .int .i64 a, .int .i64 l] 115)).alloc (.cells #[.int .u64 (tg : Int), .int .i64 ta, .int .i64 tl] 115)) := ((Below.refl _ _).alloc (Nat.le_refl _) _).alloc (by simp) _
  have hR := fun w => sRight_ok ⟨g, a, l⟩ w
  have hc : (SU.mk g a l).right = false ∨ ((SU.mk g a l).right = true ∧ decide ((g : Int) ≥ 1099511627776) = true) := by
    rcases h with h | ⟨h, h2⟩
    · exact .inl h
    · exact .inr ⟨h, by simp; omega⟩
  clear h
  unfold superV at hR
  simp only at hR
  go_enter Try.func18, Try.ntmps18
  go_upto_region 1 with fail
  obtain ⟨w0, hw0⟩ : ∃ w0, w0 = (w.alloc (.cells #[.int .u64 (g : Int), .int .i64 a, .int .i64 l] 115)).alloc (.cells #[.int .u64 (tg : Int), .int .i64 ta, .int .i64 tl] 115) := ⟨_, rfl⟩
  rw [← hw0] at k3 b0 ⊢
  clear hw0
  go_wp2_with fail
  refine (newE 4 w0 (by omega) (by omega)).mono ?_
  rintro e w1 ⟨d, bl, rfl, h1, b1⟩
  have k31 := k3.below b1 k3.lt
  have b1' := b0.trans (b1.mono b0.size)
  clear h1 k3 b0 b1
  have c0 := k31.cell 0
  have c1 := k31.cell 1
  have c2 := k31.cell 2
  simp at c0 c1 c2
  rcases hc with hr | ⟨hr, hg⟩
  all_goals
    have hR1 := hR w1
    rw [hr] at hR1
    clear hR hr
    go_wp2_with fail
    refine hR1.mono ?_
    rintro e w2 ⟨rfl, b2⟩
    have k32 := k31.below b2 k31.lt
    have b2' := b1'.trans (b2.mono b1'.size)
    clear c0 c1 c2 hR1 k31 b1' b2
    have c0 := k32.cell 0
    have c1 := k32.cell 1
    have c2 := k32.cell 2
    simp at c0 c1 c2
    go_wp2_with fail
    refine (alive12 _).mono ?_
    rintro e w3 ⟨rfl, b3⟩
    go_wp2
    go_ret
    exact ⟨rfl, b2'.trans (b3.mono b2'.size)⟩

/-- what holds between the calls. -/
structure FollI (w : World) (d bl a3 a4 : Nat) (s t : SU) (wv : Value) (D : DSt) (wr : World) : Prop where
  hd : DiskAt wr w.heap.size d bl wv D
  k3 : Blk wr a3 115 #[.int .u64 (s.gen : Int), .int .i64 s.area, .int .i64 s.len]
  k4 : Blk wr a4 115 #[.int .u64 (t.gen : Int), .int .i64 t.area, .int .i64 t.len]
  low : Below w.heap.size w wr
theorem FollI.fr {w wr w' : World} {d bl a3 a4 : Nat} {s t : SU} {wv wv' : Value} {D D' : DSt} (h : FollI w d bl a3 a4 s t wv D wr) (hd : DiskAt w' w.heap.size d bl wv' D') (hf : Fr (dfoot d bl wv) wr w') : FollI w d bl a3 a4 s t wv' D' w' :=
  ⟨hd, h.hd.keep hf h.k3 (by decide) (by decide) (.inl (by decide)), h.hd.keep hf h.k4 (by decide) (by decide) (.inl (by decide)), h.low.trans (h.hd.isBelow hf h.low.size)⟩
theorem FollI.below {w wr w' : World} {d bl a3 a4 : Nat} {s t : SU} {wv : Value} {D : DSt} (h : FollI w d bl a3 a4 s t wv D wr) (hb : Below wr.heap.size wr w') : FollI w d bl a3 a4 s t wv D w' :=
  ⟨h.hd.below hb (Nat.le_refl _), h.k3.below hb h.k3.lt, h.k4.below hb h.k4.lt, h.low.trans (hb.mono h.low.size)⟩
theorem FollI.alloc {w wr : World} {d bl a3 a4 : Nat} {s t : SU} {wv : Value} {D : DSt} (h : FollI w d bl a3 a4 s t wv D wr) (o : Obj) : FollI w d bl a3 a4 s t wv D (wr.alloc o) :=
  h.below ((Below.refl _ wr).alloc (Nat.le_refl _) o)
theorem FollI.cells {w wr : World} {d bl a3 a4 : Nat} {s t : SU} {wv : Value} {D : DSt} (h : FollI w d bl a3 a4 s t wv D wr) :
    (wr.cell? ⟨a3, 0, none⟩ = some (.int .u64 (s.gen : Int)) ∧ wr.cell? ⟨a3, 1, none⟩ = some (.int .i64 s.area) ∧ wr.cell? ⟨a3, 2, none⟩ = some (.int .i64 s.len)) ∧
    (wr.cell? ⟨a4, 0, none⟩ = some (.int .u64 (t.gen : Int)) ∧ wr.cell? ⟨a4, 1, none⟩ = some (.int .i64 t.area) ∧ wr.cell? ⟨a4, 2, none⟩ = some (.int .i64 t.len)) :=
  ⟨⟨(h.k3.cell 0).trans rfl, (h.k3.cell 1).trans rfl, (h.k3.cell 2).trans rfl⟩, ⟨(h.k4.cell 0).trans rfl, (h.k4.cell 1).trans rfl, (h.k4.cell 2).trans rfl⟩⟩

set_option maxRecDepth 100000 in
set_option maxHeartbeats 3200000 in
theorem foll_near (w : World) (g : Nat) (a l : Int) (tg : Nat) (ta tl : Int) (kp : Bool) (hr : (SU.mk g a l).right = true) (hg : g < 1099511627776) :
    Calls Try.prog 18 #[.agg #[.int .u64 (g : Int), .int .i64 a, .int .i64 l], .agg #[.int .u64 (tg : Int), .int .i64 ta, .int .i64 tl], .bool kp] w fun e w' => e = .returned (.bool true) ∧ Below w.heap.size w w' := by
  have k3 : Blk ((w.alloc (.cells #[.int .u64 (g : Int), .int .i64 a, .int .i64 l] 115)).alloc (.cells #[.int .u64 (tg : Int), .int .i64 ta, .int .i64 tl] 115)) w.heap.size 115 #[.int .u64 (g : Int), .int .i64 a, .int .i64 l] := (Blk.new w 115 _).alloc _
  have k4 : Blk ((w.alloc (.cells #[.int .u64 (g : Int), .int .i64 a, .int .i64 l] 115)).alloc (.cells #[.int .u64 (tg : Int), .int .i64 ta, .int .i64 tl] 115)) (w.heap.size + 1) 115 #[.int .u64 (tg : Int), .int .i64 ta, .int .i64 tl] := by simpa using Blk.new (w.alloc (.cells #[.int .u64 (g : Int), .int .i64 a, .int .i64 l] 115)) 115 #[.int .u64 (tg : Int), .int .i64 ta, .int .i64 tl]
  have b0 : Below w.heap.size w ((w.alloc (.cells #[.int .u64 (g : Int), .int .i64 a, .int .i64 l] 115)).alloc (.cells #[.int .u64 (tg : Int), .int .i64 ta, .int .i64 tl] 115)) := ((Below.refl _ _).alloc (Nat.le_refl _) _).alloc (by simp) _
  have hR := fun w => sRight_ok ⟨g, a, l⟩ w
  have hRt := fun w => sRight_ok ⟨g + 1, ta, tl⟩ w
  have hg1 : decide ((g : Int) ≥ 1099511627776) = false := by simp; omega
  have hg0 : (0 : Int) ≤ (g : Int) := by omega
  have hg2 : (g : Int) < 1099511627776 := by omega
  have hgc : ((g + 1 : Nat) : Int) = (g : Int) + 1 := by omega
  unfold superV at hR hRt
  simp only [hr, hgc] at hR hRt
  go_enter Try.func18, Try.ntmps18
  go_upto_region 1 with fail
  obtain ⟨w0, hw0⟩ : ∃ w0, w0 = (w.alloc (.cells #[.int .u64 (g : Int), .int .i64 a, .int .i64 l] 115)).alloc (.cells #[.int .u64 (tg : Int), .int .i64 ta, .int .i64 tl] 115) := ⟨_, rfl⟩
  rw [← hw0] at k3 k4 b0
  rw [← hw0]
  obtain ⟨a3, ha3⟩ : ∃ a3, a3 = w.heap.size := ⟨_, rfl⟩
  obtain ⟨a4, ha4⟩ : ∃ a4, a4 = w.heap.size + 1 := ⟨_, rfl⟩
  have H34 := hide (And.intro ha3 ha4)
  rw [← ha4] at k4 ⊢
  rw [← ha3] at k3 ⊢
  clear hw0 ha3 ha4
  go_wp2_with fail
  refine (newE 4 w0 (by omega) (by omega)).mono ?_
  rintro e w1 ⟨d, bl, rfl, h1, b1⟩
  have k31 := k3.below b1 k3.lt
  have k41 := k4.below b1 k4.lt
  have b1' := b0.trans (b1.mono b0.size)
  have hI1 : DiskAt w1 w.heap.size d bl (.slice none 0 0) (DSt.new 4) := ⟨h1.ok, h1.hd, h1.hl, own_base h1.hw (by have := b0.size; omega), by have := h1.bd; have := b0.size; omega, by have := h1.bb; have := b0.size; omega⟩
  clear k3 k4 b0 b1 h1
  have c0 := k31.cell 0
  have c1 := k31.cell 1
  have c2 := k31.cell 2
  simp at c0 c1 c2
  go_wp2_with fail
  refine (hR w1).mono ?_
  rintro e w2 ⟨rfl, b2⟩
  have k32 := k31.below b2 k31.lt
  have k42 := k41.below b2 k41.lt
  have hI2 := hI1.below b2 (Nat.le_refl _)
  have b2' := b1'.trans (b2.mono b1'.size)
  clear c0 c1 c2 hR k31 k41 b1' b2 hI1
  have hne : a3 ≠ a4 := by have := H34.out; omega
  have c0 := k32.cell 0
  have c1 := k32.cell 1
  have c2 := k32.cell 2
  have d0 := k42.cell 0
  have z0 := k42.frozen 0
  simp at c0 c1 c2 d0
  have k33 := k32.far (p := ⟨a4, 0, none⟩) hne (.int .u64 ((g : Int) + 1))
  have k43 : Blk (w2.setCell ⟨a4, 0, none⟩ (.int .u64 ((g : Int) + 1))) a4 115 #[.int .u64 ((g : Int) + 1), .int .i64 ta, .int .i64 tl] := by simpa using k42.set_ 0 (.int .u64 ((g : Int) + 1))
  have b3 : Below w.heap.size w (w2.setCell ⟨a4, 0, none⟩ (.int .u64 ((g : Int) + 1))) := b2'.setCell (p := ⟨a4, 0, none⟩) (show w.heap.size ≤ a4 by have := H34.out; omega) _
  have hI3 : DiskAt (w2.setCell ⟨a4, 0, none⟩ (.int .u64 ((g : Int) + 1))) w.heap.size d bl (.slice none 0 0) (DSt.new 4) := hI2.fr ((Fr.refl (fun k => k = a4) w2).setCell (p := ⟨a4, 0, none⟩) (.inl rfl) _) (fun k hk e => hI2.off k42 (by decide) (by decide) (.inl (by decide)) (e ▸ hk))
  go_upto_region 5 with fail
  obtain ⟨w3, hw3⟩ : ∃ w3, w3 = w2.setCell ⟨a4, 0, none⟩ (.int .u64 ((g : Int) + 1)) := ⟨_, rfl⟩
  rw [← hw3] at k33 k43 b3 hI3 ⊢
  clear hw3 c0 c1 c2 d0 z0 k32 k42 hI2 b2'
  have c0 := k43.cell 0
  have c1 := k43.cell 1
  have c2 := k43.cell 2
  simp at c0 c1 c2
  by_cases hrt : (SU.mk (g + 1) ta tl).right = true
  · have hRt3 := hRt w3
    rw [hrt] at hRt3
    go_wp2_with fail
    refine hRt3.mono ?_
    rintro e w4 ⟨rfl, b4⟩
    have I4 : FollI w d bl a3 a4 ⟨g, a, l⟩ ⟨g + 1, ta, tl⟩ (.slice none 0 0) (DSt.new 4) w4 := FollI.below ⟨hI3, k33, by rw [← hgc] at k43; exact k43, b3⟩ b4
    clear hRt hRt3 c0 c1 c2 b4 k33 k43 b3 hI3
    obtain ⟨g', hgg⟩ : ∃ g', g + 1 = g' := ⟨_, rfl⟩
    rw [hgg] at I4 hrt
    obtain ⟨S, hS⟩ : ∃ S, S = SU.mk g a l := ⟨_, rfl⟩
    obtain ⟨T, hT⟩ : ∃ T, T = SU.mk g' ta tl := ⟨_, rfl⟩
    have hvS : superV S = .agg #[.int .u64 (g : Int), .int .i64 a, .int .i64 l] := by rw [hS]; rfl
    have hvT : superV T = .agg #[.int .u64 (g' : Int), .int .i64 ta, .int .i64 tl] := by rw [hT]; rfl
    have hSg : S.gen = g := by rw [hS]
    have hTg : T.gen = g' := by rw [hT]
    rw [← hS] at hr I4
    rw [← hT] at hrt I4
    have hST : T.gen = S.gen + 1 := by omega
    have hcS : S.gen = g ∧ S.area = a ∧ S.len = l := by rw [hS]; exact ⟨rfl, rfl, rfl⟩
    have hcT : T.gen = g' ∧ T.area = ta ∧ T.len = tl := by rw [hT]; exact ⟨rfl, rfl, rfl⟩
    obtain ⟨i, hi⟩ : ∃ i, S.gen % 2 = i := ⟨_, rfl⟩
    obtain ⟨j, hj⟩ : ∃ j, T.gen % 2 = j := ⟨_, rfl⟩
    have hi4 : i < 4 := by omega
    have hj4 : j < 4 := by omega
    have hij : i ≠ j := by omega
    have Hv := hide (And.intro hvS hvT)
    have Hc := hide (And.intro hcS hcT)
    have Hr := hide (And.intro hr (And.intro hrt (And.intro hST (And.intro hi hj))))
    have Hij := hide (And.intro hi4 (And.intro hj4 hij))
    clear hS hT hSg hTg hvS hvT hr hrt hST hcS hcT hi hj hi4 hj4 hij hgg hgc
    have CE := fun (wv : Value) (D : DSt) (wr : World) (I : FollI w d bl a3 a4 S T wv D wr) => (by
      have := I.cells
      rw [Hc.out.1.1, Hc.out.1.2.1, Hc.out.1.2.2, Hc.out.2.1, Hc.out.2.2.1, Hc.out.2.2.2] at this
      exact this : (wr.cell? ⟨a3, 0, none⟩ = some (.int .u64 (g : Int)) ∧ wr.cell? ⟨a3, 1, none⟩ = some (.int .i64 a) ∧ wr.cell? ⟨a3, 2, none⟩ = some (.int .i64 l)) ∧ (wr.cell? ⟨a4, 0, none⟩ = some (.int .u64 (g' : Int)) ∧ wr.cell? ⟨a4, 1, none⟩ = some (.int .i64 ta) ∧ wr.cell? ⟨a4, 2, none⟩ = some (.int .i64 tl)))
    have HC := hide CE
    clear CE
    -- the first put
    obtain ⟨⟨c0, c1, c2⟩, c3, c4, c5⟩ := HC.out _ _ _ I4
    have hp := superPutE w4 _ d bl _ _ I4.hd (by simp [DSt.new]) (by simp [DSt.new]) S Hr.out.1 i Hr.out.2.2.2.1 _ Hv.out.1
    go_wp2_with fail
    refine hp.mono ?_
    rintro e w5 ⟨rfl, wv5, h5, f5, _⟩
    have I5 := I4.fr h5 f5
    clear hp I4 h5 f5 c0 c1 c2 c3 c4 c5
    -- synced
    have hsy := sync_ok w5 _ _ _ _ _ I5.hd (by simp [DSt.write, DSt.new]) (by simp [DSt.write, DSt.new])
    go_wp2_with fail
    refine hsy.mono ?_
    rintro e w6 ⟨rfl, h6, f6⟩
    have I6 : FollI w d bl a3 a4 S T (.slice none 0 0) (fo2 i (superBytes S)) w6 := I5.fr h6 f6
    clear hsy I5 h6 f6
    -- the second put
    obtain ⟨⟨c0, c1, c2⟩, c3, c4, c5⟩ := HC.out _ _ _ I6
    have hp := superPutE w6 _ d bl _ _ I6.hd (by rw [fo2_len]; omega) (by simp [fo2, DSt.sync, DSt.write, DSt.new]) T Hr.out.2.1 j Hr.out.2.2.2.2 _ Hv.out.2
    go_wp2_with fail
    refine hp.mono ?_
    rintro e w7 ⟨rfl, wv7, h7, f7, _⟩
    have I7 := I6.fr h7 f7
    clear hp I6 h7 f7 c0 c1 c2 c3 c4 c5
    -- the crash
    have I7a := I7.alloc (.cells #[.bool kp] 4)
    have kk := Blk.new w7 4 #[.bool kp]
    have hcr := crash_ok (w7.alloc (.cells #[.bool kp] 4)) _ _ _ _ _ I7a.hd (by simp [DSt.write, fo2_len]) (some ⟨w7.heap.size, 0, none⟩) 1 1 [kp] (SlAt.ofBlk kk rfl) (fun x hx _ e => by
      injection hx with hx
      rw [← hx] at e
      have := I7.hd.hl.lt
      simp only at e
      omega) (by omega)
    go_wp2_with fail
    refine hcr.mono ?_
    rintro e w8 ⟨rfl, h8, f8⟩
    have I8 : FollI w d bl a3 a4 S T (.slice none 0 0) (fo4 i (superBytes S) j (superBytes T) kp) w8 := I7a.fr h8 f8
    clear hcr I7 I7a kk h8 f8
    -- the newest
    have hS4 : superV S = .agg #[.int .u64 (g : Int), .int .i64 a, .int .i64 l] := Hv.out.1
    have hT4 : superV T = .agg #[.int .u64 (g' : Int), .int .i64 ta, .int .i64 tl] := Hv.out.2
    obtain ⟨r1, ng, na, nl, hr1, hnv, hcase⟩ : ∃ (r1 : Value) (ng : Nat) (na nl : Int), newRes (newestS ((fo4 i (superBytes S) j (superBytes T) kp).read 0) ((fo4 i (superBytes S) j (superBytes T) kp).read 1)) = r1 ∧ r1 = .tuple #[.agg #[.int .u64 (ng : Int), .int .i64 na, .int .i64 nl], .int .i64 0] ∧ ((kp = true ∧ ng = g' ∧ na = ta ∧ nl = tl) ∨ (kp = false ∧ ng = g ∧ na = a ∧ nl = l)) := by
      cases kp with
      | true =>
        refine ⟨_, g', ta, tl, rfl, ?_, .inl ⟨rfl, rfl, rfl, rfl⟩⟩
        rw [newest_both Hr.out.1 Hr.out.2.1 Hr.out.2.2.1 _ (by rw [Hr.out.2.2.2.1]; exact fo4_i Hij.out.1 Hij.out.2.2) (by rw [Hr.out.2.2.2.2]; exact fo4_j1 Hij.out.2.1), ← hT4]
        rfl
      | false =>
        refine ⟨_, g, a, l, rfl, ?_, .inr ⟨rfl, rfl, rfl, rfl⟩⟩
        rw [newest_one Hr.out.1 Hr.out.2.2.1 _ (by rw [Hr.out.2.2.2.1]; exact fo4_i Hij.out.1 Hij.out.2.2) (by rw [Hr.out.2.2.2.2]; exact fo4_j0 Hij.out.2.1 Hij.out.2.2), ← hS4]
        rfl
    subst hnv
    have hne2 := newestE w8 _ d bl _ _ I8.hd (by rw [fo4_len]; omega) _ hr1
    clear hr1 hS4 hT4
    go_wp2_with fail
    refine hne2.mono ?_
    rintro e w9 ⟨rfl, b9⟩
    have I9 := (I8.below b9).alloc (.cells #[.int .u64 (ng : Int), .int .i64 na, .int .i64 nl] 115)
    have k11 := Blk.new w9 115 #[.int .u64 (ng : Int), .int .i64 na, .int .i64 nl]
    clear hne2 I8 b9
    go_upto_region 12 with fail
    obtain ⟨g11, hg11⟩ : ∃ g11, g11 = w9.heap.size := ⟨_, rfl⟩
    obtain ⟨w10, hw10⟩ : ∃ w10, w10 = w9.alloc (.cells #[.int .u64 (ng : Int), .int .i64 na, .int .i64 nl] 115) := ⟨_, rfl⟩
    rw [← hw10] at I9 k11 ⊢
    rw [← hg11] at k11 ⊢
    clear hw10 hg11
    -- the third put
    obtain ⟨⟨c0, c1, c2⟩, c3, c4, c5⟩ := HC.out _ _ _ I9
    have hp := superPutE w10 _ d bl _ _ I9.hd (by rw [fo4_len]; omega) (by simp [fo4, fo2, DSt.crash, DSt.sync, DSt.write, DSt.new]) T Hr.out.2.1 j Hr.out.2.2.2.2 _ Hv.out.2
    go_wp2_with fail
    refine hp.mono ?_
    rintro e w11 ⟨rfl, wv11, h11, f11, _⟩
    have I11 := I9.fr h11 f11
    have k11b := I9.hd.keep f11 k11 (by decide) (by decide) (.inl (by decide))
    clear hp I9 h11 f11 k11 c0 c1 c2 c3 c4 c5
    have hsy := sync_ok w11 _ _ _ _ _ I11.hd (by simp [DSt.write, fo4_len]) (by simp [fo4, fo2, DSt.crash, DSt.sync, DSt.write, DSt.new])
    go_wp2_with fail
    refine hsy.mono ?_
    rintro e w12 ⟨rfl, h12, f12⟩
    have I12 := I11.fr h12 f12
    have k12 := I11.hd.keep f12 k11b (by decide) (by decide) (.inl (by decide))
    clear hsy I11 h12 f12 k11b
    have hcr := crashNil w12 _ _ _ _ _ I12.hd (by simp [DSt.sync, DSt.write, doneAll_length, fo4_len])
    go_wp2_with fail
    refine hcr.mono ?_
    rintro e w13 ⟨rfl, h13, f13⟩
    have I13 : FollI w d bl a3 a4 S T (.slice none 0 0) (fo7 i (superBytes S) j (superBytes T) kp) w13 := I12.fr h13 f13
    have k13 := I12.hd.keep f13 k12 (by decide) (by decide) (.inl (by decide))
    clear hcr I12 h13 f13 k12
    have hne3 := newestE w13 _ d bl _ _ I13.hd (by rw [fo7_len]; omega) (.tuple #[.agg #[.int .u64 (g' : Int), .int .i64 ta, .int .i64 tl], .int .i64 0]) (by
      rw [newest_both Hr.out.1 Hr.out.2.1 Hr.out.2.2.1 _ (by rw [Hr.out.2.2.2.1]; exact fo7_i Hij.out.1 Hij.out.2.2) (by rw [Hr.out.2.2.2.2]; exact fo7_j Hij.out.2.1), ← Hv.out.2]
      rfl)
    go_wp2_with fail
    refine hne3.mono ?_
    rintro e w14 ⟨rfl, b14⟩
    have I15 := (I13.below b14).alloc (.cells #[.int .u64 (g' : Int), .int .i64 ta, .int .i64 tl] 115)
    have k15 := (k13.below b14 k13.lt).alloc (.cells #[.int .u64 (g' : Int), .int .i64 ta, .int .i64 tl] 115)
    have k14 := Blk.new w14 115 #[.int .u64 (g' : Int), .int .i64 ta, .int .i64 tl]
    clear hne3 I13 k13 b14
    go_upto_region 16 with fail
    obtain ⟨g14, hg14⟩ : ∃ g14, g14 = w14.heap.size := ⟨_, rfl⟩
    obtain ⟨w15, hw15⟩ : ∃ w15, w15 = w14.alloc (.cells #[.int .u64 (g' : Int), .int .i64 ta, .int .i64 tl] 115) := ⟨_, rfl⟩
    rw [← hw15] at I15 k15 k14 ⊢
    rw [← hg14] at k14 ⊢
    clear hw15 hg14
    go_wp2_with fail
    refine (alive12 _).mono ?_
    rintro e w16 ⟨rfl, b16⟩
    have I16 := I15.below b16
    have k16 := k15.below b16 k15.lt
    have k17 := k14.below b16 k14.lt
    obtain ⟨⟨c0, c1, c2⟩, c3, c4, c5⟩ := HC.out _ _ _ I16
    have low := I16.low
    clear I15 k15 k14 b16 I16
    have e0 := k16.cell 0
    have e1 := k16.cell 1
    have e2 := k16.cell 2
    have f0 := k17.cell 0
    have f1 := k17.cell 1
    have f2 := k17.cell 2
    simp at e0 e1 e2 f0 f1 f2
    rcases hcase with ⟨rfl, rfl, rfl, rfl⟩ | ⟨rfl, rfl, rfl, rfl⟩
    · go_wp2
      go_ret
      exact ⟨rfl, low⟩
    · go_wp2
      go_ret
      exact ⟨rfl, low⟩
  · have hRt3 := hRt w3
    rw [show (SU.mk (g + 1) ta tl).right = false by simpa using hrt] at hRt3
    clear hrt
    go_wp2_with fail
    refine hRt3.mono ?_
    rintro e w4 ⟨rfl, b4⟩
    have b4' := b3.trans (b4.mono b3.size)
    go_wp2_with fail
    refine (alive12 _).mono ?_
    rintro e w5 ⟨rfl, b5⟩
    go_wp2
    go_ret
    exact ⟨rfl, b4'.trans (b5.mono b4'.size)⟩
theorem foll_any (w : World) (g : Nat) (a l : Int) (tg : Nat) (ta tl : Int) (kp : Bool) :
    Calls Try.prog 18 #[.agg #[.int .u64 (g : Int), .int .i64 a, .int .i64 l], .agg #[.int .u64 (tg : Int), .int .i64 ta, .int .i64 tl], .bool kp] w fun e w' => e = .returned (.bool true) ∧ Below w.heap.size w w' := by
  by_cases hr : (SU.mk g a l).right = true
  · by_cases hg : g < 1099511627776
    · exact foll_near w g a l tg ta tl kp hr hg
    · exact foll_far w g a l tg ta tl kp (.inr ⟨hr, by omega⟩)
  · exact foll_far w g a l tg ta tl kp (.inl (by simpa using hr))
end Go.Proofs.Ytnnhklembdaieaa
