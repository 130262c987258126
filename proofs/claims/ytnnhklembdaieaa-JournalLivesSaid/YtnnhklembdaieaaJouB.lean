/- The journal: Anew. The journal: made, Format. The statements' helpers: Same. The statements' helpers: Great. slices.Clone; the records' closure, in memory. -/
import Derived.Test.YtnnhklembdaieaaJouA
import Derived.Test.YtnnhklembdaieaaCountW
import Derived.Lib.SliceRun
namespace Go.Proofs.Ytnnhklembdaieaa
open Go.RowKit
set_option linter.unusedSimpArgs false
set_option linter.unusedVariables false

theorem JOk.sured {c : Nat} {J : JSt} (h : JOk c J) (hs : J.stage = 3) (hg : J.gen < 1000000000000) : JOk c J.sured := by
  have := h.l2
  exact ⟨h.c1, h.c2, h.h1, by simp [JSt.sured], .inl (by show J.length + J.next.length ≤ _; omega), .inr rfl, h.lg, h.ln, by simp [JSt.sured], by simp [JSt.sured], h.all, h.pd, by simp [JSt.sured], by show J.gen + 1 ≤ _; omega⟩
theorem DSt.sync_l (D : DSt) : D.sync.l.length = D.l.length := by
  simp [DSt.sync, doneAll_length]
theorem DJ.ofLeft {w w' : World} {base d bl j c : Nat} {wv nv wv' nv' : Value} {D D' : DSt} {J J' : JSt} (h : DJ w base d bl j c wv nv D J) (h1 : DiskAt w' base d bl wv' D') (h2 : JAt w' base j d c nv' J') (ok : JOk c J') (hl : D'.l.length = D.l.length) (cnt : D'.waits.length ≤ 500000000 ∧ D'.writes ≤ 500000000000 ∧ D'.syncs ≤ 500000000000) : DJ w' base d bl j c wv' nv' D' J' :=
  ⟨h1, h2, ok, by rw [hl]; exact h.dl, cnt⟩
theorem DJ.below {w w' : World} {base d bl j c : Nat} {wv nv : Value} {D : DSt} {J : JSt} (h : DJ w base d bl j c wv nv D J) (hb : Below w.heap.size w w') : DJ w' base d bl j c wv nv D J :=
  ⟨h.hD.below hb (Nat.le_refl _), h.hJ.below hb (Nat.le_refl _), h.ok, h.dl, h.cnt⟩
theorem DJ.low {w : World} {base d bl j c : Nat} {wv nv : Value} {D : DSt} {J : JSt} (h : DJ w base d bl j c wv nv D J) : ∀ k, djfoot d bl j wv nv k → k < w.heap.size := by
  rintro k ((rfl | rfl | hk) | hk)
  · exact h.hD.hd.lt
  · exact h.hD.hl.lt
  · exact (h.hD.hw.lt k hk).2
  · exact (h.hJ.low k hk).2
def encL (l : List (List UInt8)) : List UInt8 := l.flatMap frameL
theorem encL_snoc (l : List (List UInt8)) (r : List UInt8) : encL (l ++ [r]) = encL l ++ frameL r := by simp [encL]
theorem encL_bound (l : List (List UInt8)) (h : ∀ r ∈ l, isRec r.length = true) : (encL l).length ≤ l.length * 2002 := by
  induction l with
  | nil => simp [encL]
  | cons a t ih =>
    have h1 := h a (by simp)
    have h2 := ih (fun r hr => h r (by simp [hr]))
    simp only [isRec, decide_eq_true_eq] at h1
    simp only [encL, List.flatMap_cons, List.length_append, frameL_length, List.length_cons] at h2 ⊢
    omega
theorem TextsAt.below {w w' : World} {A : Option Addr} {rows : List RowM} (h : TextsAt w A rows) (hb : Below w.heap.size w w') : TextsAt w' A rows :=
  ⟨h.1, fun h0 => by
    obtain ⟨g, o, e, hg, hk⟩ := h.2 h0
    refine ⟨g, o, e, Nat.lt_of_lt_of_le hg hb.size, fun k hkl => ?_⟩
    obtain ⟨h1, h2, h3⟩ := hk k hkl
    exact ⟨(World.cell?_of_block (w := w) (hb.block g hg)).trans h1, h2.below hb (Nat.le_refl _), h3⟩⟩
def janew (c : Nat) (D : DSt) (J : JSt) (l : List (List UInt8)) : DSt × JSt × Nat :=
  if l.all (fun r => isRec r.length) then (if (encL l).length ≤ c * 128 then
    (if J.stage = 3 then (D.sync.put ((2 + (1 - J.half) * c) * 128 + 0) (encL l), J.sured.begun (1 - J.half) 0 (encL l).length, 0)
      else (D.put ((2 + (1 - J.area) * c) * 128 + 0) (encL l), J.begun (1 - J.area) 0 (encL l).length, 0)) else (D, J, 5)) else (D, J, 1)

set_option maxRecDepth 100000 in
set_option maxHeartbeats 3200000 in
theorem janew_ok {w : World} {base d bl j c : Nat} {wv nv : Value} {D : DSt} {J : JSt} (h : DJ w base d bl j c wv nv D J) (hg : J.gen < 1000000000000) (hsy : D.syncs < 500000000000) (A : Option Addr) (m cp : Nat) (rows : List RowM) (hm : rows.length = m) (hr : TextsAt w A rows) (hm1 : m ≤ 1000) :
    Calls Try.prog 50 #[.pointer (some ⟨j, 0, none⟩), .slice A m cp] w fun e w' => e = .returned (.int .i64 ((janew c D J (rows.map (·.l))).2.2 : Int)) ∧ Left w w' base d bl j c wv nv (janew c D J (rows.map (·.l))).1 (janew c D J (rows.map (·.l))).2.1 := by
  have c0 : w.cell? ⟨j, 0, none⟩ = some (.pointer (some ⟨d, 0, none⟩)) := (h.hJ.hj.cell 0).trans rfl
  have HM := hide (jmade_ok j d w c0)
  obtain ⟨i0, hi0, hz0, hs0, hb0⟩ := info_parts info5'
  have HJ := hide h
  have HR := hide hr
  have HLn := hide hm
  obtain ⟨R, hR⟩ : ∃ R, R = janew c D J (rows.map (·.l)) := ⟨_, rfl⟩
  rw [← hR]
  have HRR := hide hR
  clear h hr hm hR
  go_enter Try.func50, Try.ntmps50
  go_wp2_with (go_at_call 90; refine HM.out.mono ?_; rintro e w' ⟨rfl, rfl⟩)
  go_loopw [5, 15] (fun vb i wr => ∃ k : Nat, k ≤ m ∧ i = .int .i64 k ∧ wr.ownsRow w.heap.size 5 1 vb (encL ((rows.take k).map (·.l))).length (bvs (encL ((rows.take k).map (·.l)))) ∧ Below w.heap.size w wr ∧ (∀ r ∈ (rows.take k).map (·.l), isRec r.length = true)) (fun _ i _ => m - (intOf i).toNat)
  case atStart => exact ⟨0, by omega, rfl, World.ownsRow_nil _ _ _ _, Below.refl _ _, by simp⟩
  case round =>
    obtain ⟨k, hk, rfl, hown, hbel, hrec⟩ := hrel
    by_cases hlt : k < m
    · obtain ⟨g, o, rfl, hg, hrows⟩ := HR.out.2 (by rw [HLn.out]; omega)
      have hkl : k < rows.length := by rw [HLn.out]; exact hlt
      obtain ⟨q, hq⟩ : ∃ q, q = rows[k] := ⟨_, rfl⟩
      obtain ⟨e1, e2, e3⟩ := hrows k hkl
      rw [← hq] at e1 e2 e3
      have hq1 : wr.cell? ⟨g, o + k, none⟩ = some (.slice q.A q.l.length q.c) := (hbel.cell (p := ⟨g, o + k, none⟩) hg).trans e1
      have e2' := e2.below hbel (Nat.le_refl _)
      have hk0 : (0 : Int) ≤ (k : Int) := by omega
      have hk1 : (k : Int) < (m : Int) := by omega
      have hsn : (rows.take (k + 1)).map (·.l) = (rows.take k).map (·.l) ++ [q.l] := by rw [take_snoc _ _ hkl, List.map_append, hq]; rfl
      obtain ⟨X, hX⟩ : ∃ X, X = (rows.take k).map (·.l) := ⟨_, rfl⟩
      rw [← hX] at hown hrec hsn
      have hXl : X.length = k := by rw [hX]; simp; omega
      have hbd := encL_bound X hrec
      rw [hXl] at hbd
      have HRC := hide (jrec_ok q.A q.l.length q.c wr)
      have HX := hide hX
      have HQ := hide hq
      clear hX hrows e1 hXl hq
      by_cases hrk : isRec q.l.length = true
      · have HFR := hide (jframe_ok q.A q.l.length q.c q.l (by simp [isRec] at hrk; omega) (by simp [isRec] at hrk; omega) wr e2')
        have hq2 : 1 ≤ q.l.length ∧ q.l.length ≤ 2000 := by simpa [isRec] using hrk
        rw [hrk] at HRC
        have HO := hide hown
        have HSN := hide hsn
        have HRE := hide hrec
        have HRK := hide hrk
        clear hown hsn hrec hrk e2 e2'
        go_wp2_with (go_at_call 91; refine HRC.out.mono ?_; rintro e w' ⟨rfl, rfl⟩)
        refine HFR.out.mono ?_
        rintro e w3 ⟨v3, rfl, hown3, hb3⟩
        obtain ⟨A3, cp3, rfl, -, -, hA3⟩ := own_shape hown3
        obtain ⟨g3, rfl, hg3, hg3', hr3⟩ := hA3 (by omega)
        have HO3 := hide (Fr.own HO.out (Fr.none_ (S := nob) hb3) (fun _ _ h => h))
        go_wp2_with (at_builtin; refine wpList_append_own_at _ rfl _ _ 28 rfl w.heap.size 5 i0 _ 1 1 Try.underlying28 hi0 hz0 hs0 hb0 rfl (by omega) _ (encL X).length (bvs (encL X)) rfl HO3.out ⟨g3, 0, none⟩ (q.l.length + 2) cp3 (bvs (frameL q.l)) rfl (by rw [bvs_length, frameL_length, Nat.mul_one]) (by intro i u hu; rw [Addr.add_mid]; exact hr3 i u hu) (bvs_one _) (by unfold maxLen; omega) (by omega) ?_ ?_; (have := hbel.size; have := hb3.size; omega); intro v5 w5 hown5 hgrow5 _ _)
        rw [← bvs_append, ← encL_snoc] at hown5
        have hb5 : Below w.heap.size w w5 := (hbel.trans (hb3.mono hbel.size)).grown hgrow5 (by have := hbel.size; have := hb3.size; omega) (fun i hi => (HO.out.lt i hi).1)
        go_roundw
        case rel => exact ⟨k + 1, by omega, by go_num, by rw [HSN.out, encL_snoc, List.length_append, frameL_length]; rw [encL_snoc] at hown5; exact hown5, hb5, by
          rw [HSN.out]; intro r hr; rcases List.mem_append.1 hr with h1 | h1
          · exact HRE.out r h1
          · rw [List.mem_singleton.1 h1]; exact HRK.out⟩
        case measure => simp [intOf] <;> omega
      · simp only [Bool.not_eq_true] at hrk
        rw [hrk] at HRC
        go_wp2_with (go_at_call 91; refine HRC.out.mono ?_; rintro e w' ⟨rfl, rfl⟩)
        go_ret
        have hRe : R = (D, J, 1) := by
          rw [HRR.out]; unfold janew
          rw [if_neg]
          intro hall
          have := List.all_eq_true.1 hall q.l (by rw [HQ.out]; exact List.mem_map_of_mem (List.getElem_mem _))
          rw [hrk] at this; cases this
        rw [hRe]
        have h2 := HJ.out.below hbel
        exact ⟨rfl, wv, nv, h2.hD, h2.hJ, Fr.none_ hbel, Later.refl _ _, Later.refl _ _⟩
    · obtain rfl : k = m := by omega
      rw [List.take_of_length_le (by rw [HLn.out]; omega)] at hown hrec
      obtain ⟨X, hX⟩ : ∃ X, X = rows.map (·.l) := ⟨_, rfl⟩
      rw [← hX] at hown hrec HRR
      have hXl : X.length = k := by rw [hX]; simp [HLn.out]
      have hbd := encL_bound X hrec
      rw [hXl] at hbd
      have hall : X.all (fun r => isRec r.length) = true := List.all_eq_true.2 hrec
      obtain ⟨A5, cp5, rfl, hcp5, hcp6, -⟩ := own_shape hown
      have hj := HJ.out.below hbel
      have d1 : wr.cell? ⟨j, 1, none⟩ = some (.int .i64 2) := (hj.hJ.hj.cell 1).trans rfl
      have d2 : wr.cell? ⟨j, 2, none⟩ = some (.int .i64 (c : Int)) := (hj.hJ.hj.cell 2).trans rfl
      have hc1 := hj.ok.c1
      have hc2 := hj.ok.c2
      have hR : roomA (c : Int) = (c : Int) * 128 := by unfold roomA; split <;> omega
      by_cases hfit : (encL X).length ≤ c * 128
      · have hcmp : decide (((encL X).length : Int) > (c : Int) * 128) = false := by simp; omega
        obtain ⟨N, hN⟩ : ∃ N, N = (encL X).length := ⟨_, rfl⟩
        have HOwn := hide hown
        have HRec := hide hall
        have HX2 := hide hX
        rw [← hN] at hcmp hbd hfit hcp5 hown HOwn ⊢
        have HN := hide hN
        clear hown hall hrec hX hN
        have HJ2 := hide hj
        have HC := hide (And.intro hcp5 hcp6)
        clear hj hcp5 hcp6
        have hbel2 := hbel
        have hst : ∀ w', Below wr.heap.size wr w' → w'.cell? ⟨j, 13, none⟩ = some (.int .i64 (J.stage : Int)) := fun w' h' => ((HJ2.out.below h').hJ.hj.cell 13).trans rfl
        have har : ∀ w', Below wr.heap.size wr w' → w'.cell? ⟨j, 6, none⟩ = some (.int .i64 (J.area : Int)) := fun w' h' => ((HJ2.out.below h').hJ.hj.cell 6).trans rfl
        by_cases h3 : J.stage = 3
        · have HRe := hide (show R = (D.sync.put ((2 + (1 - J.half) * c) * 128 + 0) (encL X), J.sured.begun (1 - J.half) 0 (encL X).length, 0) by rw [HRR.out]; unfold janew; rw [if_pos HRec.out, if_pos (by rw [← HN.out]; exact hfit), if_pos h3])
          have hs3 : ((J.stage : Int) == 3) = true := by simp [h3]
          have ha1 := HJ2.out.ok.h1
          go_wp2_with (go_at_call 70; refine (room_ok _ _ _).mono ?_; rintro e w2 ⟨rfl, hb2⟩; rw [hR]; have e13 := hst w2 hb2)
          have HS := hide (jstep_sure (HJ2.out.below hb2) h3)
          have HO2 := hide (Fr.own HOwn.out (Fr.none_ (S := nob) hb2) (fun _ _ h => h))
          refine HS.out.mono ?_
          rintro e w4 ⟨rfl, wv4, nv4, hD4, hJ4, f4, hl4, hl4'⟩
          have ho4 := Fr.own HO2.out f4 (fun k hk hS => by
            have h1 := (HJ.out.low k hS)
            have h2 := (HOwn.out.lt k hk).1
            omega)
          have h4 : DJ w4 base d bl j c wv4 nv4 D.sync J.sured := DJ.ofLeft HJ2.out hD4 hJ4 (HJ2.out.ok.sured h3 hg) (DSt.sync_l D) (by have := HJ2.out.cnt; simp only [DSt.sync, List.length_nil]; omega)
          have e6 : w4.cell? ⟨j, 6, none⟩ = some (.int .i64 (J.half : Int)) := (hJ4.hj.cell 6).trans rfl
          have HB := jbegin_ok h4 (1 - J.half) 0 A5 N cp5 (encL X) (sl_own ho4) (Sep.ofOwn ho4 (by decide) (by decide) (by decide)) (by omega) (by omega) (by have := HC.out.2; unfold maxLen at this; exact this) HC.out.1
          rw [show ((1 - J.half : Nat) : Int) = 1 - (J.half : Int) by omega] at HB
          have HB' := hide HB
          have HF4 := hide f4
          have HL4 := hide (And.intro hl4 hl4')
          clear HB h4 ho4 hD4 hJ4 f4 hl4 hl4'
          go_wp2_with fail
          refine HB'.out.mono ?_
          rintro e w3 ⟨rfl, wv', hD3, hJ3, f3, hl3⟩
          go_wp2_with fail
          go_ret
          rw [HRe.out]
          rw [HN.out] at hJ3
          have hbb := hbel2.trans (hb2.mono hbel2.size)
          have hf : Fr (djfoot d bl j wv nv) w w4 := (Fr.none_ hbb).trans HF4.out (fun k hk => .inl hk)
          have hj4 : ∀ k, djfoot d bl j wv4 nv4 k → djfoot d bl j wv nv k ∨ w.heap.size ≤ k := fun k hk => by
            rcases hk with (rfl | rfl | hk) | (rfl | hk)
            · exact .inl (.inl (.inl rfl))
            · exact .inl (.inl (.inr (.inl rfl)))
            · exact (HL4.out.1 k hk).imp (fun h => .inl (.inr (.inr h))) (fun h => Nat.le_trans hbb.size h)
            · exact .inl (.inr (.inl rfl))
            · exact (HL4.out.2 k hk).imp (fun h => .inr (.inr h)) (fun h => Nat.le_trans hbb.size h)
          exact ⟨rfl, wv', _, hD3, hJ3, hf.trans f3 hj4, fun k hk => (hl3 k hk).elim (fun h => (HL4.out.1 k h).imp id (fun h => Nat.le_trans hbb.size h)) (fun h => .inr (Nat.le_trans hf.size h)), fun k hk => by cases hk⟩
        · have HRe := hide (show R = (D.put ((2 + (1 - J.area) * c) * 128 + 0) (encL X), J.begun (1 - J.area) 0 (encL X).length, 0) by rw [HRR.out]; unfold janew; rw [if_pos HRec.out, if_pos (by rw [← HN.out]; exact hfit), if_neg h3])
          have hs3 : ((J.stage : Int) == 3) = false := by simp; omega
          have ha1 := HJ2.out.ok.a1
          go_wp2_with (go_at_call 70; refine (room_ok _ _ _).mono ?_; rintro e w2 ⟨rfl, hb2⟩; rw [hR]; have e13 := hst w2 hb2; have e6 := har w2 hb2)
          have h2 := HJ2.out.below hb2
          have ho2 := Fr.own HOwn.out (Fr.none_ (S := nob) hb2) (fun _ _ h => h)
          have HB := jbegin_ok h2 (1 - J.area) 0 A5 N cp5 (encL X) (sl_own ho2) (Sep.ofOwn ho2 (by decide) (by decide) (by decide)) (by omega) (by omega) (by have := HC.out.2; unfold maxLen at this; exact this) HC.out.1
          rw [show ((1 - J.area : Nat) : Int) = 1 - (J.area : Int) by omega] at HB
          have HB' := hide HB
          clear HB h2 ho2
          refine HB'.out.mono ?_
          rintro e w3 ⟨rfl, wv', hD3, hJ3, f3, hl3⟩
          go_wp2_with fail
          go_ret
          rw [HRe.out]
          rw [HN.out] at hJ3
          have hbb := hbel2.trans (hb2.mono hbel2.size)
          exact ⟨rfl, wv', _, hD3, hJ3, (Fr.none_ hbb).trans f3 (fun k hk => .inl hk), fun k hk => (hl3 k hk).imp id (fun h => Nat.le_trans hbb.size h), fun k hk => by cases hk⟩
      · have hcmp : decide (((encL X).length : Int) > (c : Int) * 128) = true := by simp; omega
        have hRe : R = (D, J, 5) := by
          rw [HRR.out]; unfold janew
          rw [if_pos hall, if_neg hfit]
        have HRe := hide hRe
        obtain ⟨N, hN⟩ : ∃ N, N = (encL X).length := ⟨_, rfl⟩
        rw [← hN] at hcmp hbd ⊢
        have hNn : ¬ N ≤ c * 128 := by rw [hN]; exact hfit
        clear hRe hown hall hrec hcp5 hcp6 hfit hN
        have HJ2 := hide hj
        clear hj
        go_wp2_with (go_at_call 70; refine (room_ok _ _ _).mono ?_; rintro e w2 ⟨rfl, hb2⟩; rw [hR])
        go_ret
        rw [HRe.out]
        have h2 := HJ2.out.below hb2
        exact ⟨rfl, wv, nv, h2.hD, h2.hJ, Fr.none_ (hbel.trans (hb2.mono hbel.size)), Later.refl _ _, Later.refl _ _⟩
end Go.Proofs.Ytnnhklembdaieaa
namespace Go.Proofs.Ytnnhklembdaieaa
open Go.RowKit
set_option linter.unusedSimpArgs false
set_option linter.unusedVariables false

def JSt.new (g a l : Nat) : JSt := ⟨g, a, l, [], 0, 0, 0, 0, 0, 0, 0⟩
set_option maxRecDepth 100000 in
set_option maxHeartbeats 1600000 in
theorem jnew_ok {w : World} {base d bl : Nat} {wv : Value} {D : DSt} (hD : DiskAt w base d bl wv D) (h2 : 2 ≤ D.l.length) (h4 : D.l.length ≤ 4096) (hbase : base ≤ w.heap.size) (g a l : Nat) :
    Calls Try.prog 89 #[.pointer (some ⟨d, 0, none⟩), .agg #[.int .u64 (g : Int), .int .i64 (a : Int), .int .i64 (l : Int)]] w fun e w' => ∃ j, e = .returned (.pointer (some ⟨j, 0, none⟩)) ∧ w.heap.size ≤ j ∧ JAt w' base j d ((D.l.length - 2) / 2) (.slice none 0 0) (JSt.new g a l) ∧ Below w.heap.size w w' := by
  obtain ⟨c, hc⟩ : ∃ c, c = (D.l.length - 2) / 2 := ⟨_, rfl⟩
  have HC := hide hc
  have hb0 : Below w.heap.size w (w.alloc (.cells #[.int .u64 (g : Int), .int .i64 (a : Int), .int .i64 (l : Int)] 115)) := (Below.refl _ w).alloc (Nat.le_refl _) _
  have HH := hide (halves_ok (.pointer (some ⟨d, 0, none⟩)) D.l.length h2 h4 (w.alloc (.cells #[.int .u64 (g : Int), .int .i64 (a : Int), .int .i64 (l : Int)] 115)) (secDisk (hD.below hb0 (Nat.le_refl _))))
  rw [← hc] at HH ⊢
  have kk := Blk.new w 115 #[.int .u64 (g : Int), .int .i64 (a : Int), .int .i64 (l : Int)]
  clear hc
  go_enter Try.func89, Try.ntmps89
  go_wp2_with fail
  refine HH.out.mono ?_
  rintro e w2 ⟨rfl, hb2⟩
  have k3 := kk.below hb2 kk.lt
  have hlt : w.heap.size < w2.heap.size := k3.lt
  have hbb := hb0.trans (hb2.mono hb0.size)
  have q0 := k3.cell 0
  have q1 := k3.cell 1
  have q2 := k3.cell 2
  simp at q0 q1 q2
  have HK := hide k3
  have HBB := hide hbb
  clear kk k3 hbb hb2 hb0 HH
  have hne1 : w2.heap.size ≠ w.heap.size := by omega
  have hne2 : w2.heap.size + 1 ≠ w.heap.size := by omega
  go_wp2
  go_ret
  obtain ⟨w3, hw3⟩ : ∃ w3, w3 = ((w2.alloc (Obj.cells #[Value.int IntKind.i64 2, Value.int IntKind.i64 ↑c] 113)).alloc (Obj.cells #[Value.int IntKind.i64 (2 + ↑c), Value.int IntKind.i64 ↑c] 113)) := ⟨_, rfl⟩
  have hsz : w3.heap.size = w2.heap.size + 1 + 1 := by rw [hw3]; simp
  have hb3 : Below w.heap.size w w3 := by rw [hw3]; exact (HBB.out.alloc (by have := HBB.out.size; omega) _).alloc (by have := HBB.out.size; simp; omega) _
  rw [← hw3, ← hsz]
  have kj := Blk.new w3 119 (jcells d c (.slice none 0 0) (JSt.new g a l))
  have e5 : ((2 + c : Nat) : Int) = 2 + (c : Int) := by omega
  simp only [jcells, JSt.new, e5] at kj
  refine ⟨w3.heap.size, rfl, hb3.size, ⟨?_, World.ownsRow_nil _ _ _ _, by have := hb3.size; omega⟩, hb3.alloc hb3.size _⟩
  simp only [jcells, JSt.new, e5]
  exact kj
set_option maxRecDepth 100000 in
set_option maxHeartbeats 1600000 in
/-- Format, of a disk. -/
theorem jformat_ok {w : World} {base d bl : Nat} {wv : Value} {D : DSt} (hD : DiskAt w base d bl wv D) (h2 : 4 ≤ D.l.length) (h4 : D.l.length ≤ 4096) (hbase : base ≤ w.heap.size) (hcnt : D.waits.length < 500000000 ∧ D.writes < 500000000000 ∧ D.syncs < 500000000000) :
    Calls Try.prog 45 #[.pointer (some ⟨d, 0, none⟩)] w fun e w' => ∃ j, e = .returned (.tuple #[.pointer (some ⟨j, 0, none⟩), .int .i64 0]) ∧ w.heap.size ≤ j ∧ DJ w' base d bl j ((D.l.length - 2) / 2) (.slice none 0 0) (.slice none 0 0) (D.write 1 (superBytes ⟨1, 0, 0⟩)).sync (JSt.new 1 0 0) ∧ Fr (dfoot d bl wv) w w' := by
  have HS := hide (secDisk hD w (Below.refl _ _))
  have HN := hide (jnew_ok hD (by omega) h4 hbase 1 0 0)
  have hl0 : ((D.l.length : Int) == 0) = false := beq_false_of_ne (by omega)
  have HD := hide hD
  obtain ⟨c, hc⟩ : ∃ c, c = (D.l.length - 2) / 2 := ⟨_, rfl⟩
  rw [← hc] at HN ⊢
  go_enter Try.func45, Try.ntmps45
  go_wp2_with (go_at_call 28; refine HS.out.mono ?_; rintro e w' ⟨rfl, rfl⟩)
  refine HN.out.mono ?_
  rintro e w1 ⟨j, rfl, hj, hJ, hb1⟩
  have q5 : w1.cell? ⟨j, 5, none⟩ = some (.int .u64 1) := (hJ.hj.cell 5).trans rfl
  have q6 : w1.cell? ⟨j, 6, none⟩ = some (.int .i64 0) := (hJ.hj.cell 6).trans rfl
  have q7 : w1.cell? ⟨j, 7, none⟩ = some (.int .i64 0) := (hJ.hj.cell 7).trans rfl
  have hD1 := HD.out.below hb1 (Nat.le_refl _)
  have HP := hide (superPutE w1 base d bl wv D hD1 (by omega) (by omega) ⟨1, 0, 0⟩ (by decide) 1 rfl _ rfl)
  have HJ := hide hJ
  have HB := hide hb1
  have HD1 := hide hD1
  clear hJ hb1 hD1 hD
  go_wp2_with fail
  refine HP.out.mono ?_
  rintro e w2 ⟨rfl, wv2, hD2, f2, hl2⟩
  have hJ2 := HJ.out.fr f2 (fun k hk => jd_off HD1.out HJ.out k hk)
  have HY := hide (sync_ok w2 base d bl wv2 _ hD2 (by simp [DSt.write]; omega) (by simp [DSt.write]; omega))
  have HJ2 := hide hJ2
  have HD2 := hide hD2
  have HF2 := hide f2
  have HL2 := hide hl2
  clear hJ2 hD2 f2 hl2
  go_wp2_with fail
  refine HY.out.mono ?_
  rintro e w3 ⟨rfl, hD3, f3⟩
  have hJ3 := HJ2.out.fr f3 (fun k hk => jd_off HD2.out HJ2.out k hk)
  go_wp2_with fail
  go_ret2
  refine ⟨j, rfl, hj, ⟨hD3, hJ3, ?_, ?_, ?_⟩, ?_⟩
  · constructor <;> (try simp [JSt.new]) <;> omega
  · simp only [DSt.sync_l, DSt.write, List.length_append]; omega
  · simp [DSt.sync, DSt.write]; omega
  · exact ((Fr.none_ HB.out).trans HF2.out (fun k hk => .inl hk)).trans f3 (fun k hk => by
      rcases hk with rfl | rfl | hk
      · exact .inl (.inl rfl)
      · exact .inl (.inr (.inl rfl))
      · exact (HL2.out k hk).imp (fun h => .inr (.inr h)) (fun h => Nat.le_trans HB.out.size h))
theorem jformat_nil (w : World) : Calls Try.prog 45 #[.pointer none] w fun e w' => e = .returned (.tuple #[.pointer none, .int .i64 6]) ∧ w = w' := by
  go_enter Try.func45, Try.ntmps45
  go_wp2_with (go_at_call 28; refine (sectors_nil _).mono ?_; rintro e w' ⟨rfl, rfl⟩)
  go_ret2
  exact ⟨rfl, rfl⟩
end Go.Proofs.Ytnnhklembdaieaa
namespace Go.Proofs.Ytnnhklembdaieaa
open Go.RowKit
set_option linter.unusedSimpArgs false
set_option linter.unusedVariables false

theorem bs_ne (a b : List UInt8) : ((bs a).toList == (bs b).toList) = decide (a = b) := by
  rw [bs_toList, bs_toList]
  by_cases h : a = b
  · subst h; simp
  · simp [h]
set_option maxRecDepth 100000 in
set_option maxHeartbeats 3200000 in
theorem same_rows (w : World) (A B : Option Addr) (n m ca cb : Nat) (ra rb : List RowM) (hn : ra.length = n) (hm : rb.length = m) (ha : TextsAt w A ra) (hb : TextsAt w B rb) :
    Calls Try.prog 55 #[.slice A n ca, .slice B m cb] w fun e w' => e = .returned (.bool (decide (ra.map (·.l) = rb.map (·.l)))) ∧ Below w.heap.size w w' := by
  have hlen := ha.1
  have HM := hide hm
  have HN := hide hn
  rw [hn] at hlen
  obtain ⟨R, hR⟩ : ∃ R, R = decide (ra.map (·.l) = rb.map (·.l)) := ⟨_, rfl⟩
  rw [← hR]
  have HR := hide hR
  clear hR hm hn
  by_cases hnm : n = m
  · subst hnm
    have hne : ((n : Int) != (n : Int)) = false := by simp
    go_enter Try.func55, Try.ntmps55
    go_wp2_with fail
    go_loopw [5] (fun i wr => ∃ k : Nat, k ≤ n ∧ i = .int .i64 k ∧ (ra.map (·.l)).take k = (rb.map (·.l)).take k ∧ Below w.heap.size w wr) (fun i _ => n - (intOf i).toNat)
    case atStart => exact ⟨0, by omega, rfl, by simp, Below.refl _ _⟩
    case round =>
      obtain ⟨k, hk, rfl, heq, hbl⟩ := hrel
      by_cases hlt : k < n
      · obtain ⟨ga, oa, rfl, hga, hra⟩ := ha.2 (by rw [HN.out]; omega)
        obtain ⟨gb, ob, rfl, hgb, hrb⟩ := hb.2 (by rw [HM.out]; omega)
        obtain ⟨e1, e2, e3⟩ := hra k (by rw [HN.out]; exact hlt)
        obtain ⟨f1, f2, f3⟩ := hrb k (by rw [HM.out]; exact hlt)
        have hka : k < ra.length := by rw [HN.out]; exact hlt
        have hkb : k < rb.length := by rw [HM.out]; exact hlt
        obtain ⟨p, hp⟩ : ∃ p, p = ra[k] := ⟨_, rfl⟩
        obtain ⟨q, hq⟩ : ∃ q, q = rb[k] := ⟨_, rfl⟩
        rw [← hp] at e1 e2 e3
        rw [← hq] at f1 f2 f3
        have hk0 : (0 : Int) ≤ (k : Int) := by omega
        have hk1 : (k : Int) < (n : Int) := by omega
        have hS : w.heap.size ≤ w.heap.size → Below w.heap.size w wr.drew := fun _ => hbl.drew
        have hbd := hS (Nat.le_refl _)
        have HP := hide hp
        have HQ := hide hq
        have HE := hide heq
        have g1 : wr.drew.cell? ⟨ga, oa + k, none⟩ = some (.slice p.A p.l.length p.c) := (hbd.cell (p := ⟨ga, oa + k, none⟩) hga).trans e1
        have g2 : wr.drew.cell? ⟨gb, ob + k, none⟩ = some (.slice q.A q.l.length q.c) := (hbd.cell (p := ⟨gb, ob + k, none⟩) hgb).trans f1
        have g3 := run_str wr.drew p.A p.l.length p.c p.l (e2.below hbd (Nat.le_refl _))
        have g4 := run_str wr.drew q.A q.l.length q.c q.l (f2.below hbd (Nat.le_refl _))
        obtain ⟨bq, hbq⟩ : ∃ bq : Bool, bq = decide (p.l = q.l) := ⟨_, rfl⟩
        have hbn := bs_ne p.l q.l
        rw [← hbq] at hbn
        have HBQ := hide hbq
        clear hbq
        clear hra hrb e1 e2 f1 f2 hp hq heq hS
        go_wp2_with fail
        refine wp_region_held 11 (fun w' => w'.cell? ⟨ga, oa + k, none⟩ = some (.slice p.A p.l.length p.c) ∧ w'.cell? ⟨gb, ob + k, none⟩ = some (.slice q.A q.l.length q.c) ∧ (convert 28 9 (.slice p.A p.l.length p.c)).run Try.prog w' = .ok (.string (bs p.l)) w' ∧ (convert 28 9 (.slice q.A q.l.length q.c)).run Try.prog w' = .ok (.string (bs q.l)) w') (fun _ => false) (by kernel_rfl) (by kernel_rfl) ⟨g1, g2, g3, g4⟩ (fun ops hops F hF => ?_)
        clear hops g1 g2 g3 g4
        simp only [List.take_succ_cons, List.take_zero, List.drop_succ_cons, List.drop_zero] at hF ⊢
        iterate 10 (refine held_q rfl rfl ?_; apply Exists.intro; refine ⟨fun w' hw' => ?_, ?_⟩; (obtain ⟨x0, x1, x2, x3⟩ := hw'; go_simp; rfl); simp only [Act.put, List.setIfInBounds_toArray, List.set_cons_zero, List.set_cons_succ, Nat.reduceAdd])
        iterate 1 (refine held_q rfl rfl ?_; apply Exists.intro; refine ⟨fun w' hw' => ?_, ?_⟩; (obtain ⟨x0, x1, x2, x3⟩ := hw'; go_simp; rfl); simp only [Act.put, List.setIfInBounds_toArray, List.set_cons_zero, List.set_cons_succ, Nat.reduceAdd])
        refine held_nil (hF _ _ ?_)
        clear hF F
        clear hbn
        have HPQ := HBQ
        cases bq
        rotate_left
        · have HPQ : Hid (p.l = q.l) := hide (of_decide_eq_true HBQ.out.symm)
          simp only [Bool.not_true]
          go_wp2
          go_roundw
          case rel => exact ⟨k + 1, by omega, by go_num, by
            rw [take_snoc _ _ (by simpa using hka), take_snoc _ _ (by simpa using hkb), HE.out, List.getElem_map, List.getElem_map, ← HP.out, ← HQ.out, HPQ.out], hbd⟩
          case measure => simp [intOf] <;> omega
        · have HPQ : Hid (¬ p.l = q.l) := hide (of_decide_eq_false HBQ.out.symm)
          simp only [Bool.not_false]
          go_wp2
          go_ret
          refine ⟨?_, hbd⟩
          rw [HR.out]
          congr 1
          have : ra.map (·.l) ≠ rb.map (·.l) := fun e => HPQ.out (by
            have h1 : (ra.map (·.l))[k]? = (rb.map (·.l))[k]? := by rw [e]
            simp only [List.getElem?_map, List.getElem?_eq_getElem hka, List.getElem?_eq_getElem hkb, Option.map_some, ← HP.out, ← HQ.out] at h1
            exact Option.some.inj h1)
          simp [this]
      · obtain rfl : k = n := by omega
        go_wp2
        go_ret
        refine ⟨?_, hbl⟩
        rw [HR.out]
        rw [List.take_of_length_le (by rw [List.length_map, HN.out]; omega), List.take_of_length_le (by rw [List.length_map, HM.out]; omega)] at heq
        simp [heq]
  · have hne : ((n : Int) != (m : Int)) = true := by simp; omega
    go_enter Try.func55, Try.ntmps55
    go_wp2
    go_ret
    refine ⟨?_, Below.refl _ _⟩
    rw [HR.out]
    congr 1
    have : ra.map (·.l) ≠ rb.map (·.l) := fun e => hnm (by have := congrArg List.length e; simpa [HN.out, HM.out] using this)
    simp [this]
end Go.Proofs.Ytnnhklembdaieaa
namespace Go.Proofs.Ytnnhklembdaieaa
open Go.RowKit
set_option linter.unusedSimpArgs false
set_option linter.unusedVariables false

def sumN (l : List Nat) : Nat := l.foldl (· + ·) 0
theorem sumN_snoc (l : List Nat) (x : Nat) : sumN (l ++ [x]) = sumN l + x := by simp [sumN]
/-- is an op too much? -/
def greatO (bl : Nat) (ls : List Nat) : Bool := decide (40 < ls.length) || ls.any (fun x => decide (2100 < x)) || decide (2100 < bl) || decide (9000 < sumN ls)
set_option maxRecDepth 100000 in
set_option maxHeartbeats 3200000 in
theorem great_ok (w : World) (kind : Int) (bA : Option Addr) (bn bc : Nat) (hbn : bn ≤ 9223372036854775807) (A : Option Addr) (n ca : Nat) (rows : List RowM) (hn : rows.length = n) (ha : TextsAt w A rows) (kv : Value) (hkv : kv.oneCell' = true) :
    Calls Try.prog 46 #[.agg #[.int .i64 kind, .slice bA bn bc, .slice A n ca, kv]] w fun e w' => e = .returned (.bool (greatO bn (rows.map (·.l.length)))) ∧ Below w.heap.size w w' := by
  have hlen := ha.1
  have HN := hide hn
  rw [hn] at hlen
  obtain ⟨R, hR⟩ : ∃ R, R = greatO bn (rows.map (·.l.length)) := ⟨_, rfl⟩
  rw [← hR]
  have HR := hide hR
  have kb := Blk.new w 91 #[.int .i64 kind, .slice bA bn bc, .slice A n ca, kv]
  have hb1 : Below w.heap.size w (w.alloc (.cells #[.int .i64 kind, .slice bA bn bc, .slice A n ca, kv] 91)) := (Below.refl _ w).alloc (Nat.le_refl _) _
  clear hR hn
  have hcs : (Value.agg #[.int .i64 kind, .slice bA bn bc, .slice A n ca, kv]).cells = #[.int .i64 kind, .slice bA bn bc, .slice A n ca, kv] := rfl
  go_enter Try.func46, Try.ntmps46
  go_wp2_with fail

  obtain ⟨w1, hw1⟩ : ∃ w1, w1 = w.alloc (.cells #[.int .i64 kind, .slice bA bn bc, .slice A n ca, kv] 91) := ⟨_, rfl⟩
  obtain ⟨x, hx⟩ : ∃ x, x = w.heap.size := ⟨_, rfl⟩
  rw [← hw1] at kb hb1 ⊢
  rw [← hx] at kb ⊢
  have HB := hide (show ∀ w', Below w1.heap.size w1 w' → Blk w' x 91 #[.int .i64 kind, .slice bA bn bc, .slice A n ca, kv] from fun w' h => kb.below h kb.lt)
  have HX := hide (And.intro hx (And.intro hb1 kb.lt))
  have d1 : w1.cell? ⟨x, 1, none⟩ = some (.slice bA bn bc) := (kb.cell 1).trans rfl
  have d2 : w1.cell? ⟨x, 2, none⟩ = some (.slice A n ca) := (kb.cell 2).trans rfl
  have HA := hide (ha.below hb1)
  clear hw1 hx kb hb1 hcs
  go_loopw [3, 4] (fun s i wr => ∃ k : Nat, k ≤ n ∧ i = .int .i64 k ∧ s = .int .i64 (sumN ((rows.take k).map (·.l.length)) : Nat) ∧ wr = w1 ∧ ((rows.take k).map (·.l.length)).any (fun x => decide (2100 < x)) = false ∧ (0 < k → n ≤ 40) ∧ sumN ((rows.take k).map (·.l.length)) ≤ k * 2100) (fun _ i _ => n - (intOf i).toNat)
  case atStart => exact ⟨0, by omega, rfl, by simp [sumN], rfl, by simp, by omega, by simp [sumN]⟩
  case round =>
    obtain ⟨k, hk, rfl, rfl, rfl, hany, hn40, hsm⟩ := hrel
    obtain ⟨y, hy⟩ : ∃ y, y = sumN ((rows.take k).map (·.l.length)) := ⟨_, rfl⟩
    rw [← hy] at hsm ⊢
    have HY := hide hy
    have HANY := hide hany
    clear hany hy
    by_cases hlt : k < n
    · obtain ⟨g, o, rfl, hg, hrows⟩ := HA.out.2 (by rw [HN.out]; omega)
      have hkl : k < rows.length := by rw [HN.out]; exact hlt
      obtain ⟨q, hq⟩ : ∃ q, q = rows[k] := ⟨_, rfl⟩
      obtain ⟨e1, e2, e3⟩ := hrows k hkl
      rw [← hq] at e1 e2 e3
      have hsn : (rows.take (k + 1)).map (·.l.length) = (rows.take k).map (·.l.length) ++ [q.l.length] := by rw [take_snoc _ _ hkl, List.map_append, hq]; rfl
      have hk0 : (0 : Int) ≤ (k : Int) := by omega
      have hk1 : (k : Int) < (n : Int) := by omega
      have HQ := hide hq
      have HSN := hide hsn
      clear hrows hq hsn e2
      by_cases h40 : 40 < n
      · have t1 : decide ((n : Int) > 40) = true := by simp; omega
        go_wp2
        go_ret
        have hRR : R = true := by rw [HR.out]; simp [greatO, HN.out, h40]
        rw [hRR]
        exact ⟨rfl, HX.out.2.1⟩
      · have t1 : decide ((n : Int) > 40) = false := by simp; omega
        by_cases h21 : 2100 < q.l.length
        · have t2 : decide ((q.l.length : Int) > 2100) = true := by simp; omega
          go_wp2
          go_ret
          have : (rows.map (·.l.length)).any (fun x => decide (2100 < x)) = true := List.any_eq_true.2 ⟨q.l.length, by rw [HQ.out]; exact List.mem_map_of_mem (f := fun r : RowM => r.l.length) (List.getElem_mem hkl), by simpa using h21⟩
          have hRR : R = true := by rw [HR.out]; simp only [greatO, this, Bool.or_true, Bool.true_or]
          rw [hRR]
          exact ⟨rfl, HX.out.2.1⟩
        · have t2 : decide ((q.l.length : Int) > 2100) = false := by simp; omega
          have hyb : y ≤ 84000 := by omega
          go_wp2
          go_roundw
          case rel =>
            refine ⟨k + 1, by omega, by go_num, ?_, by first | trivial | rfl, ?_, by omega, ?_⟩
            · rw [HSN.out, sumN_snoc, ← HY.out]; go_num
            · rw [HSN.out, List.any_append, HANY.out, Bool.false_or]; simpa using h21
            · rw [HSN.out, sumN_snoc, ← HY.out]; have : (k + 1) * 2100 = k * 2100 + 2100 := by omega
              omega
          case measure => simp [intOf] <;> omega
    · obtain rfl : k = n := by omega
      rw [List.take_of_length_le (by rw [HN.out]; omega)] at HY HANY
      have hyb : y ≤ 84000 := by
        by_cases h0 : 0 < k
        · have := hn40 h0; omega
        · omega
      have hRR : R = (decide (2100 < bn) || decide (9000 < y)) := by
        rw [HR.out]; simp only [greatO]
        rw [HANY.out, ← HY.out]
        have h0 : decide (40 < (rows.map (·.l.length)).length) = false := by
          rw [List.length_map, HN.out]
          refine decide_eq_false (fun h => ?_)
          have := hn40 (by omega); omega
        rw [h0]; rfl
      by_cases h1 : 2100 < bn
      · have t1 : decide ((bn : Int) > 2100) = true := by simp; omega
        go_wp2
        go_ret
        have hRt : R = true := by rw [hRR, decide_eq_true h1]; rfl
        rw [hRt]
        exact ⟨rfl, HX.out.2.1⟩
      · have t1 : decide ((bn : Int) > 2100) = false := by simp; omega
        go_wp2
        go_ret
        have hRt : R = decide ((y : Int) > 9000) := by
          rw [hRR, decide_eq_false h1, Bool.false_or]
          congr 1
          simp only [eq_iff_iff]; omega
        rw [hRt]
        exact ⟨rfl, HX.out.2.1⟩
end Go.Proofs.Ytnnhklembdaieaa
namespace Go.Proofs.Ytnnhklembdaieaa
open Go.RowKit
set_option linter.unusedSimpArgs false
set_option linter.unusedVariables false

set_option maxRecDepth 100000 in
theorem clone_ok (w : World) (A : Option Addr) (n cp : Nat) (xs : List UInt8) (hn0 : 1 ≤ n) (hn : n ≤ 9223372036854) (hx : SlAt w A n (bvs xs)) :
    Calls Try.prog 116 #[.slice A n cp] w fun e w' => ∃ v, e = .returned v ∧ w'.ownsRow w.heap.size 5 1 v n (bvs xs) ∧ Below w.heap.size w w' := by
  obtain ⟨i0, hi0, hz0, hs0, hb0⟩ := info_parts info5'
  obtain ⟨gb, ob, rfl, hgb, hrb⟩ := hx.2 (by omega)
  have HBL := hide hx.1
  have HN := hide (fun (o : Obj) (j : Nat) (u : Value) (hu : (bvs xs)[j]? = some u) => show (w.alloc o).cell? ((⟨gb, ob, none⟩ : Addr).add j) = some u by
    rw [Addr.add_mid, World.cell?_alloc_lt _ _ _ hgb]; exact hrb j u hu)
  clear hx hrb
  have hcmp : ∀ w' : World, (binOp .eql 28 (.slice (some ⟨gb, ob, none⟩) n cp) (.slice none 0 0)).run Try.prog w' = .ok (.bool false) w' := fun w' => Go.Lib.run_eql_slice_nil w' 28 5 _ _ _ _ _ Try.underlying28
  go_enter Try.func116, Try.ntmps116
  go_wp2_with (at_builtin; refine wpList_append_grows _ rfl _ _ 28 rfl 5 i0 _ 1 1 Try.underlying28 hi0 hz0 hs0 hb0 rfl (by omega) (some ⟨w.heap.size, 0, none⟩) 0 0 [] ?_ ?_ ?_ ?_ ⟨gb, ob, none⟩ n cp (bvs xs) ?_ ?_ ?_ ?_ ?_ ?_ ?_ ?_)
  · rfl
  · rfl
  · intro b _ j u hj; simp at hj
  · rfl
  · rw [HBL.out, Nat.mul_one]
  · exact HN.out _
  · exact bvs_one xs
  · omega
  · unfold maxLen; omega
  · omega
  · intro v3 w3 hown3 hgrow3
    go_wp2
    go_ret
    exact ⟨v3, rfl, own_base hown3 (by omega), ((Below.refl _ w).alloc (Nat.le_refl _) _).grown hgrow3 (by simp) (fun k hk => by cases hk)⟩
end Go.Proofs.Ytnnhklembdaieaa
