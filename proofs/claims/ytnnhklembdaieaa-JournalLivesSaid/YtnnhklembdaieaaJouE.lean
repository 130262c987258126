/- Open: a journal's disk, opened. A journal that runs: each call's contract over the plain law. The journal's fixed calls (alive of pigeonloftlaw14) come out as they must. The statements' words on journals: the calls that come in, the records so far. -/
import Derived.Test.YtnnhklembdaieaaJouC
import Derived.Test.YtnnhklembdaieaaJouD
import Derived.Test.YtnnhklembdaieaaJouB
namespace Go.Proofs.Ytnnhklembdaieaa
open Go.RowKit
set_option linter.unusedSimpArgs false
set_option linter.unusedVariables false
attribute [local go_sem] Oper.semAt_some

theorem jrecords_ok (w : World) (A : Option Addr) (n cap : Nat) : Calls Try.prog 95 #[.slice A n cap] w fun e w' => e = .returned (.func (.func 115) #[] #[.pointer (some ⟨w.heap.size, 0, none⟩)]) ∧ w' = w.alloc (.cells #[.slice A n cap] 28) := by
  go_enter Try.func95, Try.ntmps95
  go_wp2
  go_ret
  exact ⟨rfl, rfl⟩
/-- texts that a call has made, all beyond B. -/
structure RowsIn (w : World) (B : Nat) (v : Value) (rows : List RowM) : Prop where
  own : w.ownsRow B 28 1 v rows.length (rows.map fun r => .slice r.A r.l.length r.c)
  each : ∀ r ∈ rows, w.ownsRow B 5 1 (.slice r.A r.l.length r.c) r.l.length (bvs r.l)
theorem RowsIn.fr {w w' : World} {S : Nat → Prop} {B : Nat} {v : Value} {rows : List RowM} (h : RowsIn w B v rows) (hf : Fr S w w') (hS : ∀ k, S k → B ≤ k → ∀ t cs, Blk w k t cs → t ≠ 28 ∧ t ≠ 5) : RowsIn w' B v rows :=
  ⟨Fr.own h.own hf (fun k hk hs => by obtain ⟨cs, hc⟩ := own_blk h.own hk; exact (hS k hs (h.own.lt k hk).1 _ _ hc).1 rfl),
   fun r hr => Fr.own (h.each r hr) hf (fun k hk hs => by obtain ⟨cs, hc⟩ := own_blk (h.each r hr) hk; exact (hS k hs ((h.each r hr).lt k hk).1 _ _ hc).2 rfl)⟩
theorem RowsIn.base {w : World} {B B' : Nat} {v : Value} {rows : List RowM} (h : RowsIn w B v rows) (hb : B' ≤ B) : RowsIn w B' v rows := ⟨own_base h.own hb, fun r hr => own_base (h.each r hr) hb⟩
theorem RowsIn.nil (w : World) (B : Nat) : RowsIn w B (.slice none 0 0) [] := ⟨World.ownsRow_nil _ _ _ _, fun r h => by simp at h⟩
theorem own_sl {w : World} {base : Nat} {e : TypeId} {n cap : Nat} {A : Option Addr} {xs : List Value} (h : w.ownsRow base e 1 (.slice A n cap) n xs) : SlAt w A n xs := sl_own h
theorem RowsIn.texts {w : World} {B : Nat} {A : Option Addr} {m cp : Nat} {rows : List RowM} (h : RowsIn w B (.slice A m cp) rows) : rows.length = m ∧ TextsAt w A rows := by
  obtain ⟨A', cp', hv, hle, hmx, hr⟩ := own_shape h.own
  injection hv with h1 h2 h3
  subst h1 h2 h3
  have hmm : maxLen = 9223372036854775807 := by decide
  refine ⟨rfl, by omega, fun h0 => ?_⟩
  obtain ⟨g, rfl, hg1, hg2, hrr⟩ := hr h0
  refine ⟨g, 0, rfl, hg2, fun k hk => ⟨?_, ?_, ?_⟩⟩
  · have := hrr k _ (by rw [List.getElem?_map, List.getElem?_eq_getElem hk]; rfl)
    exact this
  · exact sl_own (h.each _ (List.getElem_mem hk))
  · obtain ⟨A', cp', hv, hle, hmx, hr⟩ := own_shape (h.each _ (List.getElem_mem hk))
    injection hv with h1 h2 h3
    omega

set_option maxRecDepth 100000 in
set_option maxHeartbeats 3200000 in
theorem open_ok {w : World} {base d bl : Nat} {wv : Value} {D : DSt} (hD : DiskAt w base d bl wv D) (hbase : base ≤ w.heap.size) (c : Nat) (hc : c = (D.l.length - 2) / 2) (hc1 : 1 ≤ c) (h4 : D.l.length ≤ 4096) (g a l : Nat) (R : List (List UInt8)) (hF : Found c D g a l R) :
    Calls Try.prog 54 #[.pointer (some ⟨d, 0, none⟩)] w fun e w' => ∃ j v rows, e = .returned (.tuple #[.pointer (some ⟨j, 0, none⟩), v, .int .i64 0]) ∧ w.heap.size ≤ j ∧ JAt w' base j d c (.slice none 0 0) (JSt.new g a l) ∧ rows.map (·.l) = R ∧ RowsIn w' w.heap.size v rows ∧ Below w.heap.size w w' := by
  have HD := hide hD
  have HF := hide hF
  have HC := hide hc
  have H2 := hide (show 2 ≤ D.l.length by omega)
  have H4 := hide h4
  have HBS := hide hbase
  clear hD hF hc h4 hbase
  refine (callsIn_wide (n := 3)).1 (callsIn_of_wp_marks Try.func54 rfl trivial ?_)
  simp only [Try.ntmps54, List.size_toArray, List.length_cons, List.length_nil, Nat.reduceAdd, Nat.reduceSub, Array.replicate_succ, Array.replicate_zero, List.push_toArray, List.append_toArray, List.nil_append, List.cons_append]
  refine (wpIn_wide (n := 3)).2 ?_
  go_wp2_with fail
  obtain ⟨w0, hw0⟩ : ∃ w0, w0 = (((w.alloc (Obj.cells #[Value.pointer none] 86)).alloc (Obj.cells #[Value.slice none 0 0] 85)).alloc (Obj.cells #[Value.int IntKind.i64 0] 24)) := ⟨_, rfl⟩
  obtain ⟨q1, hq1⟩ : ∃ q, q = w.heap.size := ⟨_, rfl⟩
  obtain ⟨q2, hq2⟩ : ∃ q, q = w.heap.size + 1 := ⟨_, rfl⟩
  obtain ⟨q3, hq3⟩ : ∃ q, q = w.heap.size + 1 + 1 := ⟨_, rfl⟩
  have b0 : Below w.heap.size w w0 := by rw [hw0]; exact (((Below.refl _ w).alloc (Nat.le_refl _) _).alloc (by simp) _).alloc (by simp only [World.size_alloc]; omega) _
  have kq1 : Blk w0 q1 86 #[.pointer none] := by rw [hw0, hq1]; exact ((Blk.new w _ _).alloc _).alloc _
  have kq2 : Blk w0 q2 85 #[.slice none 0 0] := by rw [hw0, hq2]; have := ((Blk.new (w.alloc (Obj.cells #[Value.pointer none] 86)) 85 #[.slice none 0 0]).alloc (.cells #[.int .i64 0] 24)); rwa [World.size_alloc] at this
  have kq3 : Blk w0 q3 24 #[.int .i64 0] := by rw [hw0, hq3]; have := (Blk.new ((w.alloc (Obj.cells #[Value.pointer none] 86)).alloc (Obj.cells #[Value.slice none 0 0] 85)) 24 #[.int .i64 0]); rwa [World.size_alloc, World.size_alloc] at this
  rw [← hw0, ← hq3, ← hq2, ← hq1]
  have HQ := hide (And.intro hq1 (And.intro hq2 hq3))
  have HK := hide (And.intro kq1 (And.intro kq2 kq3))
  have HB := hide b0
  clear hw0 hq1 hq2 hq3 b0 kq1 kq2 kq3
  refine (newestE w0 base d bl wv D (HD.out.below HB.out (Nat.le_refl _)) H2.out (.tuple #[.agg #[.int .u64 (g : Int), .int .i64 (a : Int), .int .i64 (l : Int)], .int .i64 0]) (by rw [HF.out.new]; rfl)).mono ?_
  rintro e w1 ⟨rfl, b1⟩
  have HB1 := hide (HB.out.trans (b1.mono HB.out.size))
  have HK1 := hide (And.intro (HK.out.1.below b1 HK.out.1.lt) (And.intro (HK.out.2.1.below b1 HK.out.2.1.lt) (HK.out.2.2.below b1 HK.out.2.2.lt)))
  clear b1 HK HB
  go_upto_region 4 with fail
  obtain ⟨w2, hw2⟩ : ∃ w2, w2 = w1.alloc (Obj.cells #[Value.int IntKind.u64 ↑g, Value.int IntKind.i64 ↑a, Value.int IntKind.i64 ↑l] 115) := ⟨_, rfl⟩
  obtain ⟨q5, hq5⟩ : ∃ q, q = w1.heap.size := ⟨_, rfl⟩
  have b2 : Below w.heap.size w w2 := by rw [hw2]; exact HB1.out.alloc HB1.out.size _
  have kq5 : Blk w2 q5 115 #[Value.int IntKind.u64 ↑g, Value.int IntKind.i64 ↑a, Value.int IntKind.i64 ↑l] := by rw [hw2, hq5]; exact Blk.new w1 _ _
  have HK2 : Hid (Blk w2 q1 86 #[.pointer none] ∧ Blk w2 q2 85 #[.slice none 0 0] ∧ Blk w2 q3 24 #[.int .i64 0]) := by rw [hw2]; exact hide (And.intro (HK1.out.1.alloc _) (And.intro (HK1.out.2.1.alloc _) (HK1.out.2.2.alloc _)))
  rw [← hw2, ← hq5]
  have e0 := kq5.cell 0
  have e1 := kq5.cell 1
  have e2 := kq5.cell 2
  simp at e0 e1 e2
  have HK5 := hide kq5
  have HB2 := hide b2
  clear hw2 hq5 b2 kq5 HK1 HB1
  have HN := hide (jnew_ok (HD.out.below HB2.out (Nat.le_refl _)) H2.out H4.out (Nat.le_trans HBS.out HB2.out.size) g a l)
  rw [← HC.out] at HN
  go_wp2_with fail
  refine HN.out.mono ?_
  rintro e w3 ⟨j, rfl, hj, hJ, b3⟩
  have HB3 := hide (HB2.out.trans (b3.mono HB2.out.size))
  have HK3 := hide (And.intro (HK2.out.1.below b3 HK2.out.1.lt) (And.intro (HK2.out.2.1.below b3 HK2.out.2.1.lt) (HK2.out.2.2.below b3 HK2.out.2.2.lt)))
  have k5 := HK5.out.below b3 HK5.out.lt
  have HK53 := hide k5
  have HJ3 := hide hJ
  have HJ0 := hide (Nat.le_trans HB2.out.size hj)
  clear e0 e1 e2 b3 HK2 HN HB2 HK5 hJ hj
  have hf0 : ∀ i (v : Value), (jcells d c (.slice none 0 0) (JSt.new g a l))[i]? = some v → w3.drew.cell? ⟨j, i, none⟩ = some v := fun i v hv => (HJ3.out.hj.drew.cell i).trans hv
  obtain ⟨v1, hv1⟩ : ∃ v : Int, v = if a = 0 then 2 else ((2 + c : Nat) : Int) := ⟨_, rfl⟩
  have ha1 := HF.out.a1
  have hq1 : w3.drew.cell? ⟨j, 1 + a * 2, none⟩ = some (.int .i64 v1) := by
    rw [hv1]; rcases (show a = 0 ∨ a = 1 by omega) with rfl | rfl
    · exact hf0 1 _ rfl
    · exact hf0 3 _ rfl
  have hq2 : w3.drew.cell? ⟨j, 1 + a * 2 + 1, none⟩ = some (.int .i64 (c : Int)) := by
    rcases (show a = 0 ∨ a = 1 by omega) with rfl | rfl
    · exact hf0 2 _ rfl
    · exact hf0 4 _ rfl
  have e1 : w3.drew.cell? ⟨q5, 1, none⟩ = some (.int .i64 (a : Int)) := (k5.drew.cell 1).trans rfl
  have e2 : w3.drew.cell? ⟨q5, 2, none⟩ = some (.int .i64 (l : Int)) := (k5.drew.cell 2).trans rfl
  have HG := hide (fun w' (hb : Below w3.heap.size w3 w') => getL w' base d bl wv D (HD.out.below (HB3.out.trans (hb.mono HB3.out.size)) (Nat.le_refl _)) (2 + a * c) c 0 l (by omega) (by have := HC.out; have : a * c ≤ 1 * c := Nat.mul_le_mul_right c ha1; omega) (by have := HF.out.ll; omega) hc1 v1 (c : Int) 0 (l : Int) (by rw [hv1]; rcases (show a = 0 ∨ a = 1 by omega) with rfl | rfl <;> simp) rfl rfl rfl)
  have ha2 : (a : Int) < 2 := by omega
  clear hf0 hv1 k5
  go_wp2_with fail
  refine wp_region_held 16 (fun w' => w'.cell? ⟨q5, 1, none⟩ = some (.int .i64 (a : Int)) ∧ w'.cell? ⟨q5, 2, none⟩ = some (.int .i64 (l : Int)) ∧ w'.cell? ⟨j, 1 + a * 2, none⟩ = some (.int .i64 v1) ∧ w'.cell? ⟨j, 1 + a * 2 + 1, none⟩ = some (.int .i64 (c : Int))) (fun i => i == 10) (by kernel_rfl) (by kernel_rfl) ⟨e1, e2, hq1, hq2⟩ (fun ops hops F hF => ?_)
  clear hops
  simp only [List.take_succ_cons, List.take_zero, List.drop_succ_cons, List.drop_zero] at hF ⊢
  iterate 10 (refine held_q rfl rfl ?_; apply Exists.intro; refine ⟨fun w' hw' => ?_, ?_⟩; (obtain ⟨x0, x1, x2, x3⟩ := hw'; go_simp; rfl); simp only [Act.put, List.setIfInBounds_toArray, List.set_cons_zero, List.set_cons_succ, Nat.reduceAdd])
  refine held_loud rfl rfl (fun K hK => ?_)
  go_simp
  refine (HG.out w3.drew (Below.drew (Below.refl _ _))).mono ?_
  rintro e w4 ⟨A, cap, rfl, hown, hcap, hcm, b4⟩
  have b4' : Below w3.heap.size w3 w4 := (Below.drew (Below.refl _ _)).trans b4
  refine hK _ _ ⟨(b4.cell (p := ⟨q5, 1, none⟩) HK53.out.lt).trans e1, (b4.cell (p := ⟨q5, 2, none⟩) HK53.out.lt).trans e2, (b4.cell (p := ⟨j, 1 + a * 2, none⟩) HJ3.out.hj.lt).trans hq1, (b4.cell (p := ⟨j, 1 + a * 2 + 1, none⟩) HJ3.out.hj.lt).trans hq2⟩ ?_
  clear hK K
  simp only [Act.put, List.setIfInBounds_toArray, List.set_cons_zero, List.set_cons_succ, Nat.reduceAdd]
  iterate 5 (refine held_q rfl rfl ?_; apply Exists.intro; refine ⟨fun w' hw' => ?_, ?_⟩; (obtain ⟨x0, x1, x2, x3⟩ := hw'; go_simp; rfl); simp only [Act.put, List.setIfInBounds_toArray, List.set_cons_zero, List.set_cons_succ, Nat.reduceAdd])
  refine held_nil (hF _ _ ?_)
  have HB4 := hide (HB3.out.trans (b4'.mono HB3.out.size))
  have HK4 := hide (And.intro (HK3.out.1.below b4' HK3.out.1.lt) (And.intro (HK3.out.2.1.below b4' HK3.out.2.1.lt) (HK3.out.2.2.below b4' HK3.out.2.2.lt)))
  have HJ4 := hide (HJ3.out.below b4' (Nat.le_refl _))
  have HO4 := hide (own_base hown HB3.out.size)
  have HC4 := hide (And.intro hcap hcm)
  clear hF F e1 e2 hq1 hq2 b4 b4' hown HK3 HJ3 HB3 HK53 HG
  go_wp2_with fail
  obtain ⟨w5, hw5⟩ : ∃ w5, w5 = w4.alloc (Obj.cells #[Value.slice none 0 0] 85) := ⟨_, rfl⟩
  obtain ⟨bx, hbx⟩ : ∃ q, q = w4.heap.size := ⟨_, rfl⟩
  have b5 : Below w4.heap.size w4 w5 := by rw [hw5]; exact (Below.refl _ _).alloc (Nat.le_refl _) _
  have kx : Blk w5 bx 85 #[.slice none 0 0] := by rw [hw5, hbx]; exact Blk.new w4 _ _
  rw [← hw5, ← hbx]
  have HBX := hide (And.intro hbx (And.intro kx b5))
  have hq2x : q2 ≠ bx := by have := HK4.out.2.1.lt; omega
  have hbxw : w.heap.size ≤ bx := by rw [hbx]; exact HB4.out.size
  clear hw5 hbx kx b5
  refine (jrecords_ok w5 A l cap).mono ?_
  rintro e w6 ⟨rfl, hw6⟩
  obtain ⟨bb, hbb⟩ : ∃ q, q = w5.heap.size := ⟨_, rfl⟩
  rw [← hbb]
  have kb : Blk w6 bb 28 #[.slice A l cap] := by rw [hw6, hbb]; exact Blk.new w5 _ _
  have b6 : Below w5.heap.size w5 w6 := by rw [hw6]; exact (Below.refl _ _).alloc (Nat.le_refl _) _
  have b46 := HBX.out.2.2.trans (b6.mono HBX.out.2.2.size)
  have HB6 := hide (HB4.out.trans (b46.mono HB4.out.size))
  have HK6 := hide (And.intro (HK4.out.1.below b46 HK4.out.1.lt) (And.intro (HK4.out.2.1.below b46 HK4.out.2.1.lt) (HK4.out.2.2.below b46 HK4.out.2.2.lt)))
  have HJ6 := hide (HJ4.out.below b46 (Nat.le_refl _))
  have HO6 := hide (Fr.own HO4.out (Fr.none_ (S := nob) b46) (fun _ _ h => h))
  have HX6 := hide (HBX.out.2.1.below b6 HBX.out.2.1.lt)
  have HBB := hide kb
  have hbbw : w.heap.size ≤ bb := by rw [hbb]; exact Nat.le_trans HB4.out.size HBX.out.2.2.size
  have hbx6 : bx ≠ bb := by rw [hbb, HBX.out.1]; have := HBX.out.2.1.lt; rw [HBX.out.1] at this; omega
  clear HK4 HJ4 HO4 HB4 b46 b6 kb hw6 hbb
  go_wp2_with fail
  have hseg : D.seg ((2 + a * c) * 128 + 0) l = encL R := HF.out.seg
  have ho6 := HO6.out
  rw [hseg] at ho6
  have hRl : R.length ≤ 524288 := by
    have h1 : ∀ X : List (List UInt8), X.length ≤ (encL X).length := fun X => by
      induction X with
      | nil => simp [encL]
      | cons x t ih => simp only [encL, List.flatMap_cons, List.length_append, frameL_length, List.length_cons] at ih ⊢; omega
    have h2 := h1 R
    have h3 : (encL R).length = l := by rw [← HF.out.seg, seg_length]
    have := HF.out.ll
    have := HC.out
    have := H4.out
    omega
  obtain ⟨tb, ht1, ht2, ht3, ht4⟩ : ∃ tb, tb < w6.heap.size ∧ tb ≠ bb ∧ tb ≠ bx ∧ ∀ x, A = some x → 0 < l → x.block = tb := by
    by_cases h0 : 0 < l
    · obtain ⟨A', cp', hv, -, -, hA⟩ := own_shape ho6
      injection hv with hv1 hv2 hv3
      subst hv1
      obtain ⟨gg, rfl, hg1, hg2, -⟩ := hA h0
      obtain ⟨cs, hcs⟩ := own_blk ho6 (k := gg) rfl
      exact ⟨gg, hg2, Blk.ne_ hcs HBB.out (by decide), Blk.ne_ hcs HX6.out (by decide), fun x hx _ => by injection hx with hx; rw [← hx]⟩
    · exact ⟨q1, HK6.out.1.lt, Blk.ne_ HK6.out.1 HBB.out (by decide), Blk.ne_ HK6.out.1 HX6.out (by decide), fun x _ hl => absurd hl h0⟩
  obtain ⟨i0, z0, hi0, hz0, hzl, hs0, hb0⟩ := infoN (show (Try.prog.info? 28).map (fun i => (i.size, i.bytes, i.zero.map (·.cells.toList))) = some (1, 24, some [.slice none 0 0]) by kernel_rfl)
  have hzs : z0.cells.size = 1 := by rw [← Array.length_toList, hzl]; rfl
  have hrecs := recsOf_enc R HF.out.rec_
  refine (wpIn_wide (n := 3)).1 (wpIn_records (bb := bb) (tb := tb) rfl rfl A l cap (encL R) HBB.out (sl_own ho6) HC4.out.1 HC4.out.2 ht4 ht1 ht2 (by rw [hrecs])
    (fun pre W => Fr (fun k => k = bb ∨ k = bx) w6 W ∧ ∃ (v : Value) (rows : List RowM), Blk W bx 85 #[v] ∧ RowsIn W w6.heap.size v rows ∧ rows.map (·.l) = pre) ?_ ⟨Fr.refl _ _, _, [], HX6.out, RowsIn.nil _ _, rfl⟩
    (fun v => { tmps := #[Value.pointer (some { block := d, off := 0 }), undef, Value.pointer (some { block := q1, off := 0 }), Value.pointer (some { block := q2, off := 0 }), Value.pointer (some { block := q3, off := 0 }), Value.pointer (some { block := q5, off := 0 }), Value.int IntKind.i64 0, Value.pointer (some { block := j, off := 0 }), Value.slice A l cap, Value.pointer (some { block := bx, off := 0 }), v, Value.bool true, Value.tuple #[Value.agg #[Value.int IntKind.u64 ↑g, Value.int IntKind.i64 ↑a, Value.int IntKind.i64 ↑l], Value.int IntKind.i64 0], Value.pointer (some { block := d, off := 0 }), Value.tuple #[Value.agg #[Value.int IntKind.u64 ↑g, Value.int IntKind.i64 ↑a, Value.int IntKind.i64 ↑l], Value.int IntKind.i64 0], Value.agg #[Value.int IntKind.u64 ↑g, Value.int IntKind.i64 ↑a, Value.int IntKind.i64 ↑l], Value.int IntKind.i64 0, Value.int IntKind.i64 0, Value.bool false, undef, Value.pointer (some { block := d, off := 0 }), Value.agg #[Value.int IntKind.u64 ↑g, Value.int IntKind.i64 ↑a, Value.int IntKind.i64 ↑l], Value.pointer (some { block := j, off := 0 }), Value.tuple #[Value.slice A l cap, Value.int IntKind.i64 0], Value.pointer (some { block := d, off := 0 }), Value.pointer (some { block := j, off := 0 }), Value.pointer (some { block := q5, off := 1 }), Value.int IntKind.i64 ↑a, Value.pointer (some { block := j, off := 0 }), Value.pointer (some { block := j, off := 1 }), Value.pointer (some { block := j, off := 1 + a * 2 }), Value.agg #[Value.int IntKind.i64 v1, Value.int IntKind.i64 ↑c], Value.pointer (some { block := q5, off := 2 }), Value.int IntKind.i64 ↑l, Value.tuple #[Value.slice A l cap, Value.int IntKind.i64 0], Value.slice A l cap, Value.int IntKind.i64 0, Value.int IntKind.i64 0, Value.bool false, Value.slice A l cap, Value.func (Fn.func 115) #[] #[Value.pointer (some { block := bb, off := 0 })], v, Value.bool true, undef, undef, undef, undef, undef, undef, undef, undef], defers := [] }) ?assign ?body ?done)
  · rintro s W W' k ⟨hf, v, rows, kx, hr, hm⟩ hg hk
    have hbl := HBB.out.lt
    have hbxl := HX6.out.lt
    have hkf : ∀ {e : TypeId} {B : Nat} {u : Value} {n : Nat} {xs : List Value}, W.ownsRow w6.heap.size e 1 u n xs → ∀ q, u.ownBlock = some q → q ≠ k := fun {e B u n xs} ho q hq hqk => by
      subst hqk
      have hl := (ho.lt q hq).1
      rcases hk with hk | ⟨_, o, ho1, ho2⟩
      · omega
      · obtain ⟨cs, hcs⟩ := own_blk ho hq
        unfold Blk at hcs
        rw [ho1] at hcs
        cases hcs
        cases ho2
    have f1 : Fr (fun q => q = k) W W' := (Fr.refl _ W).grown hg (fun q hq => .inl (by injection hq with hq; exact hq.symm))
    refine ⟨hf.trans f1 (fun q hq => ?_), v, rows, kx.fr f1 (fun e => ?_), ⟨Fr.own hr.own f1 (fun q hq e => hkf (B := 0) hr.own q hq e), fun r hrr => Fr.own (hr.each r hrr) f1 (fun q hq e => hkf (B := 0) (hr.each r hrr) q hq e)⟩, hm⟩
    · subst hq
      rcases hk with hk | ⟨hk, _⟩
      · exact .inl (.inl hk)
      · exact .inr hk
    · rcases hk with hk | ⟨hk, _⟩
      · exact hbx6 (e.trans hk)
      · omega
  case assign =>
    intro L v W K hK
    gi_wp2
    exact hK
  case body =>
    rintro L pre r v W ⟨hf, ov, rows, kx, hr, hm⟩ hpl hown hrr
    have hx0 := kx.cell 0
    have hz := kx.frozen 0
    simp at hx0
    have hrl : rows.length ≤ 524288 := by
      rw [hrecs] at hpl
      have : pre.length < R.length := hpl
      rw [← hm, List.length_map] at this
      omega
    obtain ⟨A3, cp3, rfl, hcp3, hcp4, -⟩ := own_shape hown
    have hov := own_ne hr.own kx (by decide)
    have HOV := hide hov
    have HKX := hide kx
    have HRO := hide hr
    have HOW := hide hown
    have hn1 : ∀ j u, [Value.slice A3 r.length cp3][j]? = some u → (W.alloc (.cells #[.slice A3 r.length cp3] 28)).cell? ((⟨W.heap.size, 0, none⟩ : Addr).add j) = some u := by
      have h := (Blk.new W 28 #[.slice A3 r.length cp3]).cell 0
      intro j u hj
      have hj1 : j < 1 := (List.getElem?_eq_some_iff.1 hj).1
      obtain rfl : j = 0 := by omega
      rw [Addr.add_mid]
      exact h.trans hj
    have hcom : w6.heap.size ≤ W.heap.size := hf.size
    have HFF := hide hf
    have HM := hide hm
    clear kx hr hov hf hm hown
    gi_wp2_with (gi_at_builtin; refine wpListIn_append_own _ rfl _ _ 85 rfl w6.heap.size 28 i0 _ 1 24 Try.underlying85 hi0 hz0 hs0 hb0 hzs (by omega) ov rows.length (rows.map fun r => .slice r.A r.l.length r.c) rfl (HRO.out.own.alloc _) ⟨W.heap.size, 0, none⟩ 1 1 [.slice A3 r.length cp3] rfl rfl hn1 (by simp [Value.oneCell']) (by unfold maxLen; omega) (by omega) (by simp; omega) ?_; intro v5 w5' hown5 hgrow5 _; obtain ⟨A5, cp5, rfl, hcp5, hcp6, -⟩ := own_shape hown5; have kx5 := HKX.out.app HRO.out.own (by decide) hgrow5; have hx5 := kx5.cell 0; have hz5 := kx5.frozen 0; simp at hx5; have HKX5 := hide kx5; have HG5 := hide hgrow5; have HO5 := hide hown5; clear kx5 hgrow5 hown5)
    have hla : w6.heap.size ≤ W.heap.size := hcom
    have f1 : Fr (fun k => k = bx ∨ ov.ownBlock = some k) W (w5'.setCell { block := bx, off := 0 } (Value.slice A5 (rows.length + 1) cp5)) :=
      (((Fr.refl _ W).alloc _).grown HG5.out (fun k hk => .inl (.inr hk))).setCell (p := ⟨bx, 0, none⟩) (.inl (.inl rfl)) _
    have hlow : ∀ k, k < w6.heap.size → k ≠ bx → ¬ (k = bx ∨ ov.ownBlock = some k) := fun k hk hne h => by
      rcases h with h | h
      · exact hne h
      · have := (HRO.out.own.lt k h).1; omega
    have hty : ∀ {t : TypeId} {cs : Array Value} k, Blk W k t cs → t ≠ 85 → t ≠ 28 → ¬ (k = bx ∨ ov.ownBlock = some k) := fun k hk h1 h2 h => by
      rcases h with h | h
      · subst h; exact Blk.ne_ hk HKX.out h1 rfl
      · exact own_ne HRO.out.own hk (Ne.symm h2) h
    refine ⟨?_, ⟨HFF.out.trans f1 (fun k hk => ?_), _, rows ++ [⟨A3, cp3, r⟩], HKX5.out.set_ 0 _, ⟨?_, ?_⟩, ?_⟩, ?_, ?_⟩
    · refine ((KeepsOthers.alloc W _).trans (KeepsOthers.of_grownBy HG5.out (fun k o hk ho => ?_))).trans (KeepsOthers.setCell _ _ _)
      obtain ⟨cs, hcs⟩ := own_blk (HRO.out.own.alloc (.cells #[.slice A3 r.length cp3] 28)) hk
      unfold Blk at hcs
      rw [ho] at hcs
      cases hcs
      rfl
    · rcases hk with rfl | hk
      · exact .inl (.inr rfl)
      · exact .inr (HRO.out.own.lt k hk).1
    · have h := Fr.own HO5.out ((Fr.refl (fun k => k = bx) w5').setCell (p := ⟨bx, 0, none⟩) (.inl rfl) (Value.slice A5 (rows.length + 1) cp5)) (fun k hk e => own_ne HO5.out HKX5.out (by decide) (by rw [hk, e]))
      rw [List.length_append, List.map_append]
      exact h
    · intro x hx
      rcases List.mem_append.1 hx with hx | hx
      · refine Fr.own (HRO.out.each x hx) f1 (fun k hk => ?_)
        obtain ⟨cs, hcs⟩ := own_blk (HRO.out.each x hx) hk
        exact hty k hcs (by decide) (by decide)
      · rw [List.mem_singleton.1 hx]
        refine Fr.own HOW.out f1 (fun k hk => ?_)
        obtain ⟨cs, hcs⟩ := own_blk HOW.out hk
        exact hty k hcs (by decide) (by decide)
    · rw [List.map_append, HM.out]; rfl
    · exact f1.block bb (by have := HBB.out.lt; omega) (hlow bb HBB.out.lt (Ne.symm hbx6))
    · exact f1.block tb (by omega) (hlow tb ht1 ht3)
  case done =>
    rintro D7 W hD7 ⟨hf, v, rows, kx, hr, hm⟩ hK
    rw [hrecs] at hm
    obtain ⟨A5, cp5, rfl, hcp5, hcp6, -⟩ := own_shape hr.own
    have nb1 : q1 ≠ bb ∧ q1 ≠ bx ∧ q2 ≠ bb ∧ q2 ≠ bx ∧ q3 ≠ bb ∧ q3 ≠ bx := ⟨Blk.ne_ HK6.out.1 HBB.out (by decide), Blk.ne_ HK6.out.1 HX6.out (by decide), Blk.ne_ HK6.out.2.1 HBB.out (by decide), hq2x, Blk.ne_ HK6.out.2.2 HBB.out (by decide), Blk.ne_ HK6.out.2.2 HX6.out (by decide)⟩
    have kq1 : Blk W q1 86 #[.pointer none] := HK6.out.1.fr hf (fun h => h.elim nb1.1 nb1.2.1)
    have kq2 : Blk W q2 85 #[.slice none 0 0] := HK6.out.2.1.fr hf (fun h => h.elim nb1.2.2.1 nb1.2.2.2.1)
    have kq3 : Blk W q3 24 #[.int .i64 0] := HK6.out.2.2.fr hf (fun h => h.elim nb1.2.2.2.2.1 nb1.2.2.2.2.2)
    have y1 : W.cell? ⟨q1, 0, none⟩ = some (.pointer none) := (kq1.cell 0).trans rfl
    have y2 : W.cell? ⟨q2, 0, none⟩ = some (.slice none 0 0) := (kq2.cell 0).trans rfl
    have y3 : W.cell? ⟨q3, 0, none⟩ = some (.int .i64 0) := (kq3.cell 0).trans rfl
    have z1 := kq1.frozen 0
    have z2 := kq2.frozen 0
    have z3 := kq3.frozen 0
    have yx : W.drew.cell? ⟨bx, 0, none⟩ = some (.slice A5 rows.length cp5) := (kx.drew.cell 0).trans rfl
    have HKQ := hide (And.intro kq1 (And.intro kq2 kq3))
    have HR7 := hide hr
    have HF7 := hide hf
    have HM7 := hide hm
    have HK7 := hide hK
    have HD7 := hide hD7
    clear kq1 kq2 kq3 hr hf hm hK kx hD7
    dsimp only
    go_wp2_with fail
    have hq1x := nb1.2.1
    have hq12 : q1 ≠ q2 := Blk.ne_ HKQ.out.1 HKQ.out.2.1 (by decide)
    have hq13 : q1 ≠ q3 := Blk.ne_ HKQ.out.1 HKQ.out.2.2 (by decide)
    have hq23 : q2 ≠ q3 := Blk.ne_ HKQ.out.2.1 HKQ.out.2.2 (by decide)
    clear nb1
    refine wp_region_held 3 (fun w' => w'.cell? ⟨bx, 0, none⟩ = some (.slice A5 rows.length cp5)) (fun i => i == 2) (by kernel_rfl) (by kernel_rfl) yx (fun ops hops F hF => ?_)
    clear hops
    simp only [List.take_succ_cons, List.take_zero, List.drop_succ_cons, List.drop_zero] at hF ⊢
    iterate 2 (refine held_q rfl rfl ?_; apply Exists.intro; refine ⟨fun w' hw' => ?_, ?_⟩; (go_simp; rfl); simp only [Act.put, List.setIfInBounds_toArray, List.set_cons_zero, List.set_cons_succ, Nat.reduceAdd])
    refine held_loud rfl rfl (fun K hK => ?_)
    go_simp
    refine hK _ _ ?_ ?_
    · rw [World.cell?_of_block (w := W.drew) (Below.heap_setCell W ⟨q1, 0, none⟩ _ bx (Ne.symm hq1x))]
      exact yx
    clear hK K
    simp only [Act.put, List.setIfInBounds_toArray, List.set_cons_zero, List.set_cons_succ, Nat.reduceAdd]
    refine held_nil (hF _ _ ?_)
    clear hF F
    go_wp2
    obtain ⟨w7, hw7⟩ : ∃ w7, w7 = (((W.setCell { block := q1, off := 0 } (Value.pointer (some { block := j, off := 0 }))).setCell { block := q2, off := 0 } (Value.slice A5 rows.length cp5)).setCell { block := q3, off := 0 } (Value.int IntKind.i64 0)).drew := ⟨_, rfl⟩
    rw [← hw7]
    have f7 : Fr (fun k => k = q1 ∨ k = q2 ∨ k = q3) W w7 := by
      rw [hw7]
      exact ((((Fr.refl _ W).setCell (p := ⟨q1, 0, none⟩) (.inl (.inl rfl)) _).setCell (p := ⟨q2, 0, none⟩) (.inl (.inr (.inl rfl))) _).setCell (p := ⟨q3, 0, none⟩) (.inl (.inr (.inr rfl))) _).drew
    have kk1 : Blk w7 q1 86 #[.pointer (some ⟨j, 0, none⟩)] := by
      rw [hw7]; exact (((HKQ.out.1.set_ 0 _).far (p := ⟨q2, 0, none⟩) hq12 _).far (p := ⟨q3, 0, none⟩) hq13 _).drew
    have kk2 : Blk w7 q2 85 #[.slice A5 rows.length cp5] := by
      rw [hw7]; exact (((HKQ.out.2.1.far (p := ⟨q1, 0, none⟩) (Ne.symm hq12) _).set_ 0 _).far (p := ⟨q3, 0, none⟩) hq23 _).drew
    have kk3 : Blk w7 q3 24 #[.int .i64 0] := by
      rw [hw7]; exact (((HKQ.out.2.2.far (p := ⟨q1, 0, none⟩) (Ne.symm hq13) _).far (p := ⟨q2, 0, none⟩) (Ne.symm hq23) _).set_ 0 _).drew
    clear hw7
    have hl1 := HK6.out.1.lt
    have hl2 := HK6.out.2.1.lt
    have hl3 := HK6.out.2.2.lt
    have hD7 := HD7.out
    have hDW : D7 < W.heap.size := (Array.getElem?_eq_some_iff.1 HK7.out).1
    have hK7' : w7.heap[D7]? = some (.deferred (some [])) := (f7.block D7 hDW (by rintro (h | h | h) <;> omega)).trans HK7.out
    have f8 : Fr (fun k => k = D7) w7 (w7.putObj D7 (.deferred none)) := (Fr.refl _ w7).grown (grownBy_putObj' w7 D7 _) (fun k hk => .inl (by injection hk with hk; exact hk.symm))
    have e0 : (w7.putObj D7 (.deferred none)).cell? ⟨q1, 0, none⟩ = some (.pointer (some ⟨j, 0, none⟩)) := ((kk1.fr f8 (by omega)).cell 0).trans rfl
    have e1 : (w7.putObj D7 (.deferred none)).cell? ⟨q2, 0, none⟩ = some (.slice A5 rows.length cp5) := ((kk2.fr f8 (by omega)).cell 0).trans rfl
    have e2 : (w7.putObj D7 (.deferred none)).cell? ⟨q3, 0, none⟩ = some (.int .i64 0) := ((kk3.fr f8 (by omega)).cell 0).trans rfl
    refine ⟨by simp, .inl ⟨_, _, rfl, run_takeDeferred hK7', ?_⟩⟩
    obtain ⟨w8, hw8⟩ : ∃ w8, w8 = w7.putObj D7 (.deferred none) := ⟨_, rfl⟩
    rw [← hw8] at f8 e0 e1 e2 ⊢
    clear hw8 kk1 kk2 kk3
    refine ⟨.tuple #[.pointer (some ⟨j, 0, none⟩), .slice A5 rows.length cp5, .int .i64 0], by simp [results, Try.results54, go_sem, e0, e1, e2], j, _, rows, rfl, HJ0.out, ?_, HM7.out, ?_, ?_⟩
    · have hj6 := HJ6.out.hj
      have h1 := HJ6.out.fr HF7.out (fun k hk hs => by
        rcases hk with rfl | hk
        · rcases hs with hs | hs
          · exact Blk.ne_ hj6 HBB.out (by decide) hs
          · exact Blk.ne_ hj6 HX6.out (by decide) hs
        · cases hk)
      have h2 := h1.fr f7 (fun k hk hs => by
        rcases hk with rfl | hk
        · rcases hs with hs | hs | hs
          · exact Blk.ne_ hj6 HK6.out.1 (by decide) hs
          · exact Blk.ne_ hj6 HK6.out.2.1 (by decide) hs
          · exact Blk.ne_ hj6 HK6.out.2.2 (by decide) hs
        · cases hk)
      exact h2.fr f8 (fun k hk hs => by
        rcases hk with rfl | hk
        · have := hj6.lt; omega
        · cases hk)
    · have h1 := HR7.out.fr f7 (fun k hk hB => by omega)
      have h2 := h1.fr f8 (fun k hk _ t cs hc => by subst hk; unfold Blk at hc; rw [hK7'] at hc; cases hc)
      exact h2.base HB6.out.size
    · have h1 := HF7.out.below (B := w.heap.size) HB6.out.size (fun k hk => by rcases hk with rfl | rfl <;> assumption)
      have h2 := f7.below (B := w.heap.size) (by have := HF7.out.size; have := HB6.out.size; omega) (fun k hk => by have := HQ.out; omega)
      have h3 := f8.below (B := w.heap.size) (by have := f7.size; have := HF7.out.size; have := HB6.out.size; omega) (fun k hk => by have := HB6.out.size; omega)
      exact HB6.out.trans (h1.trans (h2.trans h3))
end Go.Proofs.Ytnnhklembdaieaa
namespace Go.Proofs.Ytnnhklembdaieaa
open Go.RowKit
set_option linter.unusedSimpArgs false
set_option linter.unusedVariables false

structure JRun (w0 w : World) (d bl j c k : Nat) (wv nv : Value) (D : DSt) (J : JSt) (Rs Rp Rn A : List (List UInt8)) : Prop where
  dj : DJ w w0.heap.size d bl j c wv nv D J
  ja : JAll c k D J Rs Rp Rn A
  low : Below w0.heap.size w0 w
  hc : c = (D.l.length - 2) / 2

section
variable {w0 w w' : World} {d bl j c k : Nat} {wv nv : Value} {D : DSt} {J : JSt} {Rs Rp Rn A : List (List UInt8)}
theorem JRun.below (h : JRun w0 w d bl j c k wv nv D J Rs Rp Rn A) (hb : Below w.heap.size w w') : JRun w0 w' d bl j c k wv nv D J Rs Rp Rn A :=
  ⟨h.dj.below hb, h.ja, h.low.trans (hb.mono h.low.size), h.hc⟩
theorem JRun.more {k' : Nat} (h : JRun w0 w d bl j c k wv nv D J Rs Rp Rn A) (hk : k ≤ k') (hk' : k' ≤ 1000) : JRun w0 w d bl j c k' wv nv D J Rs Rp Rn A :=
  ⟨h.dj, ⟨h.ja.inv, h.ja.cont, h.ja.bud.more hk, hk'⟩, h.low, h.hc⟩
theorem DJ.above (h : DJ w w0.heap.size d bl j c wv nv D J) : ∀ k, djfoot d bl j wv nv k → w0.heap.size ≤ k := by
  rintro k (hk | hk)
  · exact (h.hD.low k hk).1
  · exact (h.hJ.low k hk).1
theorem JRun.low_fr (h : JRun w0 w d bl j c k wv nv D J Rs Rp Rn A) (hf : Fr (djfoot d bl j wv nv) w w') : Below w0.heap.size w0 w' :=
  h.low.trans (hf.below h.low.size h.dj.above)
theorem JAll.cnt (h : JAll c k D J Rs Rp Rn A) (hk : k ≤ 800) : D.waits.length ≤ 500000000 ∧ D.writes ≤ 500000000000 ∧ D.syncs ≤ 500000000000 := by
  have := h.bud.w; have := h.bud.r; have := h.bud.s
  omega
theorem JRun.left (h : JRun w0 w d bl j c k wv nv D J Rs Rp Rn A) {D' : DSt} {J' : JSt} {Rs' Rp' Rn' A' : List (List UInt8)} {k' : Nat} (hl : Left w w' w0.heap.size d bl j c wv nv D' J') (ha : JAll c k' D' J' Rs' Rp' Rn' A') (hk : k' ≤ 800) (hdl : D'.l.length = D.l.length) :
    ∃ wv' nv', JRun w0 w' d bl j c k' wv' nv' D' J' Rs' Rp' Rn' A' := by
  obtain ⟨wv', nv', hD, hJ, hf, -, -⟩ := hl
  exact ⟨wv', nv', DJ.ofLeft h.dj hD hJ ha.inv.jk hdl (ha.cnt hk), ha, h.low_fr hf, by rw [hdl]; exact h.hc⟩

/-- a Step that has nothing to do. -/
theorem run_step_none (h : JRun w0 w d bl j c k wv nv D J Rs Rp Rn A) (hm : J.stage = 0 ∧ J.next.length = 0) :
    Calls Try.prog 49 #[.pointer (some ⟨j, 0, none⟩)] w fun e w' => e = .returned (.tuple #[.int .i64 0, .int .i64 4]) ∧ w' = w := jstep_none h.dj hm.1 hm.2
/-- what a Step leaves. -/
def Stepped (w0 w' : World) (d bl j c k : Nat) (D : DSt) (J : JSt) (Rs A : List (List UInt8)) : Prop :=
  ∃ wv' nv' D' J' Rs' Rp' Rn', JRun w0 w' d bl j c (k + 1) wv' nv' D' J' Rs' Rp' Rn' A ∧ D'.l.length = D.l.length ∧ meas J' + 1 = meas J ∧ (JPre J Rs A → JPre J' Rs' A) ∧ (JStrict J → JStrict J') ∧ J'.all = J.all ∧ (J.stage = 0 → J'.stage = 1) ∧ (J.stage ≠ 3 → Rs' = Rs)
theorem run_step_some (h : JRun w0 w d bl j c k wv nv D J Rs Rp Rn A) (hk : k < 800) (hm : ¬ (J.stage = 0 ∧ J.next.length = 0)) :
    Calls Try.prog 49 #[.pointer (some ⟨j, 0, none⟩)] w fun e w' => (∃ st, e = .returned (.tuple #[.int .i64 st, .int .i64 0])) ∧ Stepped w0 w' d bl j c k D J Rs A ∧ Fr (djfoot d bl j wv nv) w w' := by
  obtain ⟨s1, s2, s3, Rs', Rp', Rn', sa, s4, s5, s6, s7, s8⟩ := h.ja.step (by omega) hm
  have key : ∀ w' (D' : DSt) (J' : JSt) (r : Nat), jstep c D J = (D', J', r) → Left w w' w0.heap.size d bl j c wv nv D' J' → Stepped w0 w' d bl j c k D J Rs A ∧ Fr (djfoot d bl j wv nv) w w' := fun w' D' J' r he hl => by
    rw [he] at s2 s3 sa s4 s5 s6 s7
    obtain ⟨wv', nv', hr⟩ := h.left hl sa (by omega) s3
    exact ⟨⟨wv', nv', D', J', Rs', Rp', Rn', hr, s3, s2, s4, s5, s6, s7, s8⟩, hl.choose_spec.choose_spec.2.2.1⟩
  have hst := h.ja.inv.jk.st
  by_cases h0 : J.stage = 0
  · have hn : J.next.length ≠ 0 := fun e => hm ⟨h0, e⟩
    exact (jstep_begin h.dj h0 hn).mono fun e w' ⟨he, hl⟩ => ⟨⟨_, he⟩, key w' _ _ 0 (by unfold jstep; rw [if_pos h0, if_neg hn]) hl⟩
  · by_cases h1 : J.stage = 1
    · exact (jstep_sync h.dj h1).mono fun e w' ⟨he, hl⟩ => ⟨⟨_, he⟩, key w' _ _ 0 (by unfold jstep; rw [if_neg h0, if_pos h1]) hl⟩
    · by_cases h2 : J.stage = 2
      · exact (jstep_said h.dj h2).mono fun e w' ⟨he, hl⟩ => ⟨⟨_, he⟩, key w' _ _ 0 (by unfold jstep; rw [if_neg h0, if_neg h1, if_pos h2]) hl⟩
      · exact (jstep_sure h.dj (by omega)).mono fun e w' ⟨he, hl⟩ => ⟨⟨_, he⟩, key w' _ _ 0 (by unfold jstep; rw [if_neg h0, if_neg h1, if_neg h2]) hl⟩
/-- a Step, whatever it does. -/
theorem run_step (h : JRun w0 w d bl j c k wv nv D J Rs Rp Rn A) (hk : k < 800) :
    Calls Try.prog 49 #[.pointer (some ⟨j, 0, none⟩)] w fun e w' => ∃ st er, e = .returned (.tuple #[.int .i64 st, .int .i64 er]) ∧ ∃ wv' nv' D' J' Rs' Rp' Rn', JRun w0 w' d bl j c (k + 1) wv' nv' D' J' Rs' Rp' Rn' A ∧ D'.l.length = D.l.length ∧ (JPre J Rs A → JPre J' Rs' A) ∧ (JStrict J → JStrict J') ∧ J'.stage ≤ 3 ∧ Fr (djfoot d bl j wv nv) w w' := by
  by_cases hm : J.stage = 0 ∧ J.next.length = 0
  · refine (run_step_none h hm).mono ?_
    rintro e w' ⟨rfl, rfl⟩
    exact ⟨_, _, rfl, wv, nv, D, J, Rs, Rp, Rn, h.more (by omega) (by omega), rfl, fun x => x, fun x => x, h.ja.inv.jk.st, Fr.refl _ _⟩
  · refine (run_step_some h hk hm).mono ?_
    rintro e w' ⟨⟨st, rfl⟩, ⟨wv', nv', D', J', Rs', Rp', Rn', h1, h2, h3, h4, h5, h6, h7, h8⟩, hf⟩
    exact ⟨_, _, rfl, wv', nv', D', J', Rs', Rp', Rn', h1, h2, h4, h5, h1.ja.inv.jk.st, hf⟩
/-- an Append. -/
theorem run_append (h : JRun w0 w d bl j c k wv nv D J Rs Rp Rn A) (hk : k < 800) (B : Option Addr) (n cp : Nat) (r : List UInt8) (hr : SlAt w B n (bvs r)) (hn : n ≤ 9223372036854775807) :
    Calls Try.prog 48 #[.pointer (some ⟨j, 0, none⟩), .slice B n cp] w fun e w' => e = .returned (.tuple #[.int .i64 ((japp c J r).2.1 : Int), .int .i64 ((japp c J r).2.2 : Int)]) ∧
      ((isRec r.length = true ∧ jfits c J (r.length : Int) = true ∧ japp c J r = (J.app r, J.all + 1, 0) ∧ ∃ nv', JRun w0 w' d bl j c (k + 1) wv nv' D (J.app r) Rs Rp (Rn ++ [r]) (A ++ [r])) ∨ ((japp c J r).2.2 ≠ 0 ∧ (japp c J r).2.2 ≤ 5 ∧ ∃ nv', JRun w0 w' d bl j c k wv nv' D J Rs Rp Rn A)) ∧ Fr (djfoot d bl j wv nv) w w' := by
  refine (jappend_ok h.dj.hJ h.dj.ok B n cp r hr hn).mono ?_
  rintro e w' ⟨nv', rfl, hJ, hf, hl⟩
  refine ⟨rfl, ?_, hf.mono (fun k hk => .inr hk)⟩
  have hD' := h.dj.hD.fr hf (fun k hk => dj_off h.dj.hD h.dj.hJ k hk)
  have hlow := h.low_fr (hf.mono (fun k hk => .inr hk))
  by_cases h1 : isRec r.length = true
  · by_cases h2 : jfits c J (r.length : Int) = true
    · have he : japp c J r = (J.app r, J.all + 1, 0) := by unfold japp; rw [if_pos h1, if_pos h2]
      rw [he] at hJ
      obtain ⟨sa, -, -⟩ := h.ja.app (by omega) r h1 h2
      exact .inl ⟨h1, h2, he, nv', ⟨hD', hJ, sa.inv.jk, h.dj.dl, sa.cnt (by omega)⟩, sa, hlow, h.hc⟩
    · have he : japp c J r = (J, 0, 5) := by unfold japp; rw [if_pos h1, if_neg h2]
      rw [he] at hJ ⊢
      exact .inr ⟨by simp, by simp, nv', ⟨hD', hJ, h.dj.ok, h.dj.dl, h.dj.cnt⟩, h.ja, hlow, h.hc⟩
  · have he : japp c J r = (J, 0, 1) := by unfold japp; rw [if_neg h1]
    rw [he] at hJ ⊢
    exact .inr ⟨by simp, by simp, nv', ⟨hD', hJ, h.dj.ok, h.dj.dl, h.dj.cnt⟩, h.ja, hlow, h.hc⟩
/-- an Anew. -/
theorem run_anew (h : JRun w0 w d bl j c k wv nv D J Rs Rp Rn A) (hk : k < 800) (B : Option Addr) (m cp : Nat) (rows : List RowM) (hm : rows.length = m) (hr : TextsAt w B rows) (hm1 : m ≤ 1000) :
    Calls Try.prog 50 #[.pointer (some ⟨j, 0, none⟩), .slice B m cp] w fun e w' => ∃ er : Nat, e = .returned (.int .i64 (er : Int)) ∧
      ((er = 0 ∧ allRec (rows.map (·.l)) ∧ ∃ wv' nv' D' J' Rs', JRun w0 w' d bl j c (k + 1) wv' nv' D' J' Rs' (rows.map (·.l)) [] (rows.map (·.l)) ∧ D'.l.length = D.l.length ∧ J'.stage = 1 ∧ J'.next.length = 0 ∧ (JPre J Rs A → rows.map (·.l) = A → JPre J' Rs' (rows.map (·.l)))) ∨
       (er ≠ 0 ∧ (allRec (rows.map (·.l)) → er = 5) ∧ ∃ wv' nv', JRun w0 w' d bl j c k wv' nv' D J Rs Rp Rn A)) ∧ Fr (djfoot d bl j wv nv) w w' := by
  have hb := h.ja.bounds
  have hs := h.ja.bud.s
  refine (janew_ok h.dj hb.2.2.2 (by omega) B m cp rows hm hr hm1).mono ?_
  rintro e w' ⟨rfl, hl⟩
  refine ⟨_, rfl, ?_, hl.choose_spec.choose_spec.2.2.1⟩
  obtain ⟨X, hX⟩ : ∃ X, X = rows.map (·.l) := ⟨_, rfl⟩
  rw [← hX] at hl ⊢
  by_cases h1 : allRec X
  · have hall : X.all (fun r => isRec r.length) = true := List.all_eq_true.2 h1
    by_cases h2 : (encL X).length ≤ c * 128
    · obtain ⟨s1, s2, Rs', sa, s3, s4, s5⟩ := h.ja.anew (by omega) X h1 h2
      obtain ⟨wv', nv', hr'⟩ := h.left hl sa (by omega) s2
      exact .inl ⟨s1, h1, wv', nv', _, _, Rs', hr', s2, s3, s4, s5⟩
    · have he : janew c D J X = (D, J, 5) := by unfold janew; rw [if_pos hall, if_neg h2]
      rw [he] at hl ⊢
      obtain ⟨wv', nv', hr'⟩ := h.left hl h.ja (by omega) rfl
      exact .inr ⟨by simp, fun _ => rfl, wv', nv', hr'⟩
  · have he : janew c D J X = (D, J, 1) := by
      unfold janew
      rw [if_neg (fun hall => h1 (fun r hr => List.all_eq_true.1 hall r hr))]
    rw [he] at hl ⊢
    obtain ⟨wv', nv', hr'⟩ := h.left hl h.ja (by omega) rfl
    exact .inr ⟨by simp, fun hh => absurd hh h1, wv', nv', hr'⟩

/-- a row of another type is none of the journal's or the disk's. -/
theorem JRun.offOwn (h : JRun w0 w d bl j c k wv nv D J Rs Rp Rn A) {b2 : Nat} {e : TypeId} {size n : Nat} {v : Value} {xs : List Value} (ho : w.ownsRow b2 e size v n xs) (h1 : e ≠ 61) (h2 : e ≠ 153) (h3 : e ≠ 151) (h4 : e ≠ 119) (h5 : e ≠ 5) :
    ∀ q, v.ownBlock = some q → ¬ djfoot d bl j wv nv q := fun q hq hd => by
  rcases hd with hd | hd
  · exact h.dj.hD.offOwn ho h1 h2 h3 q hq hd
  · obtain ⟨cs, hcs⟩ := own_blk ho hq
    exact h.dj.hJ.off hcs h4 h5 hd
theorem run_done (h : JRun w0 w d bl j c k wv nv D J Rs Rp Rn A) : Calls Try.prog 51 #[.pointer (some ⟨j, 0, none⟩)] w fun e w' => e = .returned (.int .i64 (J.done : Int)) ∧ w = w' := jdone_ok h.dj.hJ
theorem run_all (h : JRun w0 w d bl j c k wv nv D J Rs Rp Rn A) : Calls Try.prog 52 #[.pointer (some ⟨j, 0, none⟩)] w fun e w' => e = .returned (.int .i64 (J.all : Int)) ∧ w = w' := jall_ok h.dj.hJ
theorem run_stage (h : JRun w0 w d bl j c k wv nv D J Rs Rp Rn A) : Calls Try.prog 53 #[.pointer (some ⟨j, 0, none⟩)] w fun e w' => e = .returned (.int .i64 (J.stage : Int)) ∧ w = w' := jstage_ok h.dj.hJ
/-- a disk behind a crash. -/
structure Dead (w0 w : World) (d bl c : Nat) (ks : List Bool) (D : DSt) (g a l : Nat) (R : List (List UInt8)) : Prop where
  hD : DiskAt w w0.heap.size d bl (.slice none 0 0) (D.crash ks)
  fnd : Found c (D.crash ks) g a l R
  low : Below w0.heap.size w0 w
  hc : c = (D.l.length - 2) / 2
  c1 : 1 ≤ c
  nl : D.l.length ≤ 4096
theorem run_crash (h : JRun w0 w d bl j c k wv nv D J Rs Rp Rn A) (K : Option Addr) (kn kc : Nat) (ks : List Bool) (hK : SlAt w0 K kn (ks.map .bool)) (hkn : kn ≤ 9223372036854775807) :
    Calls Try.prog 26 #[.pointer (some ⟨d, 0, none⟩), .slice K kn kc] w fun e w' => e = .returned (.int .i64 0) ∧ JAt w' w0.heap.size j d c nv J ∧ ∃ g a l R, Dead w0 w' d bl c ks D g a l R ∧ (R = Rs ∨ (J.stage = 3 ∧ R = Rp)) ∧ Fr (dfoot d bl wv) w w' := by
  refine (crash_ok w _ d bl wv D h.dj.hD (by have := h.dj.dl; omega) K kn kc ks (hK.below h.low (Nat.le_refl _)) (fun a ha h0 e => ?_) hkn).mono ?_
  · have h1 := hK.lt a ha h0
    have h2 := h.dj.hD.bb
    omega
  · rintro e w' ⟨rfl, hD, hf⟩
    obtain ⟨g, a, l, R, hF, hR⟩ := h.ja.inv.crashed h.ja.bounds.2.2.2 ks
    exact ⟨rfl, h.dj.hJ.fr hf (fun k hk => jd_off h.dj.hD h.dj.hJ k hk), g, a, l, R, ⟨hD, hF, h.low_fr (hf.mono (fun k hk => .inl hk)), h.hc, h.dj.ok.c1, h.ja.inv.ok.num⟩, hR, hf⟩
section
variable {ks : List Bool} {g a l : Nat} {R : List (List UInt8)}
theorem Dead.below (h : Dead w0 w d bl c ks D g a l R) (hb : Below w.heap.size w w') : Dead w0 w' d bl c ks D g a l R :=
  ⟨h.hD.below hb (Nat.le_refl _), h.fnd, h.low.trans (hb.mono h.low.size), h.hc, h.c1, h.nl⟩
/-- it is opened. -/
theorem dead_open (h : Dead w0 w d bl c ks D g a l R) : Calls Try.prog 54 #[.pointer (some ⟨d, 0, none⟩)] w fun e w' => ∃ j v rows, e = .returned (.tuple #[.pointer (some ⟨j, 0, none⟩), v, .int .i64 0]) ∧ JAt w' w0.heap.size j d c (.slice none 0 0) (JSt.new g a l) ∧ w.heap.size ≤ j ∧ rows.map (·.l) = R ∧ RowsIn w' w.heap.size v rows ∧ Dead w0 w' d bl c ks D g a l R ∧ Below w.heap.size w w' := by
  refine (open_ok h.hD h.low.size c (by rw [crash_l]; exact h.hc) h.c1 (by rw [crash_l]; exact h.nl) g a l R h.fnd).mono ?_
  rintro e w' ⟨j, v, rows, rfl, h1, h2, h3, h4, h5⟩
  exact ⟨j, v, rows, rfl, h2, h1, h3, h4, h.below h5, h5⟩
/-- crashed once more. -/
theorem dead_crash (h : Dead w0 w d bl c ks D g a l R) (K : Option Addr) (kn kc : Nat) (ks' : List Bool) (hK : SlAt w0 K kn (ks'.map .bool)) (hkn : kn ≤ 9223372036854775807) :
    Calls Try.prog 26 #[.pointer (some ⟨d, 0, none⟩), .slice K kn kc] w fun e w' => e = .returned (.int .i64 0) ∧ Dead w0 w' d bl c ks D g a l R ∧ Fr (dfoot d bl (.slice none 0 0)) w w' := by
  refine (crash_ok w _ d bl _ _ h.hD (by rw [crash_l]; have := h.hc; have := h.c1; omega) K kn kc ks' (hK.below h.low (Nat.le_refl _)) (fun a ha h0 e => ?_) hkn).mono ?_
  · have h1 := hK.lt a ha h0
    have h2 := h.hD.bb
    omega
  · rintro e w' ⟨rfl, hD, hf⟩
    exact ⟨rfl, ⟨hD, h.fnd, h.low.trans (hf.below h.low.size (fun k hk => (h.hD.low k hk).1)), h.hc, h.c1, h.nl⟩, hf⟩
end
/-- New, Format. -/
theorem run_format (w0 w : World) (d bl n : Nat) (h4 : 4 ≤ n) (hn : n ≤ 4096) (hD : DiskAt w w0.heap.size d bl (.slice none 0 0) (DSt.new n)) (hb : Below w0.heap.size w0 w) :
    Calls Try.prog 45 #[.pointer (some ⟨d, 0, none⟩)] w fun e w' => ∃ j, e = .returned (.tuple #[.pointer (some ⟨j, 0, none⟩), .int .i64 0]) ∧ JRun w0 w' d bl j ((n - 2) / 2) 1 (.slice none 0 0) (.slice none 0 0) ((DSt.new n).write 1 (superBytes ⟨1, 0, 0⟩)).sync (JSt.new 1 0 0) [] [] [] [] := by
  have hl : (DSt.new n).l.length = n := by simp [DSt.new]
  refine (jformat_ok hD (by omega) (by omega) hb.size (by simp [DSt.new])).mono ?_
  rintro e w' ⟨j, rfl, hj, hdj, hf⟩
  rw [hl] at hdj
  refine ⟨j, rfl, hdj, (JAll.format n h4 hn).1, hb.trans (hf.below hb.size (fun k hk => (hD.low k hk).1)), ?_⟩
  rw [DSt.sync_l]; simp [DSt.write, DSt.new]
end
end Go.Proofs.Ytnnhklembdaieaa
namespace Go.Proofs.Ytnnhklembdaieaa
open Go.RowKit
set_option linter.unusedSimpArgs false
set_option linter.unusedVariables false

set_option maxRecDepth 100000 in
set_option maxHeartbeats 1600000 in
theorem open_nil (w : World) : Calls Try.prog 54 #[.pointer none] w fun e w' => e = .returned (.tuple #[.pointer none, .slice none 0 0, .int .i64 6]) ∧ Below w.heap.size w w' := by
  go_enter Try.func54, Try.ntmps54
  go_wp2_with fail
  refine (newest_nil _).mono ?_
  rintro e w1 ⟨rfl, b1⟩
  have k1 : Blk w1 w.heap.size 86 #[.pointer none] := (((Blk.new w _ _).alloc _).alloc _).below b1 (by simp; omega)
  have k2 : Blk w1 (w.heap.size + 1) 85 #[.slice none 0 0] := (by have := ((Blk.new (w.alloc (Obj.cells #[Value.pointer none] 86)) 85 #[.slice none 0 0]).alloc (.cells #[.int .i64 0] 24)); rw [World.size_alloc] at this; exact this.below b1 (by simp))
  have k3 : Blk w1 (w.heap.size + 1 + 1) 24 #[.int .i64 0] := (by have := (Blk.new ((w.alloc (Obj.cells #[Value.pointer none] 86)).alloc (Obj.cells #[Value.slice none 0 0] 85)) 24 #[.int .i64 0]); rw [World.size_alloc, World.size_alloc] at this; exact this.below b1 (by simp))
  have b1' : Below w.heap.size w w1 := ((((Below.refl _ w).alloc (Nat.le_refl _) _).alloc (by simp) _).alloc (by simp only [World.size_alloc]; omega) _).trans (b1.mono (by simp; omega))
  obtain ⟨q1, hq1⟩ : ∃ q, q = w.heap.size := ⟨_, rfl⟩
  obtain ⟨q2, hq2⟩ : ∃ q, q = w.heap.size + 1 := ⟨_, rfl⟩
  obtain ⟨q3, hq3⟩ : ∃ q, q = w.heap.size + 1 + 1 := ⟨_, rfl⟩
  rw [← hq3] at k3
  rw [← hq2] at k2
  rw [← hq1] at k1
  rw [← hq3, ← hq2, ← hq1]
  have HQ := hide (And.intro hq1 (And.intro hq2 hq3))
  have n12 : q1 ≠ q2 := by omega
  have n13 : q1 ≠ q3 := by omega
  have n23 : q2 ≠ q3 := by omega
  have HB := hide b1'
  clear hq1 hq2 hq3 b1 b1'
  have hsv : superV SU.zero = .agg #[.int .u64 0, .int .i64 0, .int .i64 0] := rfl
  rw [hsv]
  clear hsv
  have K1 := hide k1
  have K2 := hide k2
  have K3 := hide k3
  clear k1 k2 k3
  go_upto_region 3 with fail
  obtain ⟨w2, hw2⟩ : ∃ w2, w2 = w1.alloc (Obj.cells #[Value.int IntKind.u64 0, Value.int IntKind.i64 0, Value.int IntKind.i64 0] 115) := ⟨_, rfl⟩
  have k1 : Blk w2 q1 86 #[.pointer none] := by rw [hw2]; exact K1.out.alloc _
  have k2 : Blk w2 q2 85 #[.slice none 0 0] := by rw [hw2]; exact K2.out.alloc _
  have k3 : Blk w2 q3 24 #[.int .i64 0] := by rw [hw2]; exact K3.out.alloc _
  have b2 : Below w.heap.size w w2 := by rw [hw2]; exact HB.out.alloc HB.out.size _
  rw [← hw2]
  clear hw2
  have y1 : w2.cell? ⟨q1, 0, none⟩ = some (.pointer none) := (k1.cell 0).trans rfl
  have y2 : w2.cell? ⟨q2, 0, none⟩ = some (.slice none 0 0) := (k2.cell 0).trans rfl
  have y3 : w2.cell? ⟨q3, 0, none⟩ = some (.int .i64 0) := (k3.cell 0).trans rfl
  have z1 := k1.frozen 0
  have z2 := k2.frozen 0
  have z3 := k3.frozen 0
  have K1 := hide k1
  have K2 := hide k2
  have K3 := hide k3
  have HB2 := hide b2
  clear k1 k2 k3 b2
  go_wp2
  have e1 := (((K1.out.set_ 0 (.pointer none)).far (p := ⟨q2, 0, none⟩) n12 (.slice none 0 0)).far (p := ⟨q3, 0, none⟩) n13 (.int .i64 6)).cell 0
  have e2 := (((K2.out.far (p := ⟨q1, 0, none⟩) (Ne.symm n12) (.pointer none)).set_ 0 (.slice none 0 0)).far (p := ⟨q3, 0, none⟩) n23 (.int .i64 6)).cell 0
  have e3 := (((K3.out.far (p := ⟨q1, 0, none⟩) (Ne.symm n13) (.pointer none)).far (p := ⟨q2, 0, none⟩) (Ne.symm n23) (.slice none 0 0)).set_ 0 (.int .i64 6)).cell 0
  simp at e1 e2 e3
  refine bodyPost_ret (v := .tuple #[.pointer none, .slice none 0 0, .int .i64 6]) (by simp [results, Try.results54, go_sem, e1, e2, e3]) rfl ⟨rfl, ?_⟩
  have hq := HQ.out
  exact ((HB2.out.setCell (p := ⟨q1, 0, none⟩) (by show w.heap.size ≤ q1; omega) _).setCell (p := ⟨q2, 0, none⟩) (by show w.heap.size ≤ q2; omega) _).setCell (p := ⟨q3, 0, none⟩) (by show w.heap.size ≤ q3; omega) _
/-- a Step of a journal that has no plan. -/
theorem run_step0 {w0 w : World} {d bl j c k : Nat} {wv nv : Value} {D : DSt} {J : JSt} {Rs Rp Rn A : List (List UInt8)} (h : JRun w0 w d bl j c k wv nv D J Rs Rp Rn A) (hk : k < 800) (h0 : J.stage = 0) :
    Calls Try.prog 49 #[.pointer (some ⟨j, 0, none⟩)] w fun e w' => ∃ st er, e = .returned (.tuple #[.int .i64 st, .int .i64 er]) ∧ ∃ wv' nv' D' J' Rp' Rn', JRun w0 w' d bl j c (k + 1) wv' nv' D' J' Rs Rp' Rn' A ∧ J'.stage ≠ 3 := by
  by_cases hm : J.stage = 0 ∧ J.next.length = 0
  · refine (run_step_none h hm).mono ?_
    rintro e w' ⟨rfl, rfl⟩
    exact ⟨_, _, rfl, wv, nv, D, J, Rp, Rn, h.more (by omega) (by omega), by omega⟩
  · refine (run_step_some h hk hm).mono ?_
    rintro e w' ⟨⟨st, rfl⟩, ⟨wv', nv', D', J', Rs', Rp', Rn', h1, h2, h3, h4, h5, h6, h7, h8⟩, -⟩
    have e8 := h8 (by omega)
    subst e8
    exact ⟨_, _, rfl, wv', nv', D', J', Rp', Rn', h1, by have := h7 h0; omega⟩
theorem meas_pos {J : JSt} (h : 0 < meas J) : ¬ (J.stage = 0 ∧ J.next.length = 0) := by
  rintro ⟨h1, h2⟩
  unfold meas at h
  rw [if_pos h1, if_pos h2] at h
  omega
set_option maxRecDepth 100000 in
set_option maxHeartbeats 3200000 in
theorem alive14 (w : World) : Calls Try.prog 47 #[] w fun e w' => e = .returned (.bool true) ∧ Below w.heap.size w w' := by
  have kc := fun (w : World) (C : Array Value) (n c : Nat) => Lib.run_convert_bytes_const (P := Try.prog) w 28 5 C n c Try.underlying28 Try.underlying5
  have hja : isRec 2 = true ∧ jfits 3 (JSt.new 1 0 0) 2 = true := by decide
  go_enter Try.func47, Try.ntmps47
  go_wp2_with fail
  refine (newE 8 w (by omega) (by omega)).mono ?_
  rintro e w1 ⟨d, bl, rfl, h1, b1⟩
  have HF := hide (run_format w w1 d bl 8 (by omega) (by omega) h1 b1)
  clear h1
  go_wp2_with fail
  refine HF.out.mono ?_
  rintro e w2 ⟨j, rfl, R2⟩
  have HR2 := hide R2
  clear HF R2
  go_wp2_with fail
  have kb : Blk (w2.alloc (.cells #[.int .u8 97, .int .u8 98] 5 (2, 3))) w2.heap.size 5 #[] → True := fun _ => trivial
  have s3 : SlAt (w2.alloc (.cells #[.int .u8 97, .int .u8 98] 5 (2, 3))) (some ⟨w2.heap.size, 0, none⟩) 2 (bvs [97, 98]) := SlAt.mark w2 (bvs [97, 98]) 5 (2, 3) 2 rfl
  have R3 := HR2.out.below (w' := w2.alloc (.cells #[.int .u8 97, .int .u8 98] 5 (2, 3))) ((Below.refl _ _).alloc (Nat.le_refl _) _)
  have HA := hide (run_append R3 (by omega) (some ⟨w2.heap.size, 0, none⟩) 2 2 [97, 98] s3 (by omega))
  have hjp : japp 3 (JSt.new 1 0 0) [97, 98] = ((JSt.new 1 0 0).app [97, 98], 1, 0) := by unfold japp; rw [if_pos (show isRec ([97, 98] : List UInt8).length = true from hja.1), if_pos (show jfits 3 (JSt.new 1 0 0) ((([97, 98] : List UInt8).length : Nat) : Int) = true from hja.2)]; rfl
  rw [hjp] at HA
  clear kb s3 R3 HR2
  refine HA.out.mono ?_
  rintro e w4 ⟨rfl, h4 | h4, -⟩
  rotate_left
  · exact absurd rfl h4.1
  obtain ⟨-, -, -, nv4, R4⟩ := h4
  have HR4 := hide R4
  clear R4 HA hjp hja
  go_wp2_with fail
  go_loopw [7] (fun i wr => ∃ (q : Nat) (wv nv : Value) (D : DSt) (J : JSt) (Rs Rp Rn : List (List UInt8)), q ≤ 4 ∧ i = .int .i64 q ∧ JRun w wr d bl j 3 (2 + q) wv nv D J Rs Rp Rn [[97, 98]] ∧ meas J + q = 4 ∧ J.all = 1 ∧ D.l.length = 8) (fun i _ => 4 - (intOf i).toNat)
  case atStart => exact ⟨0, _, _, _, _, _, _, _, by omega, rfl, HR4.out, by decide, rfl, by rw [DSt.sync_l]; simp [DSt.write, DSt.new]⟩
  case round =>
    obtain ⟨q, wv, nv, D, J, Rs, Rp, Rn, hq, rfl, R, hme, hall, hdl⟩ := hrel
    have HR := hide R
    have HX := hide (And.intro hme (And.intro hall hdl))
    clear R hall hdl HR4
    by_cases hlt : q < 4
    · have hS := run_step_some HR.out (by omega) (meas_pos (by omega))
      have hq4 : (q : Int) < 4 := by omega
      go_wp2_with fail
      refine hS.mono ?_
      rintro e w5 ⟨⟨st, rfl⟩, ⟨wv', nv', D', J', Rs', Rp', Rn', h1, h2, h3, h4, h5, h6, h7, h8⟩, -⟩
      have HN := hide (And.intro h1 (And.intro h2 (And.intro h3 h6)))
      clear h1 h2 h3 h4 h5 h6 h7 h8 hS
      go_wp2
      go_roundw
      case rel => exact ⟨q + 1, wv', nv', D', J', Rs', Rp', Rn', by omega, by go_num, HN.out.1, by have := HN.out.2.2.1; have := HX.out.1; omega, HN.out.2.2.2.trans HX.out.2.1, HN.out.2.1.trans HX.out.2.2⟩
      case measure => simp [intOf] <;> omega
    · obtain rfl : q = 4 := by omega
      have hm0 := meas_none HR.out.ja.inv.jk.st (show meas J = 0 by omega)
      have hrn := HR.out.ja.next_nil.1 hm0.2
      have hc0 := HR.out.ja.cont.c0 hm0.1
      rw [hrn] at hc0
      have hdn : J.done = 1 := by have := hc0.2; rw [HX.out.2.1] at this; simp at this; omega
      have hRs : Rs = [[97, 98]] := by have := hc0.1; simpa using this.symm
      have hD1 := run_done HR.out
      rw [hdn] at hD1
      have HM := hide (And.intro hm0.1 hRs)
      clear hm0 hrn hc0 hdn hRs
      go_wp2_with fail
      refine hD1.mono ?_
      rintro e w5 ⟨rfl, rfl⟩
      go_wp2_with fail
      have s5 : SlAt (wr.alloc (.cells #[.int .u8 99] 5 (1, 2))) (some ⟨wr.heap.size, 0, none⟩) 1 (bvs [99]) := SlAt.mark wr (bvs [99]) 5 (1, 2) 1 rfl
      have R5 := HR.out.below (w' := wr.alloc (.cells #[.int .u8 99] 5 (1, 2))) ((Below.refl _ _).alloc (Nat.le_refl _) _)
      have HA := hide (run_append R5 (by omega) (some ⟨wr.heap.size, 0, none⟩) 1 1 [99] s5 (by omega))
      clear s5 R5 hD1
      obtain ⟨r1, hr1⟩ : ∃ r, r = (japp 3 J [99]).2.1 := ⟨_, rfl⟩
      obtain ⟨r2, hr2⟩ : ∃ r, r = (japp 3 J [99]).2.2 := ⟨_, rfl⟩
      rw [← hr1, ← hr2] at HA
      clear hr1 hr2
      refine HA.out.mono ?_
      rintro e w6 ⟨rfl, h6, -⟩
      have h6' : ∃ k nv J Rn A, JRun w w6 d bl j 3 k wv nv D J Rs Rp Rn A ∧ J.stage = 0 ∧ k < 800 := by
        rcases h6 with ⟨-, -, -, nv6, h6⟩ | ⟨-, -, nv6, h6⟩
        · exact ⟨_, _, _, _, _, h6, HM.out.1, by omega⟩
        · exact ⟨_, _, _, _, _, h6, HM.out.1, by omega⟩
      obtain ⟨k6, nv6, J6, Rn6, A6, R6, h60, hk6⟩ := h6'
      have HR6 := hide R6
      have HS6 := run_step0 R6 hk6 h60
      clear h6 R6 HA h60
      go_wp2_with fail
      refine HS6.mono ?_
      rintro e w7 ⟨st, er, rfl, wv7, nv7, D7, J7, Rp7, Rn7, R7, h73⟩
      have HC := run_crash R7 none 0 0 [] (SlAt.nil _ _) (by omega)
      have HJ7 := hide R7.dj.ok
      clear HS6 R7
      go_wp2_with fail
      refine HC.mono ?_
      rintro e w8 ⟨rfl, hJ8, g, a, l, R, hdead, hR, -⟩
      have hRR : R = [[97, 98]] := by
        rcases hR with h | h
        · rw [h, HM.out.2]
        · exact absurd h.1 h73
      have HJ8 := hide hJ8
      have HJL := hide (fun k (hk : jfoot j nv7 k) => (hJ8.low k hk).2)
      have HO := dead_open hdead
      clear HC hdead hR h73 hJ8
      go_wp2_with fail
      refine HO.mono ?_
      rintro e w9 ⟨j9, v9, rows, rfl, hJ9, hj9, hrows, hin, hdead9, b9⟩
      have HJ9 := hide (HJ8.out.below b9 (Nat.le_refl _))
      have HIN := hide hin
      have HRW := hide (hrows.trans hRR)
      have HL := hide hdead9.low
      clear HO hJ9 hj9 hrows hin hdead9 hRR b9
      go_wp2_with fail
      refine (open_nil _).mono ?_
      rintro e w10 ⟨rfl, b10⟩
      have hJ10 := HJ9.out.below b10 (Nat.le_refl _)
      have HAP := jappend_ok hJ10 HJ7.out none 0 0 [] (SlAt.nil _ _) (by omega)
      have hjp : japp 3 J7 [] = (J7, 0, 1) := by unfold japp; rw [if_neg (by decide)]
      rw [hjp] at HAP
      have HI10 := hide (HIN.out.fr (Fr.none_ (S := nob) b10) (fun k hk => absurd hk (fun h => h)))
      have HL10 := hide (HL.out.trans (b10.mono HL.out.size))
      have HLW := hide (fun k (hk : jfoot j nv7 k) => (hJ10.low k hk).1)
      have HLU := hide (fun k (hk : jfoot j nv7 k) => (hJ10.low k hk).2)
      clear hJ10 hjp HIN HL b10 HJ9
      go_wp2_with fail
      refine HAP.mono ?_
      rintro e w11 ⟨nv11, rfl, -, f11, -⟩
      have hin := HI10.out.fr f11 (fun k hk hB => by have := HJL.out k hk; omega)
      obtain ⟨q, rfl⟩ : ∃ q, rows = [q] := by
        have := congrArg List.length HRW.out
        rw [List.length_map] at this
        exact List.length_eq_one_iff.1 this
      have hql : q.l = [97, 98] := by have := HRW.out; simpa using this
      obtain ⟨A9, cp9, rfl, -, -, -⟩ := own_shape hin.own
      obtain ⟨-, htx⟩ := hin.texts
      obtain ⟨g9, o9, rfl, hg9, hk9⟩ := htx.2 (by simp)
      obtain ⟨e1, e2, e3⟩ := hk9 0 (by simp)
      simp only [List.getElem_cons_zero, hql] at e1 e2 e3
      have hst : (convert 28 9 (.slice q.A 2 q.c)).run Try.prog w11 = .ok (.string ⟨#[97, 98]⟩) w11 := run_str w11 q.A 2 q.c [97, 98] e2
      have e1' : w11.cell? ⟨g9, o9, none⟩ = some (.slice q.A 2 q.c) := e1
      have HEND := hide (HL10.out.trans (f11.below HL10.out.size HLW.out))
      clear hin hql htx hk9 e1 e2 e3 f11 HAP
      go_wp2
      go_ret
      exact ⟨rfl, HEND.out⟩
end Go.Proofs.Ytnnhklembdaieaa
namespace Go.Proofs.Ytnnhklembdaieaa
open Go.RowKit
set_option linter.unusedSimpArgs false
set_option linter.unusedVariables false

/-- a call that comes in. -/
structure JOpM where
  kind : Int
  bA : Option Addr
  bc : Nat
  b : List UInt8
  lA : Option Addr
  lc : Nat
  rows : List RowM
  kA : Option Addr
  kc : Nat
  keep : List Bool
structure JOpAt (w : World) (g o : Nat) (m : JOpM) : Prop where
  c0 : w.cell? ⟨g, o, none⟩ = some (.int .i64 m.kind)
  c1 : w.cell? ⟨g, o + 1, none⟩ = some (.slice m.bA m.b.length m.bc)
  c2 : w.cell? ⟨g, o + 2, none⟩ = some (.slice m.lA m.rows.length m.lc)
  c3 : w.cell? ⟨g, o + 3, none⟩ = some (.slice m.kA m.keep.length m.kc)
  hb : SlAt w m.bA m.b.length (bvs m.b)
  hl : TextsAt w m.lA m.rows
  hk : SlAt w m.kA m.keep.length (m.keep.map .bool)
  mb : m.b.length ≤ 9223372036854775807
  mkp : m.keep.length ≤ 9223372036854775807
  kk : -9223372036854775808 ≤ m.kind ∧ m.kind ≤ 9223372036854775807
def JOpsAt (w : World) (A : Option Addr) (ops : List JOpM) : Prop := ops.length ≤ 9223372036854775807 ∧ (0 < ops.length → ∃ g o, A = some ⟨g, o, none⟩ ∧ g < w.heap.size ∧ ∀ (k : Nat) (hk : k < ops.length), JOpAt w g (o + k * 4) ops[k])
theorem JOpAt.below {w w' : World} {g o : Nat} {m : JOpM} (h : JOpAt w g o m) (hb : Below w.heap.size w w') (hg : g < w.heap.size) : JOpAt w' g o m :=
  ⟨(hb.cell (p := ⟨g, o, none⟩) hg).trans h.c0, (hb.cell (p := ⟨g, o + 1, none⟩) hg).trans h.c1, (hb.cell (p := ⟨g, o + 2, none⟩) hg).trans h.c2, (hb.cell (p := ⟨g, o + 3, none⟩) hg).trans h.c3,
   h.hb.below hb (Nat.le_refl _), h.hl.below hb, h.hk.below hb (Nat.le_refl _), h.mb, h.mkp, h.kk⟩
def JOpM.great (m : JOpM) : Bool := greatO m.b.length (m.rows.map (·.l.length))
theorem JOpM.notGreat {m : JOpM} (h : m.great = false) : m.b.length ≤ 2100 := by
  unfold JOpM.great greatO at h
  simp only [Bool.or_eq_false_iff, decide_eq_false_iff_not] at h
  omega

/-- the records that were appended so far: a row of one's own, of texts that came in. -/
structure AllAt (w0 w : World) (v : Value) (rows : List RowM) : Prop where
  own : w.ownsRow w0.heap.size 28 1 v rows.length (rows.map fun r => .slice r.A r.l.length r.c)
  each : ∀ r ∈ rows, SlAt w0 r.A r.l.length (bvs r.l) ∧ r.l.length ≤ 9223372036854775807
theorem AllAt.nil (w0 w : World) : AllAt w0 w (.slice none 0 0) [] := ⟨World.ownsRow_nil _ _ _ _, fun r h => by simp at h⟩
theorem AllAt.fr {w0 w w' : World} {S : Nat → Prop} {v : Value} {rows : List RowM} (h : AllAt w0 w v rows) (hf : Fr S w w') (hS : ∀ k, v.ownBlock = some k → ¬ S k) : AllAt w0 w' v rows := ⟨Fr.own h.own hf hS, h.each⟩
theorem AllAt.below {w0 w w' : World} {v : Value} {rows : List RowM} (h : AllAt w0 w v rows) (hb : Below w.heap.size w w') : AllAt w0 w' v rows := h.fr (Fr.none_ (S := nob) hb) (fun _ _ h => h)
theorem AllAt.run {w0 w w' : World} {d bl j c k : Nat} {wv nv v : Value} {D : DSt} {J : JSt} {Rs Rp Rn A : List (List UInt8)} {rows : List RowM} (h : AllAt w0 w v rows) (hr : JRun w0 w d bl j c k wv nv D J Rs Rp Rn A) (hf : Fr (djfoot d bl j wv nv) w w') : AllAt w0 w' v rows :=
  h.fr hf (hr.offOwn h.own (by decide) (by decide) (by decide) (by decide) (by decide))
/-- the first m of them. -/
theorem AllAt.texts {w0 w : World} {A : Option Addr} {n cp : Nat} {rows : List RowM} (h : AllAt w0 w (.slice A n cp) rows) (hb : Below w0.heap.size w0 w) (m : Nat) : rows.length = n ∧ n ≤ cp ∧ cp ≤ 9223372036854775807 ∧ TextsAt w A (rows.take m) := by
  obtain ⟨A', cp', hv, hle, hmx, hr⟩ := own_shape h.own
  injection hv with h1 h2 h3
  subst h1 h2 h3
  have hmm : maxLen = 9223372036854775807 := by decide
  have hml : (rows.take m).length ≤ rows.length := by simp; omega
  refine ⟨rfl, hle, by omega, by omega, fun h0 => ?_⟩
  obtain ⟨g, rfl, hg1, hg2, hrr⟩ := hr (by omega)
  refine ⟨g, 0, rfl, hg2, fun k hk => ?_⟩
  have hk' : k < rows.length := by omega
  have he : (rows.take m)[k] = rows[k] := by simp
  rw [he]
  refine ⟨?_, ?_, ?_⟩
  · have := hrr k _ (by rw [List.getElem?_map, List.getElem?_eq_getElem hk']; rfl)
    exact this
  · exact ((h.each _ (List.getElem_mem hk')).1).below hb (Nat.le_refl _)
  · exact (h.each _ (List.getElem_mem hk')).2
theorem AllAt.disk {w0 w w' : World} {base d bl : Nat} {wv v : Value} {D : DSt} {rows : List RowM} (h : AllAt w0 w v rows) (hd : DiskAt w base d bl wv D) (hf : Fr (dfoot d bl wv) w w') : AllAt w0 w' v rows :=
  h.fr hf (hd.offOwn h.own (by decide) (by decide) (by decide))
theorem RowsIn.disk {w w' : World} {base d bl B : Nat} {wv v : Value} {D : DSt} {rows : List RowM} (h : RowsIn w B v rows) (hd : DiskAt w base d bl wv D) (hf : Fr (dfoot d bl wv) w w') : RowsIn w' B v rows :=
  h.fr hf (fun k hk _ t cs hc => ⟨fun e => hd.off (e ▸ hc) (by decide) (by decide) (.inl (by decide)) hk, fun e => hd.off (e ▸ hc) (by decide) (by decide) (.inl (by decide)) hk⟩)
theorem RowsIn.below {w w' : World} {B : Nat} {v : Value} {rows : List RowM} (h : RowsIn w B v rows) (hb : Below w.heap.size w w') : RowsIn w' B v rows := h.fr (Fr.none_ (S := nob) hb) (fun k hk => absurd hk (fun h => h))
/-- what is found behind a crash is a beginning. -/
theorem JAll.begins {c k : Nat} {D : DSt} {J : JSt} {Rs Rp Rn A R : List (List UInt8)} (h : JAll c k D J Rs Rp Rn A) (hp : JPre J Rs A) (hR : R = Rs ∨ (J.stage = 3 ∧ R = Rp)) : J.done ≤ R.length ∧ R.length ≤ A.length ∧ R = A.take R.length := by
  have hd := h.done_le
  obtain ⟨h1, h2⟩ := hp
  rcases hR with rfl | ⟨h3, rfl⟩
  · have hl : R.length = J.done := by rw [h2, List.length_take]; omega
    exact ⟨by omega, by omega, by rw [hl]; exact h2⟩
  · obtain ⟨hA, hall, hdp⟩ := h.cont.c1 (by omega)
    rw [hA, List.length_append] at h1
    exact ⟨by omega, by rw [hA, List.length_append]; omega, by rw [hA, List.take_append_of_le_length (Nat.le_refl _), List.take_length]⟩
end Go.Proofs.Ytnnhklembdaieaa
