/- The document's disk (pigeonloftref11): how it lies in memory; New. -/
import Derived.Test.YtnnhklembdaieaaLawA
namespace Go.Proofs.Ytnnhklembdaieaa
open Go.RowKit
set_option linter.unusedSimpArgs false
set_option linter.unusedVariables false

/-- a text as a value. -/
def strv (x : List UInt8) : Value := .string (bs x)
theorem strv_one (l : List (List UInt8)) : ∀ v ∈ l.map strv, v.oneCell' = true := by
  intro v hv; simp only [List.mem_map] at hv; obtain ⟨x, _, rfl⟩ := hv; rfl

section
variable {P : Program}
theorem wp_make {o : Oper} {a : Act} {w w' : World} {K : Act → World → Prop} {Q : Exit → Act → World → Prop} (t : TypeId) (l c : Operand) (ho : o.op = .makeSlice t l c) {v : Value} (h : (Instr.makeSlice t (a.eval l) (a.eval c)).run P w = .ok v w') (hK : K (a.put o.dst v) w') : o.wp P a w K Q := by
  unfold Oper.wp execOp
  simp only [ho, Sem.run_bind, h, Result.andThen_ok]
  exact hK
theorem wp_convert {o : Oper} {a : Act} {w w' : World} {K : Act → World → Prop} {Q : Exit → Act → World → Prop} (t u : TypeId) (x : Operand) (ho : o.op = .convert t u x) {v : Value} (h : (convert t u (a.eval x)).run P w = .ok v w') (hK : K (a.put o.dst v) w') : o.wp P a w K Q := by
  unfold Oper.wp execOp
  simp only [ho, Sem.run_bind, h, Result.andThen_ok]
  exact hK
end

theorem info9 : (Try.prog.info? 9).map (fun i => (i.zero, i.size, i.bytes)) = some (some (.string ⟨#[]⟩), 1, 16) := by kernel_rfl

theorem info9' : (Try.prog.info? 9).map (fun i => (i.size, i.bytes, i.zero.map (·.cells.toList))) = some (1, 16, some [.string ⟨#[]⟩]) := by kernel_rfl

/-- how the document's disk lies in memory: the struct at block x, the three rows. -/
structure RefAt (w : World) (base x : Nat) (lv av tv : Value) (s : DSt) : Prop where
  ok : s.Ok
  hx : Blk w x 52 #[lv, av, tv, .int .i64 (s.writes : Int), .int .i64 (s.syncs : Int)]
  hl : w.ownsRow base 9 1 lv s.l.length (s.l.map strv)
  ha : w.ownsRow base 3 1 av s.waits.length (s.waits.map fun p => .int .i64 (p.1 : Int))
  ht : w.ownsRow base 9 1 tv s.waits.length (s.waits.map fun p => strv p.2)
  ne : ∀ k, lv.ownBlock = some k → tv.ownBlock ≠ some k
  bx : base ≤ x
def rfoot (x : Nat) (lv av tv : Value) : Nat → Prop := fun k => k = x ∨ lv.ownBlock = some k ∨ av.ownBlock = some k ∨ tv.ownBlock = some k
theorem RefAt.fr {w w' : World} {S : Nat → Prop} {base x : Nat} {lv av tv : Value} {s : DSt} (h : RefAt w base x lv av tv s) (hf : Fr S w w') (hS : ∀ k, rfoot x lv av tv k → ¬ S k) : RefAt w' base x lv av tv s :=
  ⟨h.ok, h.hx.fr hf (hS x (.inl rfl)), Fr.own h.hl hf (fun k hk => hS k (.inr (.inl hk))), Fr.own h.ha hf (fun k hk => hS k (.inr (.inr (.inl hk)))), Fr.own h.ht hf (fun k hk => hS k (.inr (.inr (.inr hk)))), h.ne, h.bx⟩
theorem RefAt.low {w : World} {base x : Nat} {lv av tv : Value} {s : DSt} (h : RefAt w base x lv av tv s) : ∀ k, rfoot x lv av tv k → base ≤ k ∧ k < w.heap.size := by
  rintro k (rfl | h4 | h4 | h4)
  · exact ⟨h.bx, h.hx.lt⟩
  · exact h.hl.lt k h4
  · exact h.ha.lt k h4
  · exact h.ht.lt k h4
theorem RefAt.off {w : World} {base x : Nat} {lv av tv : Value} {s : DSt} (h : RefAt w base x lv av tv s) {k : Nat} {t : TypeId} {cs : Array Value} (hk : Blk w k t cs) (h1 : t ≠ 52) (h2 : t ≠ 9) (h3 : t ≠ 3) : ¬ rfoot x lv av tv k := by
  rintro (rfl | h4 | h4 | h4)
  · exact Blk.ne_ hk h.hx h1 rfl
  · exact own_ne h.hl hk (Ne.symm h2) h4
  · exact own_ne h.ha hk (Ne.symm h3) h4
  · exact own_ne h.ht hk (Ne.symm h2) h4
theorem RefAt.size {w : World} {base x : Nat} {lv av tv : Value} {s : DSt} (h : RefAt w base x lv av tv s) : base ≤ w.heap.size := by have := h.bx; have := h.hx.lt; omega
theorem RefAt.below {w w' : World} {B base x : Nat} {lv av tv : Value} {s : DSt} (h : RefAt w base x lv av tv s) (hb : Below B w w') (hB : w.heap.size ≤ B) : RefAt w' base x lv av tv s :=
  h.fr (Fr.ofBelow hb) (fun k hk => by have := (h.low k hk).2; omega)
theorem RefAt.isBelow {w w' : World} {base x : Nat} {lv av tv : Value} {s : DSt} (h : RefAt w base x lv av tv s) (hf : Fr (rfoot x lv av tv) w w') (hb : base ≤ w.heap.size) : Below base w w' :=
  hf.below hb (fun k hk => (h.low k hk).1)

set_option maxRecDepth 100000 in
set_option maxHeartbeats 800000 in
theorem refNew (n : Nat) (w : World) (h1 : 4 ≤ n) (h2 : n ≤ 4096) : Calls Try.prog 29 #[.int .i64 (n : Int)] w fun e w' =>
    ∃ x lv, e = .returned (.pointer (some ⟨x, 0, none⟩)) ∧ RefAt w' w.heap.size x lv (.slice none 0 0) (.slice none 0 0) (DSt.new n) ∧ Below w.heap.size w w' := by
  obtain ⟨i0, hi0, hz0, hs0, hb0⟩ := info_parts info9
  have hmk := mk_bytes 128 128 (by rfl) (by omega)
  go_enter Try.func29, Try.ntmps29
  go_wp2_with fail
  have hblk := Blk.new w 52 #[.slice none 0 0, .slice none 0 0, .slice none 0 0, .int .i64 0, .int .i64 0]
  have hbel : Below w.heap.size w (w.alloc (.cells #[.slice none 0 0, .slice none 0 0, .slice none 0 0, .int .i64 0, .int .i64 0] 52)) := (Below.refl _ w).alloc (Nat.le_refl _) _
  obtain ⟨w1, hw1⟩ : ∃ w1, w1 = w.alloc (.cells #[.slice none 0 0, .slice none 0 0, .slice none 0 0, .int .i64 0, .int .i64 0] 52) := ⟨_, rfl⟩
  rw [← hw1] at hblk hbel ⊢
  clear hw1
  go_loopw [4] (fun i wr => ∃ (k : Nat) (lv : Value), k ≤ n ∧ i = .int .i64 k ∧ Blk wr w.heap.size 52 #[lv, .slice none 0 0, .slice none 0 0, .int .i64 0, .int .i64 0] ∧ wr.ownsRow w.heap.size 9 1 lv k (List.replicate k (strv zsec)) ∧ Below w.heap.size w wr) (fun i _ => n - (intOf i).toNat)
  case atStart => exact ⟨0, _, by omega, rfl, hblk, World.ownsRow_nil _ _ _ _, hbel⟩
  case round =>
    obtain ⟨k, lv, hk, rfl, hb, hl, hbl⟩ := hrel
    by_cases hlt : k < n
    · have hc0 := hb.cell 0
      simp at hc0
      have hxl := hb.lt
      go_wp2_with fail
      refine wp_region_held 11 (fun w' => w'.cell? ⟨w.heap.size, 0, none⟩ = some lv) (fun i => i == 5 || i == 6 || i == 7 || i == 8) (by kernel_rfl) (by kernel_rfl) hc0 (fun ops hops F hF => ?_)
      clear hops
      simp only [List.take_succ_cons, List.take_zero, List.drop_succ_cons, List.drop_zero] at hF ⊢
      iterate 5 (refine held_q rfl rfl ?_; apply Exists.intro; refine ⟨fun w' hw' => ?_, ?_⟩; (go_simp; rfl); simp only [Act.put, List.setIfInBounds_toArray, List.set_cons_zero, List.set_cons_succ, Nat.reduceAdd])
      refine held_loud rfl rfl (fun K hK => ?_)
      refine wp_make 28 _ _ rfl (hmk _) (hK _ _ ?_ ?_)
      · exact (((Fr.refl nob wr).drew.alloc _).cell (p := ⟨w.heap.size, 0, none⟩) hxl (fun h => h)).trans hc0
      clear hK K
      simp only [Act.put, List.setIfInBounds_toArray, List.set_cons_zero, List.set_cons_succ, Nat.reduceAdd]
      refine held_loud rfl rfl (fun K hK => ?_)
      refine wp_convert 28 9 _ rfl (run_str _ (some ⟨wr.heap.size, 0, none⟩) 128 128 zsec (SlAt.ofBlk (Blk.new wr.drew 5 _) (zcells_length 128))) (hK _ _ ?_ ?_)
      · exact (((Fr.refl nob wr).drew.alloc _).cell (p := ⟨w.heap.size, 0, none⟩) hxl (fun h => h)).trans hc0
      clear hK K
      simp only [Act.put, List.setIfInBounds_toArray, List.set_cons_zero, List.set_cons_succ, Nat.reduceAdd]
      refine held_loud rfl rfl (fun K hK => ?_)
      refine wp_buildSlice 50 1 _ rfl #[(0, strv zsec)] (by simp [Act.eval, strv]) _ _ (run_buildSlice_one 50 9 _ 1 16 Try.underlying50 info9' rfl (by omega) (by omega) (strv zsec) rfl _) (hK _ _ ?_ ?_)
      · exact ((((Fr.refl nob wr).drew.alloc _).alloc _).cell (p := ⟨w.heap.size, 0, none⟩) hxl (fun h => h)).trans hc0
      clear hK K
      simp only [Act.put, List.setIfInBounds_toArray, List.set_cons_zero, List.set_cons_succ, Nat.reduceAdd]
      refine held_loud rfl rfl (fun K hK => ?_)
      refine wp_append_lies _ _ _ 50 rfl w.heap.size 9 i0 _ 1 16 Try.underlying50 hi0 hz0 hs0 hb0 rfl (by omega) lv k (List.replicate k (strv zsec)) rfl ?_ ⟨wr.heap.size + 1, 0, none⟩ 1 1 [strv zsec] (by simp [Act.eval]) rfl ?_ ?_ (by omega) (by unfold maxLen; omega) (by omega) ?_ _ rfl ?_
      · exact Fr.own hl (((Fr.refl nob wr).drew.alloc _).alloc _) (fun _ _ h => h)
      · exact news_one _ _ _ _
      · intro u hu; simp at hu; rw [hu]; rfl
      · simp; omega
      intro g cap2 w2 hown hgrow hat hgl
      have hfr : Fr (fun k => lv.ownBlock = some k) wr w2 := (((Fr.refl _ wr).drew.alloc _).alloc _).grown hgrow (fun k hk => .inl hk)
      have hb2 := hb.fr hfr (own_ne hl hb (by decide))
      have hk1 := hb2.cell 0
      have hf1 := hb2.frozen 0
      simp at hk1
      refine hK _ _ hk1 ?_
      clear hK K
      simp only [Act.put, List.setIfInBounds_toArray, List.set_cons_zero, List.set_cons_succ, Nat.reduceAdd]
      iterate 2 (refine held_q rfl rfl ?_; apply Exists.intro; refine ⟨fun w' hw' => ?_, ?_⟩; (go_simp; rfl); simp only [Act.put, List.setIfInBounds_toArray, List.set_cons_zero, List.set_cons_succ, Nat.reduceAdd])
      refine held_nil (hF _ _ ?_)
      clear hF F
      go_wp2
      have hgx : g ≠ w.heap.size := by
        rintro rfl
        have := own_ne hown hb2 (by decide)
        simp [Value.ownBlock] at this
      go_roundw
      case rel =>
        refine ⟨k + 1, .slice (some ⟨g, 0, none⟩) (k + 1) cap2, by omega, by go_num, by simpa using hb2.set_ 0 (.slice (some ⟨g, 0, none⟩) (k + 1) cap2), ?_, ?_⟩
        · have := Fr.own hown ((Fr.refl (fun k => k = w.heap.size) w2).setCell (p := ⟨w.heap.size, 0, none⟩) (.inl rfl) (.slice (some ⟨g, 0, none⟩) (k + 1) cap2)) (fun k hk => by simp [Value.ownBlock] at hk; omega)
          simpa [List.replicate_succ'] using this
        · exact (hbl.trans (hfr.below hbl.size (fun k hk => (hl.lt k hk).1))).setCell (p := ⟨w.heap.size, 0, none⟩) (by simp) _
      case measure => simp [intOf]; omega
    · obtain rfl : k = n := by omega
      go_wp2
      go_ret
      refine ⟨_, lv, rfl, ⟨DSt.new_ok _ h2, hb, ?_, World.ownsRow_nil _ _ _ _, World.ownsRow_nil _ _ _ _, fun _ _ h => by simp [Value.ownBlock] at h, Nat.le_refl _⟩, hbl⟩
      simpa [DSt.new] using hl
end Go.Proofs.Ytnnhklembdaieaa
