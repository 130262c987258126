/- The disk's Write, and where the row of waits lies behind it. Footprints: what is none of a disk's blocks. -/
import Derived.Test.YtnnhklembdaieaaAreaB
namespace Go.Proofs.Ytnnhklembdaieaa
open Go.RowKit
set_option linter.unusedSimpArgs false
set_option linter.unusedVariables false

set_option maxRecDepth 100000 in
set_option maxHeartbeats 400000 in
theorem write_own (w : World) (base d bl : Nat) (wv : Value) (s : DSt) (h : DiskAt w base d bl wv s) (i : Nat) (hi : i < s.l.length) (gb ob cap : Nat) (x : List UInt8) (hx : x.length = 128) (hr : w.rangeAt gb ob (bvs x))
    (hgb : wv.ownBlock ≠ some gb) (hcnt : s.waits.length < 1000000000 ∧ s.writes < 1000000000000) :
    Calls Try.prog 24 #[.pointer (some ⟨d, 0, none⟩), .int .i64 (i : Int), .slice (some ⟨gb, ob, none⟩) 128 cap] w fun e w' => e = .returned (.int .i64 0) ∧
      ∃ wv', DiskAt w' base d bl wv' (s.write i x) ∧ Fr (dfoot d bl wv) w w' ∧ (∀ k, wv'.ownBlock = some k → wv.ownBlock = some k ∨ w.heap.size ≤ k) := by
  have hc0 := h.hd.cell 0
  have hc1 := h.hd.cell 1
  have hnum := h.ok.num
  simp at hc0 hc1
  have ha := ask_any d i _ _ _ w hc0 (by omega) hnum
  rw [if_pos (by omega)] at ha
  have hxl : (bvs x).length = 128 := by rw [bvs_length, hx]
  have harr := run_arrayAt (P := Try.prog) Try.underlying151 (some ⟨gb, ob, none⟩) 128 cap (by omega)
  have hbw := run_build_wait i x hx
  obtain ⟨i0, z, hi0, hz0, hzl, hz1, hz2⟩ := infoN info153
  have HX := hide hxl
  have hx' := hx
  have hdlt := h.hd.lt
  clear hxl hx
  go_enter Try.func24, Try.ntmps24
  go_wp2_with (go_at_call 82; refine (ha).mono ?_; rintro e w' ⟨rfl, rfl⟩)
  refine wp_region_held 12 (fun w' => w'.cell? ⟨d, 1, none⟩ = some wv ∧ w'.rangeAt gb ob (bvs x)) (fun i => i == 10 || i == 11) (by kernel_rfl) (by kernel_rfl) ⟨by simpa using hc1, by simpa using hr⟩ (fun ops hops F hF => ?_)
  clear hops
  simp only [List.take_succ_cons, List.take_zero, List.drop_succ_cons, List.drop_zero] at hF ⊢
  iterate 4 (refine held_q rfl rfl ?_; apply Exists.intro; refine ⟨fun w' hw' => ?_, ?_⟩; (go_simp; rfl); simp only [Act.put, List.setIfInBounds_toArray, List.set_cons_zero, List.set_cons_succ, Nat.reduceAdd])
  (refine held_load rfl rfl 54 _ rfl ⟨d, 1, none⟩ rfl wv _ (fun w' hw' => hw'.1) Try.underlying54 rfl ?_; simp only [Act.put, List.setIfInBounds_toArray, List.set_cons_zero, List.set_cons_succ, Nat.reduceAdd])
  iterate 2 (refine held_q rfl rfl ?_; apply Exists.intro; refine ⟨fun w' hw' => ?_, ?_⟩; (go_simp; rfl); simp only [Act.put, List.setIfInBounds_toArray, List.set_cons_zero, List.set_cons_succ, Nat.reduceAdd])
  iterate 1 (refine held_q rfl rfl ?_; apply Exists.intro; refine ⟨fun w' hw' => ?_, ?_⟩; (go_simp; rfl); simp only [Act.put, List.setIfInBounds_toArray, List.set_cons_zero, List.set_cons_succ, Nat.reduceAdd])
  (refine held_row rfl rfl 151 _ rfl gb ob rfl (bvs x) _ (fun w' hw' => hw'.2) Try.underlying151 rfl (by rw [HX.out]; exact s151) ?_; simp only [Act.put, List.setIfInBounds_toArray, List.set_cons_zero, List.set_cons_succ, Nat.reduceAdd])
  (refine held_build rfl rfl 153 _ rfl #[(0, .int .i64 (i : Int)), (1, .agg (bvs x).toArray)] (by simp [Act.eval]) _ hbw ?_; simp only [Act.put, List.setIfInBounds_toArray, List.set_cons_zero, List.set_cons_succ, Nat.reduceAdd])
  refine held_loud rfl rfl (fun K hK => ?_)
  refine wp_buildSlice 54 1 _ rfl #[(0, .agg (waitCells (i, x)).toArray)] (by simp [Act.eval, waitCells]) _ _ (run_buildSlice_one 54 153 _ 129 136 Try.underlying54 info153 (by simp) (by omega) (by omega) (.agg (waitCells (i, x)).toArray) ?_ _) (hK _ _ ?_ ?_)
  · simp [Value.cells, waitCells_length (i, x) hx']
  · exact ⟨(((Fr.refl nob w).drew.alloc _).cell (p := ⟨d, 1, none⟩) hdlt (fun h => h)).trans hc1, (World.rangeAt_alloc ((World.rangeAt_drew _ _ _ _).2 hr) _)⟩
  clear hK K
  simp only [Act.put, List.setIfInBounds_toArray, List.set_cons_zero, List.set_cons_succ, Nat.reduceAdd]
  refine held_loud rfl rfl (fun K hK => ?_)
  refine wp_append_lies _ _ _ 54 rfl base 153 i0 z 129 136 Try.underlying54 hi0 hz0 hz1 hz2 ?_ (by omega) wv s.waits.length (s.waits.flatMap waitCells) rfl ?_ ⟨w.heap.size, 0, none⟩ 1 1 (waitCells (i, x)) rfl ?_ ?_ (waitCells_one _) (by omega) (by unfold maxLen; omega) (by omega) ?_ _ rfl ?_
  · rw [← Array.length_toList, hzl]; simp
  · exact (Fr.own h.hw ((Fr.refl nob w).drew.alloc _) (fun _ _ h => h))
  · simp [waitCells_length (i, x) hx']
  · exact World.news_of_block (B := w.heap.size) (Blk.new w.drew 153 _)
  · have := h.bd; simp; omega
  intro g cap2 w2 hown hgrow hat hlt
  have hfr : Fr (dfoot d bl wv) w w2 := ((Fr.refl _ w).drew.alloc _).grown hgrow (fun k hk => .inl (.inr (.inr hk)))
  have hnd : wv.ownBlock ≠ some d := own_ne h.hw h.hd (by decide)
  have hnl : wv.ownBlock ≠ some bl := own_ne h.hw h.hl (by decide)
  have hfr1 : Fr (fun k => wv.ownBlock = some k) w w2 := ((Fr.refl _ w).drew.alloc _).grown hgrow (fun k hk => .inl hk)
  have hd2 := h.hd.fr hfr1 hnd
  have hl2 := h.hl.fr hfr1 hnl
  have hk1 := hd2.cell 1
  have hk2 := hd2.cell 2
  have hf1 := hd2.frozen 1
  have hf2 := hd2.frozen 2
  simp at hk1 hk2
  refine hK _ _ ⟨hk1, fun j v hv => ?_⟩ ?_
  · have h1 := hr j v hv
    exact (hfr1.cell (World.block_lt_of_cell? w _ h1) hgb).trans h1
  clear hK K
  simp only [Act.put, List.setIfInBounds_toArray, List.set_cons_zero, List.set_cons_succ, Nat.reduceAdd]
  refine held_nil (hF _ _ ?_)
  clear hF F
  have hc2 : ∀ V, (w2.setCell ⟨d, 1, none⟩ V).cell? ⟨d, 2, none⟩ = some (.int .i64 (s.writes : Int)) := fun V => by rw [World.cell?_setCell_other _ _ _ _ (by simp)]; exact hk2
  have hf3 : ∀ V, (w2.setCell ⟨d, 1, none⟩ V).frozen? ⟨d, 2, none⟩ = false := fun V => by rw [World.frozen?_setCell]; exact hf2
  go_wp2_with (go_at_call 83; refine (add_any d 2 (s.writes : Int) 1 _ (hc2 _) (hf3 _) (by omega) (by omega) (by omega)).mono ?_; rintro e w' ⟨rfl, rfl⟩)
  go_ret
  refine ⟨rfl, .slice (some ⟨g, 0, none⟩) (s.waits.length + 1) cap2, ⟨⟨h.ok.sec, ?_, hnum, ?_⟩, ?_, ?_, ?_, h.bd, h.bb⟩, ?_, ?_⟩
  · intro p hp
    simp only [DSt.write, List.mem_append, List.mem_singleton] at hp
    rcases hp with hp | rfl
    · exact h.ok.wat p hp
    · exact ⟨hi, hx'⟩
  · have := h.ok.cnt
    simp only [DSt.write, List.length_append, List.length_cons, List.length_nil]
    omega
  · have := (hd2.set_ 1 (.slice (some ⟨g, 0, none⟩) (s.waits.length + 1) cap2)).set_ 2 (.int .i64 ((s.writes : Int) + 1))
    simpa [DSt.write] using this
  · have hdl := h.nodb
    exact (hl2.far (p := ⟨d, 1, none⟩) (Ne.symm hdl) _).far (p := ⟨d, 2, none⟩) (Ne.symm hdl) _
  · have hgd : g ≠ d := by
      rintro rfl
      have := own_ne hown hd2 (by decide)
      simp [Value.ownBlock] at this
    have h1 := Fr.own hown (((Fr.refl (fun k => k = d) w2).setCell (p := ⟨d, 1, none⟩) (.inl rfl) (.slice (some ⟨g, 0, none⟩) (s.waits.length + 1) cap2)).setCell (p := ⟨d, 2, none⟩) (.inl rfl) (.int .i64 ((s.writes : Int) + 1))) (fun k hk => by
      simp [Value.ownBlock] at hk; omega)
    simpa [DSt.write] using h1
  · exact (hfr.setCell (p := ⟨d, 1, none⟩) (.inl (.inl rfl)) _).setCell (p := ⟨d, 2, none⟩) (.inl (.inl rfl)) _
  · intro k hk
    have hk' : g = k := by simpa [Value.ownBlock] using hk
    subst hk'
    rcases hat with h1 | h1
    · exact .inl h1
    · right; rw [h1]; simp


/-- a slice's block is none of the disk's. -/
def Sep (w : World) (base bl : Nat) (A : Option Addr) (n : Nat) : Prop := ∀ a, A = some a → 0 < n → a.block < base ∨ ∃ t cs mk, w.heap[a.block]? = some (.cells cs t mk) ∧ t ≠ 61 ∧ t ≠ 153 ∧ (t ≠ 151 ∨ a.block ≠ bl)
theorem cells_ne {w : World} {g g' : Nat} {t t' : TypeId} {cs cs' : Array Value} {mk mk'} (h : w.heap[g]? = some (.cells cs t mk)) (h' : w.heap[g']? = some (.cells cs' t' mk')) (hne : t ≠ t') : g ≠ g' := by
  rintro rfl
  rw [h] at h'
  injection h' with h'
  injection h' with _ ht
  exact hne ht
theorem DiskAt.offM {w : World} {base d bl : Nat} {wv : Value} {s : DSt} (h : DiskAt w base d bl wv s) {k : Nat} {t : TypeId} {cs : Array Value} {mk} (hk : w.heap[k]? = some (.cells cs t mk)) (h1 : t ≠ 61) (h2 : t ≠ 153) (h3 : t ≠ 151 ∨ k ≠ bl) : ¬ dfoot d bl wv k := by
  rintro (rfl | rfl | h4)
  · exact cells_ne hk h.hd h1 rfl
  · rcases h3 with h3 | h3
    · exact cells_ne hk h.hl h3 rfl
    · exact h3 rfl
  · obtain ⟨cs', hb⟩ := own_blk h.hw h4
    exact cells_ne hk hb h2 rfl
theorem Sep.off {w : World} {base d bl : Nat} {wv : Value} {s : DSt} {A : Option Addr} {n : Nat} (h : Sep w base bl A n) (hd : DiskAt w base d bl wv s) (a : Addr) (ha : A = some a) (hn : 0 < n) : ¬ dfoot d bl wv a.block := by
  rcases h a ha hn with h1 | ⟨t, cs, mk, hb, h1, h2, h3⟩
  · intro hk
    have := (hd.low _ hk).1
    omega
  · exact hd.offM hb h1 h2 h3
theorem heap_lt {w : World} {g : Nat} {o : Obj} (h : w.heap[g]? = some o) : g < w.heap.size := by
  rcases Nat.lt_or_ge g w.heap.size with hlt | hge
  · exact hlt
  · rw [Array.getElem?_eq_none hge] at h; cases h
theorem Sep.fr {w w' : World} {S : Nat → Prop} {base bl : Nat} {A : Option Addr} {n : Nat} (h : Sep w base bl A n) (hf : Fr S w w') (hS : ∀ a, A = some a → 0 < n → ¬ S a.block) : Sep w' base bl A n := fun a ha hn => by
  rcases h a ha hn with h1 | ⟨t, cs, mk, hb, h1⟩
  · exact .inl h1
  · exact .inr ⟨t, cs, mk, (hf.block _ (heap_lt hb) (hS a ha hn)).trans hb, h1⟩
theorem Sep.nil (w : World) (base bl : Nat) (A : Option Addr) : Sep w base bl A 0 := fun _ _ h => absurd h (by omega)
theorem Sep.below {w w' : World} {base bl : Nat} {A : Option Addr} {n : Nat} (h : Sep w base bl A n) (hb : Below w.heap.size w w') : Sep w' base bl A n := fun a ha hn => by
  rcases h a ha hn with h1 | ⟨t, cs, mk, hk, h1⟩
  · exact .inl h1
  · exact .inr ⟨t, cs, mk, (hb.block _ (heap_lt hk)).trans hk, h1⟩
theorem Sep.low {w : World} {base bl : Nat} {A : Option Addr} {n : Nat} {xs : List Value} (h : SlAt w A n xs) (hb : w.heap.size ≤ base) (w' : World) : Sep w' base bl A n := fun a ha hn => .inl (by have := h.lt a ha hn; omega)
/-- a piece of it. -/
theorem Sep.drop {w : World} {base bl : Nat} {g o n : Nat} {A' : Option Addr} {n' : Nat} (h : Sep w base bl (some ⟨g, o, none⟩) n) (hA : ∀ a, A' = some a → a.block = g) (hn : 0 < n' → 0 < n) : Sep w base bl A' n' := fun a ha hn' => by
  have e := hA a ha
  rw [e]
  exact h ⟨g, o, none⟩ rfl (hn hn')
/-- behind a change of a disk's blocks alone. -/
theorem dfoot_later {w : World} {d bl : Nat} {wv wv' : Value} (h : ∀ k, wv'.ownBlock = some k → wv.ownBlock = some k ∨ w.heap.size ≤ k) : ∀ k, dfoot d bl wv' k → dfoot d bl wv k ∨ w.heap.size ≤ k := by
  rintro k (rfl | rfl | h4)
  · exact .inl (.inl rfl)
  · exact .inl (.inr (.inl rfl))
  · rcases h k h4 with h1 | h1
    · exact .inl (.inr (.inr h1))
    · exact .inr h1
end Go.Proofs.Ytnnhklembdaieaa
