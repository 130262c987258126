/- The disk: Write. -/
import Derived.Test.YtnnhklembdaieaaDiskB
import Derived.Test.YtnnhklembdaieaaHold
namespace Go.Proofs.Ytnnhklembdaieaa
open Go.RowKit

theorem write_bad (b : Nat) (i : Int) (ao : Option Addr) (n c : Nat) (bs : Value) (w : World) (hc : w.cell? ⟨b, 0, none⟩ = some (.slice ao n c)) (hn : 0 < n) (hn2 : n ≤ 4096) (hi : ¬ (0 ≤ i ∧ i < n)) :
    Calls Try.prog 24 #[.pointer (some ⟨b, 0, none⟩), .int .i64 i, bs] w fun e w' => e = .returned (.int .i64 1) ∧ w = w' := by
  have ha := ask_any b i ao n c w hc hn hn2
  rw [if_neg hi] at ha
  clear hi
  go_enter Try.func24, Try.ntmps24
  go_wp2_with (go_at_call 82; refine (ha).mono ?_; rintro e w' ⟨rfl, rfl⟩)
  go_ret
  exact ⟨rfl, rfl⟩
theorem write_nil (i : Int) (bs : Value) (w : World) : Calls Try.prog 24 #[.pointer none, .int .i64 i, bs] w fun e w' => e = .returned (.int .i64 6) ∧ w = w' := by
  go_enter Try.func24, Try.ntmps24
  go_wp2_with (go_at_call 82; refine (ask_nil _ _).mono ?_; rintro e w' ⟨rfl, rfl⟩)
  go_ret
  exact ⟨rfl, rfl⟩
theorem write_zero (b : Nat) (i : Int) (ao : Option Addr) (c : Nat) (bs : Value) (w : World) (hc : w.cell? ⟨b, 0, none⟩ = some (.slice ao 0 c)) : Calls Try.prog 24 #[.pointer (some ⟨b, 0, none⟩), .int .i64 i, bs] w fun e w' => e = .returned (.int .i64 6) ∧ w = w' := by
  go_enter Try.func24, Try.ntmps24
  go_wp2_with (go_at_call 82; refine (ask_zero _ _ _ _ _ hc).mono ?_; rintro e w' ⟨rfl, rfl⟩)
  go_ret
  exact ⟨rfl, rfl⟩
theorem write_form (b : Nat) (i : Int) (ao : Option Addr) (n c : Nat) (A : Option Addr) (m cap : Nat) (w : World) (hc : w.cell? ⟨b, 0, none⟩ = some (.slice ao n c)) (hn : 0 < n) (hn2 : n ≤ 4096) (hi : 0 ≤ i ∧ i < n) (hm : m ≠ 128) :
    Calls Try.prog 24 #[.pointer (some ⟨b, 0, none⟩), .int .i64 i, .slice A m cap] w fun e w' => e = .returned (.int .i64 3) ∧ w = w' := by
  have ha := ask_any b i ao n c w hc hn hn2
  rw [if_pos hi] at ha
  have h1 : ((m : Int) != 128) = true := by rw [bne_iff_ne]; omega
  clear hi hm
  go_enter Try.func24, Try.ntmps24
  go_wp2_with (go_at_call 82; refine (ha).mono ?_; rintro e w' ⟨rfl, rfl⟩)
  go_ret
  exact ⟨rfl, rfl⟩

def DSt.write (s : DSt) (i : Nat) (x : List UInt8) : DSt := { s with waits := s.waits ++ [(i, x)], writes := s.writes + 1 }

theorem info153' : (Try.prog.info? 153).map (fun i => (i.zero.isSome, i.size, i.bytes)) = some (true, 129, 136) := by kernel_rfl

set_option maxRecDepth 100000 in
set_option maxHeartbeats 400000 in
theorem write_ok (w : World) (base d bl : Nat) (wv : Value) (s : DSt) (h : DiskAt w base d bl wv s) (i : Nat) (hi : i < s.l.length) (gb ob cap : Nat) (x : List UInt8) (hx : x.length = 128) (hr : w.rangeAt gb ob (bvs x))
    (hgb : wv.ownBlock ≠ some gb) (hcnt : s.waits.length < 1000000000 ∧ s.writes < 1000000000000) :
    Calls Try.prog 24 #[.pointer (some ⟨d, 0, none⟩), .int .i64 (i : Int), .slice (some ⟨gb, ob, none⟩) 128 cap] w fun e w' => e = .returned (.int .i64 0) ∧
      ∃ wv', DiskAt w' base d bl wv' (s.write i x) ∧ Fr (dfoot d bl wv) w w' := by
  have hc0 := h.hd.cell 0
  have hc1 := h.hd.cell 1
  have hnum := h.ok.num
  simp at hc0 hc1
  have ha := ask_any d i _ _ _ w hc0 (by omega) hnum
  rw [if_pos (by omega)] at ha
  have hxl : (bvs x).length = 128 := by rw [bvs_length, hx]
  have harr := run_arrayAt (P := Try.prog) Try.underlying151 (some ⟨gb, ob, none⟩) 128 cap (by omega)
  have hbw := run_build_wait i x hx
  obtain ⟨i0, z, hi0, hz0, hzl, hz1, hz2⟩ := infoN info153
  have HX := hide hxl
  have hx' := hx
  have hdlt := h.hd.lt
  clear hxl hx
  go_enter Try.func24, Try.ntmps24
  go_wp2_with (go_at_call 82; refine (ha).mono ?_; rintro e w' ⟨rfl, rfl⟩)
  refine wp_region_held 12 (fun w' => w'.cell? ⟨d, 1, none⟩ = some wv ∧ w'.rangeAt gb ob (bvs x)) (fun i => i == 10 || i == 11) (by kernel_rfl) (by kernel_rfl) ⟨by simpa using hc1, by simpa using hr⟩ (fun ops hops F hF => ?_)
  clear hops
  simp only [List.take_succ_cons, List.take_zero, List.drop_succ_cons, List.drop_zero] at hF ⊢
  iterate 4 (refine held_q rfl rfl ?_; apply Exists.intro; refine ⟨fun w' hw' => ?_, ?_⟩; (go_simp; rfl); simp only [Act.put, List.setIfInBounds_toArray, List.set_cons_zero, List.set_cons_succ, Nat.reduceAdd])
  (refine held_load rfl rfl 54 _ rfl ⟨d, 1, none⟩ rfl wv _ (fun w' hw' => hw'.1) Try.underlying54 rfl ?_; simp only [Act.put, List.setIfInBounds_toArray, List.set_cons_zero, List.set_cons_succ, Nat.reduceAdd])
  iterate 2 (refine held_q rfl rfl ?_; apply Exists.intro; refine ⟨fun w' hw' => ?_, ?_⟩; (go_simp; rfl); simp only [Act.put, List.setIfInBounds_toArray, List.set_cons_zero, List.set_cons_succ, Nat.reduceAdd])
  iterate 1 (refine held_q rfl rfl ?_; apply Exists.intro; refine ⟨fun w' hw' => ?_, ?_⟩; (go_simp; rfl); simp only [Act.put, List.setIfInBounds_toArray, List.set_cons_zero, List.set_cons_succ, Nat.reduceAdd])
  (refine held_row rfl rfl 151 _ rfl gb ob rfl (bvs x) _ (fun w' hw' => hw'.2) Try.underlying151 rfl (by rw [HX.out]; exact s151) ?_; simp only [Act.put, List.setIfInBounds_toArray, List.set_cons_zero, List.set_cons_succ, Nat.reduceAdd])
  (refine held_build rfl rfl 153 _ rfl #[(0, .int .i64 (i : Int)), (1, .agg (bvs x).toArray)] (by simp [Act.eval]) _ hbw ?_; simp only [Act.put, List.setIfInBounds_toArray, List.set_cons_zero, List.set_cons_succ, Nat.reduceAdd])
  refine held_loud rfl rfl (fun K hK => ?_)
  refine wp_buildSlice 54 1 _ rfl #[(0, .agg (waitCells (i, x)).toArray)] (by simp [Act.eval, waitCells]) _ _ (run_buildSlice_one 54 153 _ 129 136 Try.underlying54 info153 (by simp) (by omega) (by omega) (.agg (waitCells (i, x)).toArray) ?_ _) (hK _ _ ?_ ?_)
  · simp [Value.cells, waitCells_length (i, x) hx']
  · exact ⟨(((Fr.refl nob w).drew.alloc _).cell (p := ⟨d, 1, none⟩) hdlt (fun h => h)).trans hc1, (World.rangeAt_alloc ((World.rangeAt_drew _ _ _ _).2 hr) _)⟩
  clear hK K
  simp only [Act.put, List.setIfInBounds_toArray, List.set_cons_zero, List.set_cons_succ, Nat.reduceAdd]
  refine held_loud rfl rfl (fun K hK => ?_)
  refine wp_append_lies _ _ _ 54 rfl base 153 i0 z 129 136 Try.underlying54 hi0 hz0 hz1 hz2 ?_ (by omega) wv s.waits.length (s.waits.flatMap waitCells) rfl ?_ ⟨w.heap.size, 0, none⟩ 1 1 (waitCells (i, x)) rfl ?_ ?_ (waitCells_one _) (by omega) (by unfold maxLen; omega) (by omega) ?_ _ rfl ?_
  · rw [← Array.length_toList, hzl]; simp
  · exact (Fr.own h.hw ((Fr.refl nob w).drew.alloc _) (fun _ _ h => h))
  · simp [waitCells_length (i, x) hx']
  · exact World.news_of_block (B := w.heap.size) (Blk.new w.drew 153 _)
  · have := h.bd; simp; omega
  intro g cap2 w2 hown hgrow hat hlt
  have hfr : Fr (dfoot d bl wv) w w2 := ((Fr.refl _ w).drew.alloc _).grown hgrow (fun k hk => .inl (.inr (.inr hk)))
  have hnd : wv.ownBlock ≠ some d := own_ne h.hw h.hd (by decide)
  have hnl : wv.ownBlock ≠ some bl := own_ne h.hw h.hl (by decide)
  have hfr1 : Fr (fun k => wv.ownBlock = some k) w w2 := ((Fr.refl _ w).drew.alloc _).grown hgrow (fun k hk => .inl hk)
  have hd2 := h.hd.fr hfr1 hnd
  have hl2 := h.hl.fr hfr1 hnl
  have hk1 := hd2.cell 1
  have hk2 := hd2.cell 2
  have hf1 := hd2.frozen 1
  have hf2 := hd2.frozen 2
  simp at hk1 hk2
  refine hK _ _ ⟨hk1, fun j v hv => ?_⟩ ?_
  · have h1 := hr j v hv
    exact (hfr1.cell (World.block_lt_of_cell? w _ h1) hgb).trans h1
  clear hK K
  simp only [Act.put, List.setIfInBounds_toArray, List.set_cons_zero, List.set_cons_succ, Nat.reduceAdd]
  refine held_nil (hF _ _ ?_)
  clear hF F
  have hc2 : ∀ V, (w2.setCell ⟨d, 1, none⟩ V).cell? ⟨d, 2, none⟩ = some (.int .i64 (s.writes : Int)) := fun V => by rw [World.cell?_setCell_other _ _ _ _ (by simp)]; exact hk2
  have hf3 : ∀ V, (w2.setCell ⟨d, 1, none⟩ V).frozen? ⟨d, 2, none⟩ = false := fun V => by rw [World.frozen?_setCell]; exact hf2
  go_wp2_with (go_at_call 83; refine (add_any d 2 (s.writes : Int) 1 _ (hc2 _) (hf3 _) (by omega) (by omega) (by omega)).mono ?_; rintro e w' ⟨rfl, rfl⟩)
  go_ret
  refine ⟨rfl, .slice (some ⟨g, 0, none⟩) (s.waits.length + 1) cap2, ⟨⟨h.ok.sec, ?_, hnum, ?_⟩, ?_, ?_, ?_, h.bd, h.bb⟩, ?_⟩
  · intro p hp
    simp only [DSt.write, List.mem_append, List.mem_singleton] at hp
    rcases hp with hp | rfl
    · exact h.ok.wat p hp
    · exact ⟨hi, hx'⟩
  · have := h.ok.cnt
    simp only [DSt.write, List.length_append, List.length_cons, List.length_nil]
    omega
  · have := (hd2.set_ 1 (.slice (some ⟨g, 0, none⟩) (s.waits.length + 1) cap2)).set_ 2 (.int .i64 ((s.writes : Int) + 1))
    simpa [DSt.write] using this
  · have hdl := h.nodb
    exact (hl2.far (p := ⟨d, 1, none⟩) (Ne.symm hdl) _).far (p := ⟨d, 2, none⟩) (Ne.symm hdl) _
  · have hgd : g ≠ d := by
      rintro rfl
      have := own_ne hown hd2 (by decide)
      simp [Value.ownBlock] at this
    have h1 := Fr.own hown (((Fr.refl (fun k => k = d) w2).setCell (p := ⟨d, 1, none⟩) (.inl rfl) (.slice (some ⟨g, 0, none⟩) (s.waits.length + 1) cap2)).setCell (p := ⟨d, 2, none⟩) (.inl rfl) (.int .i64 ((s.writes : Int) + 1))) (fun k hk => by
      simp [Value.ownBlock] at hk; omega)
    simpa [DSt.write] using h1
  · exact (hfr.setCell (p := ⟨d, 1, none⟩) (.inl (.inl rfl)) _).setCell (p := ⟨d, 2, none⟩) (.inl (.inl rfl)) _
end Go.Proofs.Ytnnhklembdaieaa
