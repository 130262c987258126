/- The document's disk: Write. -/
import Derived.Test.YtnnhklembdaieaaRefA
import Derived.Test.YtnnhklembdaieaaHoldT
namespace Go.Proofs.Ytnnhklembdaieaa
open Go.RowKit
set_option linter.unusedSimpArgs false
set_option linter.unusedVariables false

theorem refWrite_bad (w : World) (base x : Nat) (lv av tv : Value) (s : DSt) (h : RefAt w base x lv av tv s) (i : Int) (hi : ¬ (0 ≤ i ∧ i < s.l.length)) (b : Value) :
    Calls Try.prog 30 #[.pointer (some ⟨x, 0, none⟩), .int .i64 i, b] w fun e w' => e = .returned (.int .i64 1) ∧ w = w' := by
  obtain ⟨LA, lcap, rfl, hlc, hlm, hLA⟩ := own_shape h.hl
  have hc0 := h.hx.cell 0
  simp at hc0
  have hnum := h.ok.num
  obtain ⟨n, hn⟩ : ∃ n, s.l.length = n := ⟨_, rfl⟩
  rw [hn] at hc0 hnum hi
  clear hn
  by_cases h0 : i < 0
  · have h1 : decide (i < 0) = true := by simp [h0]
    go_enter Try.func30, Try.ntmps30
    go_wp2
    go_ret
    exact ⟨rfl, rfl⟩
  · have h1 : decide (i < 0) = false := by simp; omega
    have h2 : decide (i ≥ (n : Int)) = true := by simp; omega
    clear h0 hi
    go_enter Try.func30, Try.ntmps30
    go_wp2
    go_ret
    exact ⟨rfl, rfl⟩
theorem refWrite_form (w : World) (base x : Nat) (lv av tv : Value) (s : DSt) (h : RefAt w base x lv av tv s) (i : Int) (hi : 0 ≤ i ∧ i < s.l.length) (A : Option Addr) (m c : Nat) (hm : m ≠ 128) (hm2 : m ≤ 9223372036854775807) :
    Calls Try.prog 30 #[.pointer (some ⟨x, 0, none⟩), .int .i64 i, .slice A m c] w fun e w' => e = .returned (.int .i64 3) ∧ w = w' := by
  obtain ⟨LA, lcap, rfl, hlc, hlm, hLA⟩ := own_shape h.hl
  have hc0 := h.hx.cell 0
  simp at hc0
  have hnum := h.ok.num
  obtain ⟨n, hn⟩ : ∃ n, s.l.length = n := ⟨_, rfl⟩
  rw [hn] at hc0 hnum hi
  clear hn
  have h1 : ((m : Int) != 128) = true := by rw [bne_iff_ne]; omega
  have h0 : ¬ i < 0 := by omega
  have h2 : ¬ i ≥ (n : Int) := by omega
  clear hi hm
  go_enter Try.func30, Try.ntmps30
  go_wp2
  go_ret
  exact ⟨rfl, rfl⟩

/-- what holds while the rows grow. -/
structure R2 (S : Nat → Prop) (w0 w : World) (base x gb ob : Nat) (bytes : List Value) (cs : Array Value) (lv va vt : Value) (nl na nt : Nat) (xl xa xt : List Value) : Prop where
  fr : Fr S w0 w
  hx : Blk w x 52 cs
  hl : w.ownsRow base 9 1 lv nl xl
  ha : w.ownsRow base 3 1 va na xa
  ht : w.ownsRow base 9 1 vt nt xt
  ne : ∀ k, lv.ownBlock = some k → vt.ownBlock ≠ some k
  fa : ∀ k, va.ownBlock = some k → S k ∨ w0.heap.size ≤ k
  ft : ∀ k, vt.ownBlock = some k → S k ∨ w0.heap.size ≤ k
  hr : w.rangeAt gb ob bytes
  hg : gb < w.heap.size
  ga : va.ownBlock ≠ some gb
  gt : vt.ownBlock ≠ some gb
section
variable {S : Nat → Prop} {w0 w w' : World} {base x gb ob : Nat} {bytes : List Value} {cs : Array Value} {lv va vt : Value} {nl na nt : Nat} {xl xa xt : List Value}
theorem R2.alloc (h : R2 S w0 w base x gb ob bytes cs lv va vt nl na nt xl xa xt) (o : Obj) : R2 S w0 (w.alloc o) base x gb ob bytes cs lv va vt nl na nt xl xa xt :=
  ⟨h.fr.alloc o, h.hx.alloc o, h.hl.alloc o, h.ha.alloc o, h.ht.alloc o, h.ne, h.fa, h.ft, World.rangeAt_alloc h.hr o, by have := h.hg; simp; omega, h.ga, h.gt⟩
theorem own_own {w : World} {b1 b2 : Nat} {e1 e2 : TypeId} {s1 s2 n1 n2 : Nat} {v1 v2 : Value} {x1 x2 : List Value} (h1 : w.ownsRow b1 e1 s1 v1 n1 x1) (h2 : w.ownsRow b2 e2 s2 v2 n2 x2) (hne : e1 ≠ e2) : v1.ownBlock = none ∨ v1.ownBlock ≠ v2.ownBlock := by
  cases hv : v1.ownBlock with
  | none => exact .inl rfl
  | some k =>
    right
    intro e
    obtain ⟨c1, k1⟩ := own_blk h1 hv
    obtain ⟨c2, k2⟩ := own_blk h2 e.symm
    exact hne (k1.same_ k2).2
theorem R2.appA (h : R2 S w0 w base x gb ob bytes cs lv va vt nl na nt xl xa xt) {g cap m : Nat} {xs : List Value} (hown : w'.ownsRow base 3 1 (.slice (some ⟨g, 0, none⟩) m cap) m xs) (hgr : w.grownBy w' va.ownBlock) (hat : va.ownBlock = some g ∨ g = w.heap.size) :
    R2 S w0 w' base x gb ob bytes cs lv (.slice (some ⟨g, 0, none⟩) m cap) vt nl m nt xl xs xt := by
  have hsz := h.fr.size
  refine ⟨h.fr.grown hgr h.fa, h.hx.grown hgr (fun e => own_ne h.ha h.hx (by decide) e.symm), h.hl.kept hgr (own_own h.hl h.ha (by decide)), hown, h.ht.kept hgr (own_own h.ht h.ha (by decide)), h.ne, ?_, h.ft, ?_, ?_, ?_, h.gt⟩
  · intro k hk
    simp [Value.ownBlock] at hk
    subst hk
    rcases hat with h1 | h1
    · exact h.fa _ h1
    · right; omega
  · intro j v hv
    have := h.hr j v hv
    exact (World.cell?_of_block (w := w) (hgr.block gb h.hg (fun e => h.ga e.symm))).trans this
  · have := hgr.size; have := h.hg; omega
  · simp only [Value.ownBlock, ne_eq, Option.some.injEq]
    rintro rfl
    rcases hat with h1 | h1
    · exact h.ga h1
    · have := h.hg; omega
theorem R2.appT (h : R2 S w0 w base x gb ob bytes cs lv va vt nl na nt xl xa xt) {g cap m : Nat} {xs : List Value} (hown : w'.ownsRow base 9 1 (.slice (some ⟨g, 0, none⟩) m cap) m xs) (hgr : w.grownBy w' vt.ownBlock) (hat : vt.ownBlock = some g ∨ g = w.heap.size) :
    R2 S w0 w' base x gb ob bytes cs lv va (.slice (some ⟨g, 0, none⟩) m cap) nl na m xl xa xs := by
  have hsz := h.fr.size
  have hlt : lv.ownBlock = none ∨ lv.ownBlock ≠ vt.ownBlock := by
    cases hv : lv.ownBlock with
    | none => exact .inl rfl
    | some k => exact .inr (fun e => h.ne k hv e.symm)
  refine ⟨h.fr.grown hgr h.ft, h.hx.grown hgr (fun e => own_ne h.ht h.hx (by decide) e.symm), h.hl.kept hgr hlt, h.ha.kept hgr (own_own h.ha h.ht (by decide)), hown, ?_, h.fa, ?_, ?_, ?_, h.ga, ?_⟩
  · intro k hk
    simp only [Value.ownBlock, ne_eq, Option.some.injEq]
    rintro rfl
    rcases hat with h1 | h1
    · exact h.ne _ hk h1
    · have := (h.hl.lt _ hk).2; omega
  · intro k hk
    simp [Value.ownBlock] at hk
    subst hk
    rcases hat with h1 | h1
    · exact h.ft _ h1
    · right; omega
  · intro j v hv
    have := h.hr j v hv
    exact (World.cell?_of_block (w := w) (hgr.block gb h.hg (fun e => h.gt e.symm))).trans this
  · have := hgr.size; have := h.hg; omega
  · simp only [Value.ownBlock, ne_eq, Option.some.injEq]
    rintro rfl
    rcases hat with h1 | h1
    · exact h.gt h1
    · have := h.hg; omega
theorem R2.S_ (h : R2 S w0 w base x gb ob bytes cs lv va vt nl na nt xl xa xt) {u1 u2 : Value} (e1 : cs[1]? = some u1) (e2 : cs[2]? = some u2) : w.cell? ⟨x, 1, none⟩ = some u1 ∧ w.cell? ⟨x, 2, none⟩ = some u2 ∧ w.rangeAt gb ob bytes ∧ gb < w.heap.size :=
  ⟨(h.hx.cell 1).trans e1, (h.hx.cell 2).trans e2, h.hr, h.hg⟩
end
theorem refWrite_end {w wN : World} {base x : Nat} {lv av tv : Value} {s : DSt} (h : RefAt w base x lv av tv s) {i : Nat} (hi : i < s.l.length) {t : List UInt8} (ht : t.length = 128) (hcnt : s.waits.length < 1000000000 ∧ s.writes < 1000000000000) {gb ob : Nat} {bytes : List Value} {gA capA gT capT : Nat}
    (q : R2 (rfoot x lv av tv) w wN base x gb ob bytes #[lv, av, tv, .int .i64 (s.writes : Int), .int .i64 (s.syncs : Int)] lv (.slice (some ⟨gA, 0, none⟩) (s.waits.length + 1) capA) (.slice (some ⟨gT, 0, none⟩) (s.waits.length + 1) capT) s.l.length (s.waits.length + 1) (s.waits.length + 1) (s.l.map strv) ((s.waits.map fun p => .int .i64 (p.1 : Int)) ++ [.int .i64 (i : Int)]) ((s.waits.map fun p => strv p.2) ++ [strv t])) :
    RefAt (((wN.setCell ⟨x, 1, none⟩ (.slice (some ⟨gA, 0, none⟩) (s.waits.length + 1) capA)).setCell ⟨x, 2, none⟩ (.slice (some ⟨gT, 0, none⟩) (s.waits.length + 1) capT)).setCell ⟨x, 3, none⟩ (.int .i64 ((s.writes : Int) + 1))) base x lv (.slice (some ⟨gA, 0, none⟩) (s.waits.length + 1) capA) (.slice (some ⟨gT, 0, none⟩) (s.waits.length + 1) capT) (s.write i t) ∧
    Fr (rfoot x lv av tv) w (((wN.setCell ⟨x, 1, none⟩ (.slice (some ⟨gA, 0, none⟩) (s.waits.length + 1) capA)).setCell ⟨x, 2, none⟩ (.slice (some ⟨gT, 0, none⟩) (s.waits.length + 1) capT)).setCell ⟨x, 3, none⟩ (.int .i64 ((s.writes : Int) + 1))) := by
  have hF : ∀ (S : Nat → Prop) (w0 : World), Fr S w0 wN → S x → Fr S w0 (((wN.setCell ⟨x, 1, none⟩ (.slice (some ⟨gA, 0, none⟩) (s.waits.length + 1) capA)).setCell ⟨x, 2, none⟩ (.slice (some ⟨gT, 0, none⟩) (s.waits.length + 1) capT)).setCell ⟨x, 3, none⟩ (.int .i64 ((s.writes : Int) + 1))) := fun S w0 hf hx =>
    ((hf.setCell (p := ⟨x, 1, none⟩) (.inl hx) _).setCell (p := ⟨x, 2, none⟩) (.inl hx) _).setCell (p := ⟨x, 3, none⟩) (.inl hx) _
  have h1 := hF (fun k => k = x) wN (Fr.refl _ _) rfl
  refine ⟨⟨⟨h.ok.sec, ?_, h.ok.num, ?_⟩, ?_, ?_, ?_, ?_, q.ne, h.bx⟩, hF _ _ q.fr (.inl rfl)⟩
  · intro p hp
    simp only [DSt.write, List.mem_append, List.mem_singleton] at hp
    rcases hp with hp | rfl
    · exact h.ok.wat p hp
    · exact ⟨hi, ht⟩
  · have := h.ok.cnt
    simp only [DSt.write, List.length_append, List.length_cons, List.length_nil]
    omega
  · have := ((q.hx.set_ 1 (.slice (some ⟨gA, 0, none⟩) (s.waits.length + 1) capA)).set_ 2 (.slice (some ⟨gT, 0, none⟩) (s.waits.length + 1) capT)).set_ 3 (.int .i64 ((s.writes : Int) + 1))
    simpa [DSt.write] using this
  · exact Fr.own q.hl h1 (fun k hk e => own_ne q.hl q.hx (by decide) (e ▸ hk))
  · have := Fr.own q.ha h1 (fun k hk e => own_ne q.ha q.hx (by decide) (e ▸ hk))
    simpa [DSt.write] using this
  · have := Fr.own q.ht h1 (fun k hk e => own_ne q.ht q.hx (by decide) (e ▸ hk))
    simpa [DSt.write] using this
theorem info3' : (Try.prog.info? 3).map (fun i => (i.size, i.bytes, i.zero.map (·.cells.toList))) = some (1, 8, some [.int .i64 0]) := by kernel_rfl

set_option maxRecDepth 100000 in
set_option maxHeartbeats 800000 in
theorem refWrite_ok (w : World) (base x : Nat) (lv av tv : Value) (s : DSt) (h : RefAt w base x lv av tv s) (i : Nat) (hi : i < s.l.length) (gb ob cap : Nat) (t : List UInt8) (ht : t.length = 128) (hr : w.rangeAt gb ob (bvs t))
    (hg1 : av.ownBlock ≠ some gb) (hg2 : tv.ownBlock ≠ some gb) (hcnt : s.waits.length < 1000000000 ∧ s.writes < 1000000000000) :
    Calls Try.prog 30 #[.pointer (some ⟨x, 0, none⟩), .int .i64 (i : Int), .slice (some ⟨gb, ob, none⟩) 128 cap] w fun e w' => e = .returned (.int .i64 0) ∧
      ∃ av' tv', RefAt w' base x lv av' tv' (s.write i t) ∧ Fr (rfoot x lv av tv) w w' := by
  have hnum := h.ok.num
  have hc1 := h.hx.cell 1
  have hc2 := h.hx.cell 2
  simp at hc1 hc2
  have hxl := h.hx.lt
  obtain ⟨i0, hi0, hz0, hs0, hb0⟩ := info_parts info9
  obtain ⟨i3, hi3, hz3, hs3, hb3⟩ := info_parts info3
  have hgl := World.block_lt_of_cell? w ⟨gb, ob + 0, none⟩ (hr 0 _ (by rw [List.getElem?_eq_getElem (by rw [bvs_length]; omega)]))
  have hstr : ∀ w' : World, w'.rangeAt gb ob (bvs t) → gb < w'.heap.size → (convert 28 9 (.slice (some ⟨gb, ob, none⟩) 128 cap)).run Try.prog w' = .ok (strv t) w' := fun w' hr' hl' => run_str w' _ 128 cap t ⟨by rw [bvs_length]; exact ht, fun _ => ⟨gb, ob, rfl, hl', hr'⟩⟩
  have hc0' := h.hx.cell 0
  obtain ⟨LA, lcap, hlv, hlc, hlm, hLA⟩ := own_shape h.hl
  obtain ⟨n, hn⟩ : ∃ n, s.l.length = n := ⟨_, rfl⟩
  have hc0 : w.cell? ⟨x, 0, none⟩ = some (.slice LA n lcap) := by rw [← hn, ← hlv]; simpa using hc0'
  have h0 : ¬ (i : Int) < 0 := by omega
  have h2 : ¬ (i : Int) ≥ (n : Int) := by omega
  have HN := hide hn
  have HLV := hide hlv
  have HT := hide ht
  clear hn hlv hc0' ht
  go_enter Try.func30, Try.ntmps30
  go_wp2_with fail
  refine wp_region_tree1 1 _ (.pointer (some ⟨x, 0, none⟩)) 17 (fun w' => w'.cell? ⟨x, 1, none⟩ = some av ∧ w'.cell? ⟨x, 2, none⟩ = some tv ∧ w'.rangeAt gb ob (bvs t) ∧ gb < w'.heap.size) (fun i => i == 7 || i == 8 || i == 15 || i == 16)
    (pre [0, 2, 3, 4, 5, 6, 9, 10, 11, 12, 13, 14] (forks 7 8 15 16)) (by kernel_rfl) (by kernel_rfl) rfl (by kernel_rfl) (by kernel_rfl) (by omega) (fun _ _ _ h => h) (.inl ⟨rfl, fun _ => rfl⟩) ⟨hc1, hc2, hr, hgl⟩ (fun ops hops F hF => ?_)
  clear hops
  simp only [List.drop_succ_cons, List.drop_zero] at hF
  simp only [Act.put, List.setIfInBounds_toArray, List.set_cons_zero, List.set_cons_succ, Nat.reduceAdd]
  iterate 11 (refine tree_op rfl ?_; refine held_q rfl rfl ?_; apply Exists.intro; refine ⟨fun w' hw' => ?_, ?_⟩; (obtain ⟨q1, q2, q3, q4⟩ := hw'; go_simp; rfl); simp only [Act.put, List.setIfInBounds_toArray, List.set_cons_zero, List.set_cons_succ, Nat.reduceAdd]; refine held_nil ?_)
  refine tree_op rfl ?_
  refine held_q rfl rfl ⟨strv t, fun w' hw' => ?_, ?_⟩
  · obtain ⟨q1, q2, q3, q4⟩ := hw'
    go_simp
  simp only [Act.put, List.setIfInBounds_toArray, List.set_cons_zero, List.set_cons_succ, Nat.reduceAdd]
  refine held_nil ?_
  have q0 : R2 (rfoot x lv av tv) w w.drew base x gb ob (bvs t) #[lv, av, tv, .int .i64 (s.writes : Int), .int .i64 (s.syncs : Int)] lv av tv s.l.length s.waits.length s.waits.length (s.l.map strv) (s.waits.map fun p => .int .i64 (p.1 : Int)) (s.waits.map fun p => strv p.2) :=
    ⟨(Fr.refl _ w).drew, h.hx, h.hl, h.ha, h.ht, h.ne, fun k hk => .inl (.inr (.inr (.inl hk))), fun k hk => .inl (.inr (.inr (.inr hk))), hr, hgl, hg1, hg2⟩
  obtain ⟨wd, hwd⟩ : ∃ wd, wd = w.drew := ⟨_, rfl⟩
  rw [← hwd] at q0 ⊢
  clear hwd
  have bA : ∀ W, (Instr.buildSlice 48 1 #[(0, .int .i64 (i : Int))]).run Try.prog W = .ok (.slice (some ⟨W.heap.size, 0, none⟩) 1 1) (W.alloc (.cells #[.int .i64 (i : Int)] 3)) :=
    fun W => run_buildSlice_one 48 3 _ 1 8 Try.underlying48 info3' rfl (by omega) (by omega) (.int .i64 (i : Int)) rfl W
  have bT : ∀ W, (Instr.buildSlice 50 1 #[(0, strv t)]).run Try.prog W = .ok (.slice (some ⟨W.heap.size, 0, none⟩) 1 1) (W.alloc (.cells #[strv t] 9)) :=
    fun W => run_buildSlice_one 50 9 _ 1 16 Try.underlying50 info9' rfl (by omega) (by omega) (strv t) rfl W
  refine tree_alt rfl rfl ?_ ?_
  · refine held_loud rfl rfl (fun K hK => ?_)
    refine wp_buildSlice 48 1 _ rfl #[(0, .int .i64 (i : Int))] (by simp [Act.eval]) _ _ (bA _) (hK _ _ ((q0.alloc _).S_ rfl rfl) ?_)
    clear hK K
    have q1 := q0.alloc (.cells #[.int .i64 (i : Int)] 3)
    have kA := Blk.new wd 3 #[.int .i64 (i : Int)]
    obtain ⟨w1, hw1⟩ : ∃ w1, w1 = wd.alloc (.cells #[.int .i64 (i : Int)] 3) := ⟨_, rfl⟩
    rw [← hw1] at q1 kA ⊢
    simp only [Act.put, List.setIfInBounds_toArray, List.set_cons_zero, List.set_cons_succ, Nat.reduceAdd]
    refine held_nil ?_
    refine tree_alt rfl rfl ?_ ?_
    · refine held_loud rfl rfl (fun K hK => ?_)
      refine wp_append_lies _ _ _ 48 rfl base 3 i3 _ 1 8 Try.underlying48 hi3 hz3 hs3 hb3 rfl (by omega) av s.waits.length _ rfl q1.ha ⟨_, 0, none⟩ 1 1 [.int .i64 (i : Int)] rfl rfl (World.news_of_block (B := _) kA) (by intro u hu; simp at hu; rw [hu]; rfl) (by omega) (by unfold maxLen; omega) (by omega) (by have := q1.fr.size; have := h.size; omega) _ rfl ?_
      intro gA capA w2 hownA hgrA hatA hlA
      have q2 := q1.appA hownA hgrA hatA
      refine hK _ _ (q2.S_ rfl rfl) ?_
      clear hK K
      simp only [Act.put, List.setIfInBounds_toArray, List.set_cons_zero, List.set_cons_succ, Nat.reduceAdd]
      refine held_nil ?_
      refine tree_op rfl ?_
      refine held_loud rfl rfl (fun K hK => ?_)
      refine wp_buildSlice 50 1 _ rfl #[(0, strv t)] (by simp [Act.eval]) _ _ (bT _) (hK _ _ ((q2.alloc _).S_ rfl rfl) ?_)
      clear hK K
      have q3 := q2.alloc (.cells #[strv t] 9)
      have kT := Blk.new w2 9 #[strv t]
      obtain ⟨w3, hw3⟩ : ∃ w3, w3 = w2.alloc (.cells #[strv t] 9) := ⟨_, rfl⟩
      rw [← hw3] at q3 kT ⊢
      simp only [Act.put, List.setIfInBounds_toArray, List.set_cons_zero, List.set_cons_succ, Nat.reduceAdd]
      refine held_nil ?_
      refine tree_op rfl ?_
      refine held_loud rfl rfl (fun K hK => ?_)
      refine wp_append_lies _ _ _ 50 rfl base 9 i0 _ 1 16 Try.underlying50 hi0 hz0 hs0 hb0 rfl (by omega) tv s.waits.length _ rfl q3.ht ⟨_, 0, none⟩ 1 1 [strv t] rfl rfl (World.news_of_block (B := _) kT) (by intro u hu; simp at hu; rw [hu]; rfl) (by omega) (by unfold maxLen; omega) (by omega) (by have := q3.fr.size; have := h.size; omega) _ rfl ?_
      intro gT capT w4 hownT hgrT hatT hlT
      have q4 := q3.appT hownT hgrT hatT
      refine hK _ _ (q4.S_ rfl rfl) ?_
      clear hK K
      simp only [Act.put, List.setIfInBounds_toArray, List.set_cons_zero, List.set_cons_succ, Nat.reduceAdd]
      refine held_nil (tree_leaf (hF _ _ ?_))
      clear hF F
      have hk3 : ∀ U V, ((w4.setCell ⟨x, 1, none⟩ U).setCell ⟨x, 2, none⟩ V).cell? ⟨x, 3, none⟩ = some (.int .i64 (s.writes : Int)) := fun U V => by
        rw [World.cell?_setCell_other _ _ _ _ (by simp), World.cell?_setCell_other _ _ _ _ (by simp)]; exact q4.hx.cell 3
      have hk1 : w4.cell? ⟨x, 1, none⟩ = some av := q4.hx.cell 1
      have hk2 : ∀ U, (w4.setCell ⟨x, 1, none⟩ U).cell? ⟨x, 2, none⟩ = some tv := fun U => by rw [World.cell?_setCell_other _ _ _ _ (by simp)]; exact q4.hx.cell 2
      have hf1 := q4.hx.frozen 1
      have hf2 : ∀ U, (w4.setCell ⟨x, 1, none⟩ U).frozen? ⟨x, 2, none⟩ = false := fun U => by rw [World.frozen?_setCell]; exact q4.hx.frozen 2
      have hf3 : ∀ U V, ((w4.setCell ⟨x, 1, none⟩ U).setCell ⟨x, 2, none⟩ V).frozen? ⟨x, 3, none⟩ = false := fun U V => by rw [World.frozen?_setCell, World.frozen?_setCell]; exact q4.hx.frozen 3
      go_wp2
      go_ret
      exact ⟨rfl, _, _, refWrite_end h hi HT.out hcnt q4⟩
    · refine held_loud rfl rfl (fun K hK => ?_)
      refine wp_buildSlice 50 1 _ rfl #[(0, strv t)] (by simp [Act.eval]) _ _ (bT _) (hK _ _ ((q1.alloc _).S_ rfl rfl) ?_)
      clear hK K
      have q2 := q1.alloc (.cells #[strv t] 9)
      have kT := Blk.new w1 9 #[strv t]
      obtain ⟨w2, hw2⟩ : ∃ w2, w2 = w1.alloc (.cells #[strv t] 9) := ⟨_, rfl⟩
      rw [← hw2] at q2 kT ⊢
      simp only [Act.put, List.setIfInBounds_toArray, List.set_cons_zero, List.set_cons_succ, Nat.reduceAdd]
      refine held_nil ?_
      have kA2 : Blk w2 wd.heap.size 3 #[.int .i64 (i : Int)] := by rw [hw2]; exact kA.alloc _
      refine tree_op rfl ?_
      refine held_loud rfl rfl (fun K hK => ?_)
      refine wp_append_lies _ _ _ 48 rfl base 3 i3 _ 1 8 Try.underlying48 hi3 hz3 hs3 hb3 rfl (by omega) av s.waits.length _ rfl q2.ha ⟨_, 0, none⟩ 1 1 [.int .i64 (i : Int)] rfl rfl (World.news_of_block (B := _) kA2) (by intro u hu; simp at hu; rw [hu]; rfl) (by omega) (by unfold maxLen; omega) (by omega) (by have := q2.fr.size; have := h.size; omega) _ rfl ?_
      intro gA capA w3 hownA hgrA hatA hlA
      have q3 := q2.appA hownA hgrA hatA
      refine hK _ _ (q3.S_ rfl rfl) ?_
      clear hK K
      simp only [Act.put, List.setIfInBounds_toArray, List.set_cons_zero, List.set_cons_succ, Nat.reduceAdd]
      refine held_nil ?_
      have kT2 := kT.grown hgrA (fun e => own_ne q2.ha kT (by decide) e.symm)
      refine tree_op rfl ?_
      refine held_loud rfl rfl (fun K hK => ?_)
      refine wp_append_lies _ _ _ 50 rfl base 9 i0 _ 1 16 Try.underlying50 hi0 hz0 hs0 hb0 rfl (by omega) tv s.waits.length _ rfl q3.ht ⟨_, 0, none⟩ 1 1 [strv t] rfl rfl (World.news_of_block (B := _) kT2) (by intro u hu; simp at hu; rw [hu]; rfl) (by omega) (by unfold maxLen; omega) (by omega) (by have := q3.fr.size; have := h.size; omega) _ rfl ?_
      intro gT capT w4 hownT hgrT hatT hlT
      have q4 := q3.appT hownT hgrT hatT
      refine hK _ _ (q4.S_ rfl rfl) ?_
      clear hK K
      simp only [Act.put, List.setIfInBounds_toArray, List.set_cons_zero, List.set_cons_succ, Nat.reduceAdd]
      refine held_nil (tree_leaf (hF _ _ ?_))
      clear hF F
      have hk3 : ∀ U V, ((w4.setCell ⟨x, 1, none⟩ U).setCell ⟨x, 2, none⟩ V).cell? ⟨x, 3, none⟩ = some (.int .i64 (s.writes : Int)) := fun U V => by
        rw [World.cell?_setCell_other _ _ _ _ (by simp), World.cell?_setCell_other _ _ _ _ (by simp)]; exact q4.hx.cell 3
      have hk1 : w4.cell? ⟨x, 1, none⟩ = some av := q4.hx.cell 1
      have hk2 : ∀ U, (w4.setCell ⟨x, 1, none⟩ U).cell? ⟨x, 2, none⟩ = some tv := fun U => by rw [World.cell?_setCell_other _ _ _ _ (by simp)]; exact q4.hx.cell 2
      have hf1 := q4.hx.frozen 1
      have hf2 : ∀ U, (w4.setCell ⟨x, 1, none⟩ U).frozen? ⟨x, 2, none⟩ = false := fun U => by rw [World.frozen?_setCell]; exact q4.hx.frozen 2
      have hf3 : ∀ U V, ((w4.setCell ⟨x, 1, none⟩ U).setCell ⟨x, 2, none⟩ V).frozen? ⟨x, 3, none⟩ = false := fun U V => by rw [World.frozen?_setCell, World.frozen?_setCell]; exact q4.hx.frozen 3
      go_wp2
      go_ret
      exact ⟨rfl, _, _, refWrite_end h hi HT.out hcnt q4⟩
  · refine held_loud rfl rfl (fun K hK => ?_)
    refine wp_buildSlice 50 1 _ rfl #[(0, strv t)] (by simp [Act.eval]) _ _ (bT _) (hK _ _ ((q0.alloc _).S_ rfl rfl) ?_)
    clear hK K
    have q1 := q0.alloc (.cells #[strv t] 9)
    have kT := Blk.new wd 9 #[strv t]
    obtain ⟨w1, hw1⟩ : ∃ w1, w1 = wd.alloc (.cells #[strv t] 9) := ⟨_, rfl⟩
    rw [← hw1] at q1 kT ⊢
    simp only [Act.put, List.setIfInBounds_toArray, List.set_cons_zero, List.set_cons_succ, Nat.reduceAdd]
    refine held_nil ?_
    refine tree_op rfl ?_
    refine held_loud rfl rfl (fun K hK => ?_)
    refine wp_buildSlice 48 1 _ rfl #[(0, .int .i64 (i : Int))] (by simp [Act.eval]) _ _ (bA _) (hK _ _ ((q1.alloc _).S_ rfl rfl) ?_)
    clear hK K
    have q2 := q1.alloc (.cells #[.int .i64 (i : Int)] 3)
    have kA := Blk.new w1 3 #[.int .i64 (i : Int)]
    obtain ⟨w2, hw2⟩ : ∃ w2, w2 = w1.alloc (.cells #[.int .i64 (i : Int)] 3) := ⟨_, rfl⟩
    rw [← hw2] at q2 kA ⊢
    simp only [Act.put, List.setIfInBounds_toArray, List.set_cons_zero, List.set_cons_succ, Nat.reduceAdd]
    refine held_nil ?_
    refine tree_op rfl ?_
    refine held_loud rfl rfl (fun K hK => ?_)
    refine wp_append_lies _ _ _ 48 rfl base 3 i3 _ 1 8 Try.underlying48 hi3 hz3 hs3 hb3 rfl (by omega) av s.waits.length _ rfl q2.ha ⟨_, 0, none⟩ 1 1 [.int .i64 (i : Int)] rfl rfl (World.news_of_block (B := _) kA) (by intro u hu; simp at hu; rw [hu]; rfl) (by omega) (by unfold maxLen; omega) (by omega) (by have := q2.fr.size; have := h.size; omega) _ rfl ?_
    intro gA capA w3 hownA hgrA hatA hlA
    have q3 := q2.appA hownA hgrA hatA
    refine hK _ _ (q3.S_ rfl rfl) ?_
    clear hK K
    simp only [Act.put, List.setIfInBounds_toArray, List.set_cons_zero, List.set_cons_succ, Nat.reduceAdd]
    refine held_nil ?_
    have kT1 : Blk w2 wd.heap.size 9 #[strv t] := by rw [hw2]; exact kT.alloc _
    have kT2 := kT1.grown hgrA (fun e => own_ne q2.ha kT1 (by decide) e.symm)
    refine tree_op rfl ?_
    refine held_loud rfl rfl (fun K hK => ?_)
    refine wp_append_lies _ _ _ 50 rfl base 9 i0 _ 1 16 Try.underlying50 hi0 hz0 hs0 hb0 rfl (by omega) tv s.waits.length _ rfl q3.ht ⟨_, 0, none⟩ 1 1 [strv t] rfl rfl (World.news_of_block (B := _) kT2) (by intro u hu; simp at hu; rw [hu]; rfl) (by omega) (by unfold maxLen; omega) (by omega) (by have := q3.fr.size; have := h.size; omega) _ rfl ?_
    intro gT capT w4 hownT hgrT hatT hlT
    have q4 := q3.appT hownT hgrT hatT
    refine hK _ _ (q4.S_ rfl rfl) ?_
    clear hK K
    simp only [Act.put, List.setIfInBounds_toArray, List.set_cons_zero, List.set_cons_succ, Nat.reduceAdd]
    refine held_nil (tree_leaf (hF _ _ ?_))
    clear hF F
    have hk3 : ∀ U V, ((w4.setCell ⟨x, 1, none⟩ U).setCell ⟨x, 2, none⟩ V).cell? ⟨x, 3, none⟩ = some (.int .i64 (s.writes : Int)) := fun U V => by
      rw [World.cell?_setCell_other _ _ _ _ (by simp), World.cell?_setCell_other _ _ _ _ (by simp)]; exact q4.hx.cell 3
    have hk1 : w4.cell? ⟨x, 1, none⟩ = some av := q4.hx.cell 1
    have hk2 : ∀ U, (w4.setCell ⟨x, 1, none⟩ U).cell? ⟨x, 2, none⟩ = some tv := fun U => by rw [World.cell?_setCell_other _ _ _ _ (by simp)]; exact q4.hx.cell 2
    have hf1 := q4.hx.frozen 1
    have hf2 : ∀ U, (w4.setCell ⟨x, 1, none⟩ U).frozen? ⟨x, 2, none⟩ = false := fun U => by rw [World.frozen?_setCell]; exact q4.hx.frozen 2
    have hf3 : ∀ U V, ((w4.setCell ⟨x, 1, none⟩ U).setCell ⟨x, 2, none⟩ V).frozen? ⟨x, 3, none⟩ = false := fun U V => by rw [World.frozen?_setCell, World.frozen?_setCell]; exact q4.hx.frozen 3
    go_wp2
    go_ret
    exact ⟨rfl, _, _, refWrite_end h hi HT.out hcnt q4⟩
end Go.Proofs.Ytnnhklembdaieaa
