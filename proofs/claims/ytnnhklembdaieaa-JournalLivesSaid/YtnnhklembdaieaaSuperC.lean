/- The super of a sector: Read. -/
import Derived.Test.YtnnhklembdaieaaSuperB
import Derived.Test.YtnnhklembdaieaaHoldT
namespace Go.Proofs.Ytnnhklembdaieaa
open Go.RowKit
set_option linter.unusedSimpArgs false
set_option linter.unusedVariables false

theorem sread_form (A : Option Addr) (n c : Nat) (hn : n ≠ 128) (w : World) : Calls Try.prog 74 #[.slice A n c] w fun e w' => e = .returned (.tuple #[superV SU.zero, .int .i64 3]) ∧ Below w.heap.size w w' := by
  have h0 : ((n : Int) != 128) = true := by rw [bne_iff_ne]; omega
  clear hn
  go_enter Try.func74, Try.ntmps74
  go_wp2
  exact bodyPost_ret (v := .tuple #[superV SU.zero, .int .i64 3]) (by simp [results, Try.results74, go_sem, superV, SU.zero]) rfl ⟨rfl, (Below.refl _ _).alloc (Nat.le_refl _) _⟩

/-- what Read answers. -/
def readRes (xs : List UInt8) : Value := match readS xs with | some s => .tuple #[superV s, .int .i64 0] | none => .tuple #[superV SU.zero, .int .i64 3]
theorem readRes_some {xs : List UInt8} {s : SU} (h : readS xs = some s) : readRes xs = .tuple #[superV s, .int .i64 0] := by unfold readRes; rw [h]
theorem readRes_none {xs : List UInt8} (h : readS xs = none) : readRes xs = .tuple #[superV SU.zero, .int .i64 3] := by unfold readRes; rw [h]
def readL : HT := .op 10 (.op 11 .leaf)
set_option maxRecDepth 100000 in
set_option maxHeartbeats 1600000 in
theorem sread_core (xs : List UInt8) (hxs : xs.length = 128) (gb ob c : Nat) (hc : 128 ≤ c) (w : World) (hgb : gb < w.heap.size) (hr : w.rangeAt gb ob (bvs xs)) 
    (hw : ∀ w', Below w.heap.size w w' → Calls Try.prog 73 #[superV (unsuper xs)] w' fun e w'' => (∃ A cap, e = .returned (.tuple #[.slice A 128 cap, .int .i64 0]) ∧ SlAt w'' A 128 (bvs (superBytes (unsuper xs))) ∧ (unsuper xs).right = true ∧ Below w'.heap.size w' w'') ∨ (e = .returned (.tuple #[.slice none 0 0, .int .i64 3]) ∧ (unsuper xs).right = false ∧ Below w'.heap.size w' w'')) :
    Calls Try.prog 74 #[.slice (some ⟨gb, ob, none⟩) 128 c] w fun e w' => e = .returned (readRes xs) ∧ Below w.heap.size w w' := by
  obtain ⟨y, hy⟩ : ∃ y : UInt8, (xs.drop 12).headD 0 = y := ⟨_, rfl⟩
  have hy12 : (bvs xs)[12]? = some (.int .u8 (y.toNat : Int)) := by
    rw [bvs, List.getElem?_map, List.getElem?_eq_getElem (by omega), ← hy]
    have : (xs.drop 12).headD 0 = xs[12] := by
      rw [List.drop_eq_getElem_cons (by omega)]; rfl
    rw [this]; rfl
  have hcell := hr 12 _ hy12
  have hs1 : ((bvs xs).drop 4).take 8 = bvs ((xs.drop 4).take 8) := by simp only [bvs, List.map_take, List.map_drop]
  have hs2 : ((bvs xs).drop 13).take 4 = bvs ((xs.drop 13).take 4) := by simp only [bvs, List.map_take, List.map_drop]
  have hr1 := range_sub hr 4 8 _ hs1
  have hr2 := range_sub hr 13 4 _ hs2
  have hl1 : ((xs.drop 4).take 8).length = 8 := by simp; omega
  have hl2 : ((xs.drop 13).take 4).length = 4 := by simp; omega
  obtain ⟨g1, hg1⟩ : ∃ g1, unbe ((xs.drop 4).take 8) = g1 := ⟨_, rfl⟩
  obtain ⟨n1, hn1⟩ : ∃ n1, unbe ((xs.drop 13).take 4) = n1 := ⟨_, rfl⟩
  have hn1l : n1 < 4294967296 := by have := unbe_lt ((xs.drop 13).take 4); rw [hl2, hn1] at this; exact this
  have hG1 : ∀ w', w'.rangeAt gb (ob + 4) (bvs ((xs.drop 4).take 8)) → gb < w'.heap.size → Calls Try.prog 106 #[.slice (some ⟨gb, ob + 4, none⟩) 8 (c - 4)] w' fun e w'' => e = .returned (.int .u64 (g1 : Int)) ∧ w' = w'' := fun w' h1 h2 => by
    rw [← hg1]; exact get_num _ 8 _ _ (by omega) w' ⟨by rw [bvs_length, hl1], fun _ => ⟨gb, ob + 4, rfl, h2, h1⟩⟩
  have hG2 : ∀ w', w'.rangeAt gb (ob + 13) (bvs ((xs.drop 13).take 4)) → gb < w'.heap.size → Calls Try.prog 106 #[.slice (some ⟨gb, ob + 13, none⟩) 4 (c - 13)] w' fun e w'' => e = .returned (.int .u64 (n1 : Int)) ∧ w' = w'' := fun w' h1 h2 => by
    rw [← hn1]; exact get_num _ 4 _ _ (by omega) w' ⟨by rw [bvs_length, hl2], fun _ => ⟨gb, ob + 13, rfl, h2, h1⟩⟩
  have hsu : superV (unsuper xs) = .agg #[.int .u64 (g1 : Int), .int .i64 (y.toNat : Int), .int .i64 (n1 : Int)] := by
    simp only [superV, unsuper, hy, hg1, hn1]
  have HSU := hide hsu
  have HX := hide hxs
  clear hs1 hs2 hl1 hl2 hg1 hn1 hy hsu hy12 hxs
  go_enter Try.func74, Try.ntmps74
  go_upto_region 3 with fail
  have b1 : Below w.heap.size w (w.alloc (.cells #[.int .u64 0, .int .i64 0, .int .i64 0] 115)) := (Below.refl _ _).alloc (Nat.le_refl _) _
  have k1 := Blk.new w 115 #[.int .u64 0, .int .i64 0, .int .i64 0]
  obtain ⟨w1, hw1⟩ : ∃ w1, w1 = w.alloc (.cells #[.int .u64 0, .int .i64 0, .int .i64 0] 115) := ⟨_, rfl⟩
  rw [← hw1] at b1 k1 ⊢
  clear hw1
  have HS := hide (fun w' (hb : Below w.heap.size w w') => And.intro ((hb.cell (p := ⟨gb, ob + 12, none⟩) hgb).trans hcell) (And.intro (fun j v hv => (hb.cell (p := ⟨gb, ob + 4 + j, none⟩) hgb).trans (hr1 j v hv) : w'.rangeAt gb (ob + 4) (bvs ((xs.drop 4).take 8))) (And.intro (fun j v hv => (hb.cell (p := ⟨gb, ob + 13 + j, none⟩) hgb).trans (hr2 j v hv) : w'.rangeAt gb (ob + 13) (bvs ((xs.drop 13).take 4))) (Nat.lt_of_lt_of_le hgb hb.size))))
  clear hr1 hr2 hcell
  have cc1 : (12 : Int) ≤ (c : Int) := by omega
  have cc2 : (17 : Int) ≤ (c : Int) := by omega
  have cc3 : ¬ c = 4 := by omega
  have cc4 : ¬ c = 13 := by omega
  have hy8 : (y.toNat : Int) < 256 := by have := y.toNat_lt; omega
  have hy0 : (0 : Int) ≤ (y.toNat : Int) := by omega
  have hyw : IntKind.i64.wrap (y.toNat : Int) = (y.toNat : Int) := IntWalk.i64_in _ (by omega)
  have hn64 : (n1 : Int) < 4294967296 := by omega
  have hn0 : (0 : Int) ≤ (n1 : Int) := by omega
  go_cut [4] (fun s4 wx => s4 = .pointer (some ⟨w1.heap.size, 0, none⟩) ∧ Blk wx w1.heap.size 115 #[.int .u64 (g1 : Int), .int .i64 (y.toNat : Int), .int .i64 (n1 : Int)] ∧ Below w1.heap.size w1 wx)
  case first =>
    refine wp_region_tree 13 (fun w' => w'.cell? ⟨gb, ob + 12, none⟩ = some (.int .u8 (y.toNat : Int)) ∧ w'.rangeAt gb (ob + 4) (bvs ((xs.drop 4).take 8)) ∧ w'.rangeAt gb (ob + 13) (bvs ((xs.drop 13).take 4)) ∧ gb < w'.heap.size) (fun i => i == 2 || i == 9 || i == 12)
      (pre [0, 1, 3, 4, 5, 6, 7, 8] (.alt 2 (.alt 9 (.op 12 readL) 12 (.op 9 readL)) 12 (.op 2 (.op 9 readL)))) (by kernel_rfl) (by kernel_rfl) (HS.out w1 b1) (fun ops hops F hF => ?_)
    clear hops
    simp only [List.drop_succ_cons, List.drop_zero] at hF
    iterate 8 (refine tree_op rfl ?_; refine held_q rfl rfl ?_; apply Exists.intro; refine ⟨fun w' hw' => ?_, ?_⟩; (obtain ⟨p1, p2, p3, p4⟩ := hw'; go_simp; rfl); simp only [Act.put, List.setIfInBounds_toArray, List.set_cons_zero, List.set_cons_succ, Nat.reduceAdd]; refine held_nil ?_)
    have q := HS.out w1.drew b1.drew
    have q' := HS.out (w1.drew.alloc (.cells #[.int .u64 0, .int .i64 0, .int .i64 0] 115)) (b1.drew.alloc b1.size _)
    have kn : Blk (w1.drew.alloc (.cells #[.int .u64 (g1 : Int), .int .i64 (y.toNat : Int), .int .i64 (n1 : Int)] 115)) w1.heap.size 115 #[.int .u64 (g1 : Int), .int .i64 (y.toNat : Int), .int .i64 (n1 : Int)] := Blk.new w1.drew 115 _
    have bn : Below w1.heap.size w1 (w1.drew.alloc (.cells #[.int .u64 (g1 : Int), .int .i64 (y.toNat : Int), .int .i64 (n1 : Int)] 115)) := ((Below.refl _ _).drew).alloc (Nat.le_refl _) _
    have HKB := hide (And.intro kn bn)
    refine tree_alt rfl rfl ?_ ?_
    · refine held_loud rfl rfl (fun K hK => ?_)
      go_simp
      refine (hG1 _ q.2.1 q.2.2.2).mono ?_
      rintro e w2 ⟨rfl, rfl⟩
      refine hK _ _ q ?_
      clear hK K
      simp only [Act.put, List.setIfInBounds_toArray, List.set_cons_zero, List.set_cons_succ, Nat.reduceAdd]
      refine held_nil ?_
      refine tree_alt rfl rfl ?_ ?_
      · refine held_loud rfl rfl (fun K hK => ?_)
        go_simp
        refine (hG2 _ q.2.2.1 q.2.2.2).mono ?_
        rintro e w2 ⟨rfl, rfl⟩
        refine hK _ _ q ?_
        clear hK K
        simp only [Act.put, List.setIfInBounds_toArray, List.set_cons_zero, List.set_cons_succ, Nat.reduceAdd]
        refine held_nil ?_
        refine tree_op rfl ?_
        refine held_loud rfl rfl (fun K hK => ?_)
        go_simp
        refine hK _ _ q' ?_
        clear hK K
        simp only [Act.put, List.setIfInBounds_toArray, List.set_cons_zero, List.set_cons_succ, Nat.reduceAdd]
        refine held_nil ?_
        refine tree_op rfl ?_
        refine held_q rfl rfl ?_; apply Exists.intro; refine ⟨fun w' hw' => ?_, ?_⟩; (go_simp; rfl); simp only [Act.put, List.setIfInBounds_toArray, List.set_cons_zero, List.set_cons_succ, Nat.reduceAdd]; refine held_nil ?_
        refine tree_op rfl ?_
        refine held_q rfl rfl ?_; apply Exists.intro; refine ⟨fun w' hw' => ?_, ?_⟩; (go_simp; rfl); simp only [Act.put, List.setIfInBounds_toArray, List.set_cons_zero, List.set_cons_succ, Nat.reduceAdd]; refine held_nil ?_
        refine tree_leaf (hF _ _ ?_)
        clear hF F
        go_wp2
        go_meet
        exact ⟨rfl, kn, bn⟩
      · refine held_loud rfl rfl (fun K hK => ?_)
        go_simp
        refine hK _ _ q' ?_
        clear hK K
        simp only [Act.put, List.setIfInBounds_toArray, List.set_cons_zero, List.set_cons_succ, Nat.reduceAdd]
        refine held_nil ?_
        refine tree_op rfl ?_
        refine held_loud rfl rfl (fun K hK => ?_)
        go_simp
        refine (hG2 _ q'.2.2.1 q'.2.2.2).mono ?_
        rintro e w2 ⟨rfl, rfl⟩
        refine hK _ _ q' ?_
        clear hK K
        simp only [Act.put, List.setIfInBounds_toArray, List.set_cons_zero, List.set_cons_succ, Nat.reduceAdd]
        refine held_nil ?_
        refine tree_op rfl ?_
        refine held_q rfl rfl ?_; apply Exists.intro; refine ⟨fun w' hw' => ?_, ?_⟩; (go_simp; rfl); simp only [Act.put, List.setIfInBounds_toArray, List.set_cons_zero, List.set_cons_succ, Nat.reduceAdd]; refine held_nil ?_
        refine tree_op rfl ?_
        refine held_q rfl rfl ?_; apply Exists.intro; refine ⟨fun w' hw' => ?_, ?_⟩; (go_simp; rfl); simp only [Act.put, List.setIfInBounds_toArray, List.set_cons_zero, List.set_cons_succ, Nat.reduceAdd]; refine held_nil ?_
        refine tree_leaf (hF _ _ ?_)
        clear hF F
        go_wp2
        go_meet
        exact ⟨rfl, kn, bn⟩
    · refine held_loud rfl rfl (fun K hK => ?_)
      go_simp
      refine hK _ _ q' ?_
      clear hK K
      simp only [Act.put, List.setIfInBounds_toArray, List.set_cons_zero, List.set_cons_succ, Nat.reduceAdd]
      refine held_nil ?_
      refine tree_op rfl ?_
      refine held_loud rfl rfl (fun K hK => ?_)
      go_simp
      refine (hG1 _ q'.2.1 q'.2.2.2).mono ?_
      rintro e w2 ⟨rfl, rfl⟩
      refine hK _ _ q' ?_
      clear hK K
      simp only [Act.put, List.setIfInBounds_toArray, List.set_cons_zero, List.set_cons_succ, Nat.reduceAdd]
      refine held_nil ?_
      refine tree_op rfl ?_
      refine held_loud rfl rfl (fun K hK => ?_)
      go_simp
      refine (hG2 _ q'.2.2.1 q'.2.2.2).mono ?_
      rintro e w2 ⟨rfl, rfl⟩
      refine hK _ _ q' ?_
      clear hK K
      simp only [Act.put, List.setIfInBounds_toArray, List.set_cons_zero, List.set_cons_succ, Nat.reduceAdd]
      refine held_nil ?_
      refine tree_op rfl ?_
      refine held_q rfl rfl ?_; apply Exists.intro; refine ⟨fun w' hw' => ?_, ?_⟩; (go_simp; rfl); simp only [Act.put, List.setIfInBounds_toArray, List.set_cons_zero, List.set_cons_succ, Nat.reduceAdd]; refine held_nil ?_
      refine tree_op rfl ?_
      refine held_q rfl rfl ?_; apply Exists.intro; refine ⟨fun w' hw' => ?_, ?_⟩; (go_simp; rfl); simp only [Act.put, List.setIfInBounds_toArray, List.set_cons_zero, List.set_cons_succ, Nat.reduceAdd]; refine held_nil ?_
      refine tree_leaf (hF _ _ ?_)
      clear hF F
      go_wp2
      go_meet
      exact ⟨rfl, kn, bn⟩
  case rest =>
    obtain ⟨rfl, k2, b2⟩ := hcut
    have c0 := k2.cell 0
    have c1 := k2.cell 1
    have c2 := k2.cell 2
    simp at c0 c1 c2
    have k1x := k1.below b2 k1.lt
    have bx : Below w.heap.size w wc := b1.trans (b2.mono b1.size)
    have hw' := hw wc bx
    rw [HSU.out] at hw'
    clear hw hG1 hG2
    have hrx : ∀ w', Below w.heap.size w w' → SlAt w' (some ⟨gb, ob, none⟩) 128 (bvs xs) := fun w' hb => ⟨by rw [bvs_length, HX.out], fun _ => ⟨gb, ob, rfl, Nat.lt_of_lt_of_le hgb hb.size, fun j v hv => (hb.cell (p := ⟨gb, ob + j, none⟩) hgb).trans (hr j v hv)⟩⟩
    clear HS hr
    have HRX := hide hrx
    clear hrx
    go_wp2_with fail
    refine hw'.mono ?_
    rintro e w3 (⟨A, cap, rfl, sA, hrt, b3⟩ | ⟨rfl, hrt, b3⟩)
    · have k3 := k2.below b3 k2.lt
      have k13 := k1x.below b3 k1x.lt
      have bx3 := bx.trans (b3.mono bx.size)
      clear c0 c1 c2 hw'
      have c0 := k3.cell 0
      have c1 := k3.cell 1
      have c2 := k3.cell 2
      have d0 := k13.cell 0
      have d1 := k13.cell 1
      have d2 := k13.cell 2
      have z0 := k13.frozen 0
      have z1 := k13.frozen 1
      have z2 := k13.frozen 2
      simp at c0 c1 c2 d0 d1 d2
      have he := equal_ok A (some ⟨gb, ob, none⟩) 128 128 cap c _ xs w3 sA (HRX.out w3 bx3)
      by_cases hq : superBytes (unsuper xs) = xs
      · rw [decide_eq_true hq] at he
        have hres : readRes xs = .tuple #[.agg #[.int .u64 (g1 : Int), .int .i64 (y.toNat : Int), .int .i64 (n1 : Int)], .int .i64 0] := by
          rw [readRes_some (s := unsuper xs) (by unfold readS; rw [if_pos ⟨HX.out, hrt, hq⟩]), HSU.out]
        have HRES := hide hres
        clear hres hq hrt
        go_wp2_with (go_at_call 107; refine he.mono ?_; rintro e w' ⟨rfl, rfl⟩)
        refine bodyPost_ret (v := .tuple #[.agg #[.int .u64 (g1 : Int), .int .i64 (y.toNat : Int), .int .i64 (n1 : Int)], .int .i64 0]) (by simp [results, Try.results74, go_sem, d0, d1, d2]) rfl ⟨by rw [HRES.out], ?_⟩
        exact ((bx3.setCell (p := ⟨w.heap.size, 0, none⟩) (Nat.le_refl _) _).setCell (p := ⟨w.heap.size, 1, none⟩) (Nat.le_refl _) _).setCell (p := ⟨w.heap.size, 2, none⟩) (Nat.le_refl _) _
      · rw [decide_eq_false hq] at he
        have hres : readRes xs = .tuple #[superV SU.zero, .int .i64 3] := readRes_none (by unfold readS; rw [if_neg (fun h => hq h.2.2)])
        have HRES := hide hres
        clear hres hq hrt
        go_wp2_with (go_at_call 107; refine he.mono ?_; rintro e w' ⟨rfl, rfl⟩)
        refine bodyPost_ret (v := .tuple #[superV SU.zero, .int .i64 3]) (by simp [results, Try.results74, go_sem, superV, SU.zero, d0, d1, d2]) rfl ⟨by rw [HRES.out], ?_⟩
        exact ((bx3.setCell (p := ⟨w.heap.size, 0, none⟩) (Nat.le_refl _) _).setCell (p := ⟨w.heap.size, 1, none⟩) (Nat.le_refl _) _).setCell (p := ⟨w.heap.size, 2, none⟩) (Nat.le_refl _) _
    · have k13 := k1x.below b3 k1x.lt
      have bx3 := bx.trans (b3.mono bx.size)
      clear c0 c1 c2 hw'
      have d0 := k13.cell 0
      have d1 := k13.cell 1
      have d2 := k13.cell 2
      have z0 := k13.frozen 0
      have z1 := k13.frozen 1
      have z2 := k13.frozen 2
      simp at d0 d1 d2
      have hres : readRes xs = .tuple #[superV SU.zero, .int .i64 3] := readRes_none (by unfold readS; rw [if_neg (fun h => by rw [hrt] at h; exact absurd h.2.1 (by decide))])
      have HRES := hide hres
      clear hres hrt
      go_wp2
      refine bodyPost_ret (v := .tuple #[superV SU.zero, .int .i64 3]) (by simp [results, Try.results74, go_sem, superV, SU.zero, d0, d1, d2]) rfl ⟨by rw [HRES.out], ?_⟩
      exact ((bx3.setCell (p := ⟨w.heap.size, 0, none⟩) (Nat.le_refl _) _).setCell (p := ⟨w.heap.size, 1, none⟩) (Nat.le_refl _) _).setCell (p := ⟨w.heap.size, 2, none⟩) (Nat.le_refl _) _

/-- Read. -/
theorem sreadE (A : Option Addr) (n c : Nat) (hnc : n ≤ c) (xs : List UInt8) (w : World) (hx : SlAt w A n (bvs xs)) :
    Calls Try.prog 74 #[.slice A n c] w fun e w' => e = .returned (readRes xs) ∧ Below w.heap.size w w' := by
  have hl : xs.length = n := by have := hx.1; rwa [bvs_length] at this
  by_cases hn : n = 128
  · subst hn
    obtain ⟨gb, ob, rfl, hgb, hr⟩ := hx.2 (by omega)
    refine sread_core xs hl gb ob c hnc w hgb hr (fun w' _ => ?_)
    by_cases h : (unsuper xs).right = true
    · exact (swriteE _ h w').mono fun e w'' ⟨A, cap, he, ho, hb⟩ => .inl ⟨A, cap, he, sl_own ho, h, hb⟩
    · have h' : (unsuper xs).right = false := by simpa using h
      exact (swrite_no _ h' w').mono fun e w'' ⟨he, hb⟩ => .inr ⟨he, h', hb⟩
  · rw [readRes_none (by unfold readS; rw [if_neg (fun h => hn (hl ▸ h.1))])]
    exact sread_form A n c hn w
end Go.Proofs.Ytnnhklembdaieaa
