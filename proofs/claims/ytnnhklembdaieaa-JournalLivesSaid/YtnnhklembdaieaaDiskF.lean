/- The disk: Crash. -/
import Derived.Test.YtnnhklembdaieaaDiskE
namespace Go.Proofs.Ytnnhklembdaieaa
open Go.RowKit
set_option linter.unusedSimpArgs false
set_option linter.unusedVariables false

/-- a slice value's elements, of one cell each: A may be nil where there is none. -/
def SlAt (w : World) (A : Option Addr) (n : Nat) (xs : List Value) : Prop := xs.length = n ∧ (0 < n → ∃ gb ob, A = some ⟨gb, ob, none⟩ ∧ gb < w.heap.size ∧ w.rangeAt gb ob xs)
theorem SlAt.fr {w w' : World} {S : Nat → Prop} {A : Option Addr} {n : Nat} {xs : List Value} (h : SlAt w A n xs) (hf : Fr S w w') (hS : ∀ a, A = some a → 0 < n → ¬ S a.block) : SlAt w' A n xs :=
  ⟨h.1, fun hn => by
    obtain ⟨gb, ob, rfl, hlt, hr⟩ := h.2 hn
    exact ⟨gb, ob, rfl, Nat.lt_of_lt_of_le hlt hf.size, fun j v hv => (hf.cell (p := ⟨gb, ob + j, none⟩) hlt (hS ⟨gb, ob, none⟩ rfl hn)).trans (hr j v hv)⟩⟩
theorem SlAt.nil (w : World) (A : Option Addr) : SlAt w A 0 [] := ⟨rfl, fun h => absurd h (by omega)⟩

/-- of the writes those done whose place is true, in order. -/
def doneKeep (l : List (List UInt8)) (ws : List (Nat × List UInt8)) (ks : List Bool) : List (List UInt8) := ws.zipIdx.foldl (fun l p => if ks.getD p.2 false then l.set p.1.1 p.1.2 else l) l
theorem doneKeep_snoc (l : List (List UInt8)) (ws : List (Nat × List UInt8)) (ks : List Bool) (p : Nat × List UInt8) : doneKeep l (ws ++ [p]) ks = if ks.getD ws.length false then (doneKeep l ws ks).set p.1 p.2 else doneKeep l ws ks := by
  simp [doneKeep, List.zipIdx_append]
theorem doneKeep_fold_length (ks : List Bool) : ∀ (ws : List ((Nat × List UInt8) × Nat)) (l : List (List UInt8)), (ws.foldl (fun l p => if ks.getD p.2 false then l.set p.1.1 p.1.2 else l) l).length = l.length
  | [], _ => rfl
  | p :: ws, l => by
    rw [List.foldl_cons, doneKeep_fold_length ks ws]
    split <;> simp
theorem doneKeep_length (l : List (List UInt8)) (ws : List (Nat × List UInt8)) (ks : List Bool) : (doneKeep l ws ks).length = l.length := doneKeep_fold_length ks _ l
theorem doneKeep_fold_sec (ks : List Bool) : ∀ (ws : List ((Nat × List UInt8) × Nat)) (l : List (List UInt8)), (∀ x ∈ l, x.length = 128) → (∀ p ∈ ws, p.1.2.length = 128) →
    ∀ x ∈ ws.foldl (fun l p => if ks.getD p.2 false then l.set p.1.1 p.1.2 else l) l, x.length = 128
  | [], _, h, _ => h
  | p :: ws, l, h, hw => by
    rw [List.foldl_cons]
    refine doneKeep_fold_sec ks ws _ ?_ (fun q hq => hw q (by simp [hq]))
    split
    · intro x hx
      rcases List.mem_or_eq_of_mem_set hx with h1 | h1
      · exact h x h1
      · rw [h1]; exact hw p (by simp)
    · exact h
theorem doneKeep_sec (l : List (List UInt8)) (ws : List (Nat × List UInt8)) (ks : List Bool) (h : ∀ x ∈ l, x.length = 128) (hw : ∀ p ∈ ws, p.2.length = 128) : ∀ x ∈ doneKeep l ws ks, x.length = 128 :=
  doneKeep_fold_sec ks _ l h (fun p hp => hw _ (List.fst_mem_of_mem_zipIdx hp))
def DSt.crash (s : DSt) (ks : List Bool) : DSt := ⟨doneKeep s.l s.waits ks, [], s.writes, s.syncs⟩

theorem crash_nil (kv : Value) (w : World) : Calls Try.prog 26 #[.pointer none, kv] w fun e w' => e = .returned (.int .i64 6) ∧ w = w' := by
  go_enter Try.func26, Try.ntmps26
  go_wp2_with (go_at_call 28; refine (sectors_nil _).mono ?_; rintro e w' ⟨rfl, rfl⟩)
  go_ret
  exact ⟨rfl, rfl⟩
theorem crash_zero (kv : Value) (b : Nat) (ao : Option Addr) (c : Nat) (w : World) (hc : w.cell? ⟨b, 0, none⟩ = some (.slice ao 0 c)) : Calls Try.prog 26 #[.pointer (some ⟨b, 0, none⟩), kv] w fun e w' => e = .returned (.int .i64 6) ∧ w = w' := by
  go_enter Try.func26, Try.ntmps26
  go_wp2_with (go_at_call 28; refine (sectors_any _ _ _ _ _ hc).mono ?_; rintro e w' ⟨rfl, rfl⟩)
  go_ret
  exact ⟨rfl, rfl⟩

set_option maxRecDepth 100000 in
set_option maxHeartbeats 800000 in
theorem crash_ok (w : World) (base d bl : Nat) (wv : Value) (s : DSt) (h : DiskAt w base d bl wv s) (hpos : 0 < s.l.length) (K : Option Addr) (kn kc : Nat) (ks : List Bool) (hks : SlAt w K kn (ks.map .bool)) (hkb : ∀ a, K = some a → 0 < kn → a.block ≠ bl) (hkm : kn ≤ 9223372036854775807) :
    Calls Try.prog 26 #[.pointer (some ⟨d, 0, none⟩), .slice K kn kc] w fun e w' => e = .returned (.int .i64 0) ∧ DiskAt w' base d bl (.slice none 0 0) (s.crash ks) ∧ Fr (dfoot d bl wv) w w' := by
  obtain ⟨A, cap, rfl, hcap, hmax, hA⟩ := own_shape h.hw
  have hc0 := h.hd.cell 0
  have hc1 := h.hd.cell 1
  have hnum := h.ok.num
  have hcnt := h.ok.cnt.1
  have hwat := h.ok.wat
  have hsec := h.ok.sec
  have hdlt := h.hd.lt
  have hblt := h.hl.lt
  have hdb := h.nodb
  have hnl := own_ne h.hw h.hl (by decide)
  have hd0 := h.hd
  have hl0 := h.hl
  simp at hc0 hc1
  obtain ⟨N, hN⟩ : ∃ N, s.l.length = N := ⟨_, rfl⟩
  rw [hN] at hc0 hd0 hnum hpos
  generalize hn : s.waits.length = n at *
  have HN := hide hn
  have HNN := hide hN
  clear hn hN
  have h0 : ((N : Int) == 0) = false := by simp; omega
  go_enter Try.func26, Try.ntmps26
  go_wp2_with (first
    | (go_at_call 28; refine (sectors_any _ _ _ _ _ hc0).mono ?_; rintro e w' ⟨rfl, rfl⟩))
  go_loopw [15] (fun c wr => ∃ k : Nat, k ≤ n ∧ c = .int .i64 k ∧ Blk wr bl 151 (bvs (doneKeep s.l (s.waits.take k) ks).flatten).toArray ∧ Fr (fun k => k = bl) w wr) (fun c _ => n - (intOf c).toNat)
  case atStart => exact ⟨0, Nat.zero_le _, rfl, by simpa [doneKeep] using hl0, Fr.refl _ _⟩
  case round =>
    obtain ⟨k, hk, rfl, hblk, hfr⟩ := hrel
    by_cases hlt : k < n
    · obtain ⟨g, rfl, hg1, hg2, hrg⟩ := hA (by omega)
      have hkn : k < s.waits.length := by rw [HN.out]; exact hlt
      obtain ⟨p, hp⟩ : ∃ p, p = s.waits[k] := ⟨_, rfl⟩
      have hpw := hwat p (by rw [hp]; exact List.getElem_mem hkn)
      have hgl : g ≠ bl := fun e => hnl (by rw [e]; rfl)
      have hr1 : wr.rangeAt g (k * 129) (waitCells p) := by
        have := range_sub hrg (k * 129) 129 _ (flat_at waitCells 129 s.waits (fun x hx => waitCells_length x (hwat x hx).2) k hkn)
        rw [Nat.zero_add, ← hp] at this
        exact fun j v hv => (hfr.cell (p := ⟨g, k * 129 + j, none⟩) hg2 hgl).trans (this j v hv)
      have hl1 : (waitCells p).length = 129 := waitCells_length _ hpw.2
      have hl2 : (bvs p.2).length = 128 := by rw [bvs_length]; exact hpw.2
      have hnew := Blk.new wr 153 (waitCells p).toArray
      have hszw : w.heap.size ≤ wr.heap.size := hfr.size
      have hcd : wr.cell? ⟨d, 0, none⟩ = some (.slice (some ⟨bl, 0, none⟩) N N) := (hfr.cell (p := ⟨d, 0, none⟩) hdlt hdb).trans hc0
      have hLs : ∀ y ∈ doneKeep s.l (s.waits.take k) ks, y.length = 128 := doneKeep_sec _ _ _ hsec (fun q hq => (hwat q (List.mem_of_mem_take hq)).2)
      have hLl : (doneKeep s.l (s.waits.take k) ks).length = N := by rw [doneKeep_length]; exact HNN.out
      have hp0 : (0 : Int) ≤ (p.1 : Int) := by omega
      have hp1 : (p.1 : Int) < (N : Int) := by have := HNN.out; omega
      have hra : ∀ W : World, Blk W wr.heap.size 153 (waitCells p).toArray → W.rangeAt wr.heap.size 1 (bvs p.2) := fun W hB =>
        range_sub hB.rangeAll 1 128 (bvs p.2) (by simp only [waitCells, List.drop_succ_cons, List.drop_zero]; exact List.take_of_length_le (by omega))
      have hc30 : ∀ W : World, Blk W wr.heap.size 153 (waitCells p).toArray → W.cell? ⟨wr.heap.size, 0, none⟩ = some (.int .i64 (p.1 : Int)) := fun W hB => by rw [hB.cell]; rfl
      have HP := hide hp
      have HR := hide hr1
      have HL := hide hl1
      have HL2 := hide hl2
      have HB := hide hblk
      have HNW := hide hnew
      have HRA := hide hra
      have HC3 := hide hc30
      have HLS := hide hLs
      have HLL := hide hLl
      have HCD := hide hcd
      clear hr1 hl1 hl2 hrg hp hblk hnew hra hc30 hLs hLl hcd
      by_cases hkk : k < kn
      · obtain ⟨kb, ko, rfl, hkl, hkr⟩ := hks.2 (by omega)
        have hkbl := hkb _ rfl (by omega)
        have hksl : k < ks.length := by have := hks.1; simp at this; omega
        obtain ⟨kq, hkq⟩ : ∃ kq, kq = ks[k] := ⟨_, rfl⟩
        have hcell : (wr.alloc (.cells (waitCells p).toArray 153)).cell? ⟨kb, ko + k, none⟩ = some (.bool kq) := by
          rw [World.cell?_alloc_lt _ _ _ (by show kb < _; omega)]
          refine (hfr.cell (p := ⟨kb, ko + k, none⟩) hkl hkbl).trans (hkr k _ ?_)
          rw [List.getElem?_map, List.getElem?_eq_getElem hksl, hkq]; rfl
        have hgd : ks.getD k false = kq := by rw [List.getD_eq_getElem?_getD, List.getElem?_eq_getElem hksl, hkq]; rfl
        clear hkr hkq
        cases kq
        · have HKT := hide (p := ¬ (ks.getD k false = true)) (by rw [hgd]; decide)
          clear hgd
          go_wp2_with (first
            | (with_reducible show wpList _ _ _ (Oper.mk _ (.load 153 _) _ _ _ _ :: _) _ _; refine wpList_load_mid rfl 153 _ rfl g (k * 129) rfl (waitCells p) _ HR.out Try.underlying153 rfl (by rw [HL.out]; exact s153) ?_; simp only [Act.put, List.setIfInBounds_toArray, List.set_cons_zero, List.set_cons_succ, Nat.reduceAdd])
            | (with_reducible show wpList _ _ _ (Oper.mk _ (.alloc 153) _ _ _ _ :: _) _ _; refine wpList_alloc_row rfl 153 rfl 129 z153 ?_; intro zs hzs; have HZ := hide hzs; clear hzs; simp only [Act.put, List.setIfInBounds_toArray, List.set_cons_zero, List.set_cons_succ, Nat.reduceAdd])
            | (with_reducible show wpList _ _ _ (Oper.mk _ (.store 153 _ _) _ _ _ _ :: _) _ _; refine wpList_store_new rfl 153 _ _ rfl _ (waitCells p) rfl rfl ?_ ?_ (waitCells_one _) ?_; exact HL.out.trans HZ.out.symm; rw [HL.out]; exact s153; simp only [Act.put]))
          go_roundw
          case rel => exact ⟨k + 1, by omega, by go_num, by rw [take_snoc _ _ hkn, doneKeep_snoc, ← HP.out, List.length_take, Nat.min_eq_left (Nat.le_of_lt hkn), if_neg HKT.out]; exact HB.out.alloc _, hfr.alloc _⟩
          case measure => simp [intOf]; omega
        · have HKT := hide (p := ks.getD k false = true) hgd
          clear hgd
          go_wp2_with (first
            | (with_reducible show wpList _ _ _ (Oper.mk _ (.load 153 _) _ _ _ _ :: _) _ _; refine wpList_load_mid rfl 153 _ rfl g (k * 129) rfl (waitCells p) _ HR.out Try.underlying153 rfl (by rw [HL.out]; exact s153) ?_; simp only [Act.put, List.setIfInBounds_toArray, List.set_cons_zero, List.set_cons_succ, Nat.reduceAdd])
            | (with_reducible show wpList _ _ _ (Oper.mk _ (.alloc 153) _ _ _ _ :: _) _ _; refine wpList_alloc_row rfl 153 rfl 129 z153 ?_; intro zs hzs; have HZ := hide hzs; clear hzs; simp only [Act.put, List.setIfInBounds_toArray, List.set_cons_zero, List.set_cons_succ, Nat.reduceAdd])
            | (with_reducible show wpList _ _ _ (Oper.mk _ (.store 153 _ _) _ _ _ _ :: _) _ _; refine wpList_store_new rfl 153 _ _ rfl _ (waitCells p) rfl rfl ?_ ?_ (waitCells_one _) ?_; exact HL.out.trans HZ.out.symm; rw [HL.out]; exact s153; simp only [Act.put]))
          refine wp_region_held 9 (fun w' => w'.cell? ⟨d, 0, none⟩ = some (.slice (some ⟨bl, 0, none⟩) N N) ∧ w'.cell? ⟨wr.heap.size, 0, none⟩ = some (.int .i64 (p.1 : Int)) ∧ w'.rangeAt wr.heap.size 1 (bvs p.2)) (fun _ => false) (by kernel_rfl) (by kernel_rfl) ⟨(World.cell?_alloc_lt _ _ _ (by show d < _; omega)).trans HCD.out, HC3.out _ HNW.out, HRA.out _ HNW.out⟩ (fun ops hops F hF => ?_)
          clear hops
          simp only [List.take_succ_cons, List.take_zero, List.drop_succ_cons, List.drop_zero] at hF ⊢
          iterate 3 (refine held_q rfl rfl ?_; apply Exists.intro; refine ⟨fun w' hw' => ?_, ?_⟩; (go_simp; rfl); simp only [Act.put, List.setIfInBounds_toArray, List.set_cons_zero, List.set_cons_succ, Nat.reduceAdd])
          (refine held_load rfl rfl 53 _ rfl ⟨d, 0, none⟩ rfl _ _ (fun w' hw' => hw'.1) Try.underlying53 rfl ?_; simp only [Act.put, List.setIfInBounds_toArray, List.set_cons_zero, List.set_cons_succ, Nat.reduceAdd])
          iterate 1 (refine held_q rfl rfl ?_; apply Exists.intro; refine ⟨fun w' hw' => ?_, ?_⟩; (go_simp; rfl); simp only [Act.put, List.setIfInBounds_toArray, List.set_cons_zero, List.set_cons_succ, Nat.reduceAdd])
          (refine held_load rfl rfl 3 _ rfl ⟨wr.heap.size, 0, none⟩ rfl _ _ (fun w' hw' => hw'.2.1) Try.underlying3 rfl ?_; simp only [Act.put, List.setIfInBounds_toArray, List.set_cons_zero, List.set_cons_succ, Nat.reduceAdd])
          iterate 1 (refine held_q rfl rfl ?_; apply Exists.intro; refine ⟨fun w' hw' => ?_, ?_⟩; (go_simp; rfl); simp only [Act.put, List.setIfInBounds_toArray, List.set_cons_zero, List.set_cons_succ, Nat.reduceAdd])
          (refine held_row rfl rfl 151 _ rfl wr.heap.size 1 rfl (bvs p.2) _ (fun w' hw' => hw'.2.2) Try.underlying151 rfl (by rw [HL2.out]; exact s151) ?_; simp only [Act.put, List.setIfInBounds_toArray, List.set_cons_zero, List.set_cons_succ, Nat.reduceAdd])
          iterate 1 (refine held_q rfl rfl ?_; apply Exists.intro; refine ⟨fun w' hw' => ?_, ?_⟩; (go_simp; rfl); simp only [Act.put, List.setIfInBounds_toArray, List.set_cons_zero, List.set_cons_succ, Nat.reduceAdd])
          refine held_nil (hF _ _ ?_)
          clear hF F
          have hbW := (HB.out.alloc (.cells (waitCells p).toArray 153)).drew
          have hfW : Fr (fun k => k = bl) w ((wr.alloc (.cells (waitCells p).toArray 153)).drew.setCells bl (p.1 * 128) (bvs p.2)) := ((hfr.alloc _).drew).setCells (.inl rfl) _ _
          have hbS := Blk.sec hbW HLS.out (i := p.1) (by rw [HLL.out]; omega) hpw.2
          have hth := hbW.there_ (p.1 * 128) 128 (by simp only [List.size_toArray]; rw [flat_len HLS.out, HLL.out]; omega)
          have HTH := hide hth
          have HBS := hide hbS
          have HFW := hide hfW
          clear hbW hfW hbS hth
          go_wp2_with (first
            | (with_reducible show wpList _ _ _ (Oper.mk _ (.store 151 _ _) _ _ _ _ :: _) _ _; refine wpList_store_mid rfl 151 _ _ rfl bl (p.1 * 128) (bvs p.2).toArray rfl rfl ?_ ?_ (all_oneCell_toArray (bvs_one _)) ?_; (simp only [List.size_toArray, HL2.out]; exact HTH.out); (simp only [List.size_toArray, HL2.out]; exact s151); simp only [Act.put]))
          go_roundw
          case rel => exact ⟨k + 1, by omega, by go_num, by rw [take_snoc _ _ hkn, doneKeep_snoc, ← HP.out, List.length_take, Nat.min_eq_left (Nat.le_of_lt hkn), if_pos HKT.out]; exact HBS.out, HFW.out⟩
          case measure => simp [intOf]; omega
      · have HKT := hide (p := ¬ (ks.getD k false = true)) (by rw [List.getD_eq_getElem?_getD, List.getElem?_eq_none (by have := hks.1; simp at this; omega)]; decide)
        go_wp2_with (first
          | (with_reducible show wpList _ _ _ (Oper.mk _ (.load 153 _) _ _ _ _ :: _) _ _; refine wpList_load_mid rfl 153 _ rfl g (k * 129) rfl (waitCells p) _ HR.out Try.underlying153 rfl (by rw [HL.out]; exact s153) ?_; simp only [Act.put, List.setIfInBounds_toArray, List.set_cons_zero, List.set_cons_succ, Nat.reduceAdd])
          | (with_reducible show wpList _ _ _ (Oper.mk _ (.alloc 153) _ _ _ _ :: _) _ _; refine wpList_alloc_row rfl 153 rfl 129 z153 ?_; intro zs hzs; have HZ := hide hzs; clear hzs; simp only [Act.put, List.setIfInBounds_toArray, List.set_cons_zero, List.set_cons_succ, Nat.reduceAdd])
          | (with_reducible show wpList _ _ _ (Oper.mk _ (.store 153 _ _) _ _ _ _ :: _) _ _; refine wpList_store_new rfl 153 _ _ rfl _ (waitCells p) rfl rfl ?_ ?_ (waitCells_one _) ?_; exact HL.out.trans HZ.out.symm; rw [HL.out]; exact s153; simp only [Act.put]))
        go_roundw
        case rel => exact ⟨k + 1, by omega, by go_num, by rw [take_snoc _ _ hkn, doneKeep_snoc, ← HP.out, List.length_take, Nat.min_eq_left (Nat.le_of_lt hkn), if_neg HKT.out]; exact HB.out.alloc _, hfr.alloc _⟩
        case measure => simp [intOf]; omega
    · obtain rfl : k = n := by omega
      rw [List.take_of_length_le (by rw [HN.out]; omega)] at hblk
      have hdw := hd0.fr hfr hdb
      have hk1 := hdw.cell 1
      have hf1 := hdw.frozen 1
      simp at hk1
      have HDW := hide hdw
      have HB := hide hblk
      clear hdw hblk
      go_wp2
      go_ret
      have hsz : (doneKeep s.l s.waits ks).length = s.l.length := doneKeep_length _ _ _
      refine ⟨rfl, ⟨⟨?_, ?_, ?_, ?_⟩, ?_, ?_, ?_, h.bd, h.bb⟩, ?_⟩
      · exact doneKeep_sec _ _ _ hsec (fun q hq => (hwat q hq).2)
      · intro q hq; simp [DSt.crash] at hq
      · simp only [DSt.crash]; rw [hsz, HNN.out]; exact hnum
      · have := h.ok.cnt; simp only [DSt.crash, List.length_nil]; omega
      · have := HDW.out.set_ 1 (.slice none 0 0)
        simp only [DSt.crash]
        rw [hsz, HNN.out]
        simpa using this
      · exact HB.out.far (p := ⟨d, 1, none⟩) (Ne.symm hdb) _
      · exact World.ownsRow_nil _ _ _ _
      · exact (hfr.mono (fun k hk => .inr (.inl hk))).setCell (p := ⟨d, 1, none⟩) (.inl (.inl rfl)) _
end Go.Proofs.Ytnnhklembdaieaa
