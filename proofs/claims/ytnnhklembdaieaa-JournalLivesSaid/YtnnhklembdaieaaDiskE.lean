/- The disk: Sync. -/
import Derived.Test.YtnnhklembdaieaaDiskD
namespace Go.Proofs.Ytnnhklembdaieaa
open Go.RowKit
set_option linter.unusedSimpArgs false
set_option linter.unusedVariables false

/-- the writes done, in order. -/
def doneAll (l : List (List UInt8)) (ws : List (Nat × List UInt8)) : List (List UInt8) := ws.foldl (fun l p => l.set p.1 p.2) l
theorem doneAll_snoc (l : List (List UInt8)) (ws : List (Nat × List UInt8)) (p : Nat × List UInt8) : doneAll l (ws ++ [p]) = (doneAll l ws).set p.1 p.2 := by simp [doneAll]
theorem doneAll_length : ∀ (ws : List (Nat × List UInt8)) (l : List (List UInt8)), (doneAll l ws).length = l.length
  | [], _ => rfl
  | p :: ws, l => by simp only [doneAll, List.foldl_cons]; have := doneAll_length ws (l.set p.1 p.2); simpa [doneAll] using this
theorem doneAll_sec : ∀ (ws : List (Nat × List UInt8)) (l : List (List UInt8)), (∀ x ∈ l, x.length = 128) → (∀ p ∈ ws, p.2.length = 128) → ∀ x ∈ doneAll l ws, x.length = 128
  | [], _, h, _ => h
  | p :: ws, l, h, hw => by
    have := doneAll_sec ws (l.set p.1 p.2) (fun x hx => by
      rcases List.mem_or_eq_of_mem_set hx with h1 | h1
      · exact h x h1
      · rw [h1]; exact hw p (by simp)) (fun q hq => hw q (by simp [hq]))
    simpa [doneAll] using this
def DSt.sync (s : DSt) : DSt := ⟨doneAll s.l s.waits, [], s.writes, s.syncs + 1⟩

theorem splice_flatten : ∀ (L : List (List UInt8)) (i : Nat) (x : List UInt8), (∀ y ∈ L, y.length = 128) → i < L.length → x.length = 128 →
    splice (bvs L.flatten) (i * 128) (bvs x) = bvs (L.set i x).flatten
  | y :: L, 0, x, h, _, hx => by
    have hy := h y (by simp)
    unfold splice
    simp only [Nat.zero_mul, List.take_zero, List.nil_append, Nat.zero_add, bvs_length, List.flatten_cons, bvs_append, List.set_cons_zero]
    rw [List.drop_append, List.drop_eq_nil_of_le (by rw [bvs_length]; omega), bvs_length, hx, hy]
    simp
  | y :: L, i + 1, x, h, hi, hx => by
    have hy := h y (by simp)
    have ih := splice_flatten L i x (fun z hz => h z (by simp [hz])) (by simpa using hi) hx
    simp only [List.flatten_cons, bvs_append, List.set_cons_succ]
    rw [← ih]
    unfold splice
    have e1 : (bvs y).length = 128 := by rw [bvs_length]; exact hy
    rw [List.take_append, List.take_of_length_le (by rw [e1]; omega), List.drop_append, List.drop_eq_nil_of_le (by rw [e1]; omega), e1]
    rw [show (i + 1) * 128 - 128 = i * 128 by omega, show (i + 1) * 128 + (bvs x).length - 128 = i * 128 + (bvs x).length by omega]
    simp

theorem Blk.sec {w : World} {bl : Nat} {L : List (List UInt8)} (h : Blk w bl 151 (bvs L.flatten).toArray) (hL : ∀ y ∈ L, y.length = 128) {i : Nat} (hi : i < L.length) {x : List UInt8} (hx : x.length = 128) :
    Blk (w.setCells bl (i * 128) (bvs x)) bl 151 (bvs (L.set i x).flatten).toArray := by
  have hl : (bvs L.flatten).length = L.length * 128 := by
    rw [bvs_length, List.length_flatten]
    have : L.map List.length = List.replicate L.length 128 := by
      apply List.eq_replicate_iff.2
      exact ⟨by simp, fun b hb => by simp only [List.mem_map] at hb; obtain ⟨y, hy, rfl⟩ := hb; exact hL y hy⟩
    rw [this]; simp
  have := Blk.sets bl 151 (bvs x) (i * 128) w (bvs L.flatten) h (by rw [bvs_length, hx, hl]; omega)
  rwa [splice_flatten L i x hL hi hx] at this
theorem flat_len {L : List (List UInt8)} (hL : ∀ y ∈ L, y.length = 128) : (bvs L.flatten).length = L.length * 128 := by
  rw [bvs_length, List.length_flatten]
  have : L.map List.length = List.replicate L.length 128 := by
    apply List.eq_replicate_iff.2
    exact ⟨by simp, fun b hb => by simp only [List.mem_map] at hb; obtain ⟨y, hy, rfl⟩ := hb; exact hL y hy⟩
  rw [this]; simp

theorem sync_nil (w : World) : Calls Try.prog 27 #[.pointer none] w fun e w' => e = .returned (.int .i64 6) ∧ w = w' := by
  go_enter Try.func27, Try.ntmps27
  go_wp2_with (go_at_call 28; refine (sectors_nil _).mono ?_; rintro e w' ⟨rfl, rfl⟩)
  go_ret
  exact ⟨rfl, rfl⟩
theorem sync_zero (b : Nat) (ao : Option Addr) (c : Nat) (w : World) (hc : w.cell? ⟨b, 0, none⟩ = some (.slice ao 0 c)) : Calls Try.prog 27 #[.pointer (some ⟨b, 0, none⟩)] w fun e w' => e = .returned (.int .i64 6) ∧ w = w' := by
  go_enter Try.func27, Try.ntmps27
  go_wp2_with (go_at_call 28; refine (sectors_any _ _ _ _ _ hc).mono ?_; rintro e w' ⟨rfl, rfl⟩)
  go_ret
  exact ⟨rfl, rfl⟩

set_option maxRecDepth 100000 in
set_option maxHeartbeats 800000 in
theorem sync_ok (w : World) (base d bl : Nat) (wv : Value) (s : DSt) (h : DiskAt w base d bl wv s) (hpos : 0 < s.l.length) (hcs : s.syncs < 1000000000000) :
    Calls Try.prog 27 #[.pointer (some ⟨d, 0, none⟩)] w fun e w' => e = .returned (.int .i64 0) ∧ DiskAt w' base d bl (.slice none 0 0) s.sync ∧ Fr (dfoot d bl wv) w w' := by
  obtain ⟨A, cap, rfl, hcap, hmax, hA⟩ := own_shape h.hw
  have hc0 := h.hd.cell 0
  have hc1 := h.hd.cell 1
  have hnum := h.ok.num
  have hcnt := h.ok.cnt.1
  have hwat := h.ok.wat
  have hsec := h.ok.sec
  have hdlt := h.hd.lt
  have hblt := h.hl.lt
  have hdb := h.nodb
  have hnl := own_ne h.hw h.hl (by decide)
  have hd0 := h.hd
  have hl0 := h.hl
  simp at hc0 hc1
  obtain ⟨N, hN⟩ : ∃ N, s.l.length = N := ⟨_, rfl⟩
  rw [hN] at hc0 hd0 hnum hpos
  generalize hn : s.waits.length = n at *
  have HN := hide hn
  have HNN := hide hN
  clear hn hN
  have h0 : ((N : Int) == 0) = false := by simp; omega
  go_enter Try.func27, Try.ntmps27
  go_wp2_with (first
    | (go_at_call 28; refine (sectors_any _ _ _ _ _ hc0).mono ?_; rintro e w' ⟨rfl, rfl⟩))
  go_loopw [13] (fun c wr => ∃ k : Nat, k ≤ n ∧ c = .int .i64 k ∧ Blk wr bl 151 (bvs (doneAll s.l (s.waits.take k)).flatten).toArray ∧ Fr (fun k => k = bl) w wr) (fun c _ => n - (intOf c).toNat)
  case atStart => exact ⟨0, Nat.zero_le _, rfl, by simpa [doneAll] using hl0, Fr.refl _ _⟩
  case round =>
    obtain ⟨k, hk, rfl, hblk, hfr⟩ := hrel
    by_cases hlt : k < n
    · obtain ⟨g, rfl, hg1, hg2, hrg⟩ := hA (by omega)
      have hkn : k < s.waits.length := by rw [HN.out]; exact hlt
      obtain ⟨p, hp⟩ : ∃ p, p = s.waits[k] := ⟨_, rfl⟩
      have hpw := hwat p (by rw [hp]; exact List.getElem_mem hkn)
      have hgl : g ≠ bl := fun e => hnl (by rw [e]; rfl)
      have hr1 : wr.rangeAt g (k * 129) (waitCells p) := by
        have := range_sub hrg (k * 129) 129 _ (flat_at waitCells 129 s.waits (fun x hx => waitCells_length x (hwat x hx).2) k hkn)
        rw [Nat.zero_add, ← hp] at this
        exact fun j v hv => (hfr.cell (p := ⟨g, k * 129 + j, none⟩) hg2 hgl).trans (this j v hv)
      have hl1 : (waitCells p).length = 129 := waitCells_length _ hpw.2
      have hl2 : (bvs p.2).length = 128 := by rw [bvs_length]; exact hpw.2
      have hnew := Blk.new wr 153 (waitCells p).toArray
      have hszw : w.heap.size ≤ wr.heap.size := hfr.size
      have hcd : wr.cell? ⟨d, 0, none⟩ = some (.slice (some ⟨bl, 0, none⟩) N N) := (hfr.cell (p := ⟨d, 0, none⟩) hdlt hdb).trans hc0
      have hLs : ∀ y ∈ doneAll s.l (s.waits.take k), y.length = 128 := doneAll_sec _ _ hsec (fun q hq => (hwat q (List.mem_of_mem_take hq)).2)
      have hLl : (doneAll s.l (s.waits.take k)).length = N := by rw [doneAll_length]; exact HNN.out
      have hp0 : (0 : Int) ≤ (p.1 : Int) := by omega
      have hp1 : (p.1 : Int) < (N : Int) := by have := HNN.out; omega
      have hra : ∀ W : World, Blk W wr.heap.size 153 (waitCells p).toArray → W.rangeAt wr.heap.size 1 (bvs p.2) := fun W hB =>
        range_sub hB.rangeAll 1 128 (bvs p.2) (by simp only [waitCells, List.drop_succ_cons, List.drop_zero]; exact List.take_of_length_le (by omega))
      have hc30 : ∀ W : World, Blk W wr.heap.size 153 (waitCells p).toArray → W.cell? ⟨wr.heap.size, 0, none⟩ = some (.int .i64 (p.1 : Int)) := fun W hB => by rw [hB.cell]; rfl
      have HP := hide hp
      have HR := hide hr1
      have HL := hide hl1
      have HL2 := hide hl2
      have HB := hide hblk
      have HNW := hide hnew
      have HRA := hide hra
      have HC3 := hide hc30
      have HLS := hide hLs
      have HLL := hide hLl
      have HCD := hide hcd
      clear hr1 hl1 hl2 hrg hp hblk hnew hra hc30 hLs hLl hcd
      go_wp2_with (first
        | (with_reducible show wpList _ _ _ (Oper.mk _ (.load 153 _) _ _ _ _ :: _) _ _; refine wpList_load_mid rfl 153 _ rfl g (k * 129) rfl (waitCells p) _ HR.out Try.underlying153 rfl (by rw [HL.out]; exact s153) ?_; simp only [Act.put, List.setIfInBounds_toArray, List.set_cons_zero, List.set_cons_succ, Nat.reduceAdd])
        | (with_reducible show wpList _ _ _ (Oper.mk _ (.alloc 153) _ _ _ _ :: _) _ _; refine wpList_alloc_row rfl 153 rfl 129 z153 ?_; intro zs hzs; have HZ := hide hzs; clear hzs; simp only [Act.put, List.setIfInBounds_toArray, List.set_cons_zero, List.set_cons_succ, Nat.reduceAdd])
        | (with_reducible show wpList _ _ _ (Oper.mk _ (.store 153 _ _) _ _ _ _ :: _) _ _; refine wpList_store_new rfl 153 _ _ rfl _ (waitCells p) rfl rfl ?_ ?_ (waitCells_one _) ?_; exact HL.out.trans HZ.out.symm; rw [HL.out]; exact s153; simp only [Act.put]))
      refine wp_region_held 9 (fun w' => w'.cell? ⟨d, 0, none⟩ = some (.slice (some ⟨bl, 0, none⟩) N N) ∧ w'.cell? ⟨wr.heap.size, 0, none⟩ = some (.int .i64 (p.1 : Int)) ∧ w'.rangeAt wr.heap.size 1 (bvs p.2)) (fun _ => false) (by kernel_rfl) (by kernel_rfl) ⟨(World.cell?_alloc_lt _ _ _ (by show d < _; omega)).trans HCD.out, HC3.out _ HNW.out, HRA.out _ HNW.out⟩ (fun ops hops F hF => ?_)
      clear hops
      simp only [List.take_succ_cons, List.take_zero, List.drop_succ_cons, List.drop_zero] at hF ⊢
      iterate 3 (refine held_q rfl rfl ?_; apply Exists.intro; refine ⟨fun w' hw' => ?_, ?_⟩; (go_simp; rfl); simp only [Act.put, List.setIfInBounds_toArray, List.set_cons_zero, List.set_cons_succ, Nat.reduceAdd])
      (refine held_load rfl rfl 53 _ rfl ⟨d, 0, none⟩ rfl _ _ (fun w' hw' => hw'.1) Try.underlying53 rfl ?_; simp only [Act.put, List.setIfInBounds_toArray, List.set_cons_zero, List.set_cons_succ, Nat.reduceAdd])
      iterate 1 (refine held_q rfl rfl ?_; apply Exists.intro; refine ⟨fun w' hw' => ?_, ?_⟩; (go_simp; rfl); simp only [Act.put, List.setIfInBounds_toArray, List.set_cons_zero, List.set_cons_succ, Nat.reduceAdd])
      (refine held_load rfl rfl 3 _ rfl ⟨wr.heap.size, 0, none⟩ rfl _ _ (fun w' hw' => hw'.2.1) Try.underlying3 rfl ?_; simp only [Act.put, List.setIfInBounds_toArray, List.set_cons_zero, List.set_cons_succ, Nat.reduceAdd])
      iterate 1 (refine held_q rfl rfl ?_; apply Exists.intro; refine ⟨fun w' hw' => ?_, ?_⟩; (go_simp; rfl); simp only [Act.put, List.setIfInBounds_toArray, List.set_cons_zero, List.set_cons_succ, Nat.reduceAdd])
      (refine held_row rfl rfl 151 _ rfl wr.heap.size 1 rfl (bvs p.2) _ (fun w' hw' => hw'.2.2) Try.underlying151 rfl (by rw [HL2.out]; exact s151) ?_; simp only [Act.put, List.setIfInBounds_toArray, List.set_cons_zero, List.set_cons_succ, Nat.reduceAdd])
      iterate 1 (refine held_q rfl rfl ?_; apply Exists.intro; refine ⟨fun w' hw' => ?_, ?_⟩; (go_simp; rfl); simp only [Act.put, List.setIfInBounds_toArray, List.set_cons_zero, List.set_cons_succ, Nat.reduceAdd])
      refine held_nil (hF _ _ ?_)
      clear hF F
      have hbW := (HB.out.alloc (.cells (waitCells p).toArray 153)).drew
      have hfW : Fr (fun k => k = bl) w ((wr.alloc (.cells (waitCells p).toArray 153)).drew.setCells bl (p.1 * 128) (bvs p.2)) := ((hfr.alloc _).drew).setCells (.inl rfl) _ _
      have hbS := Blk.sec hbW HLS.out (i := p.1) (by rw [HLL.out]; omega) hpw.2
      have hth := hbW.there_ (p.1 * 128) 128 (by simp only [List.size_toArray]; rw [flat_len HLS.out, HLL.out]; omega)
      have HTH := hide hth
      have HBS := hide hbS
      have HFW := hide hfW
      clear hbW hfW hbS hth
      go_wp2_with (first
        | (with_reducible show wpList _ _ _ (Oper.mk _ (.store 151 _ _) _ _ _ _ :: _) _ _; refine wpList_store_mid rfl 151 _ _ rfl bl (p.1 * 128) (bvs p.2).toArray rfl rfl ?_ ?_ (all_oneCell_toArray (bvs_one _)) ?_; (simp only [List.size_toArray, HL2.out]; exact HTH.out); (simp only [List.size_toArray, HL2.out]; exact s151); simp only [Act.put]))
      go_roundw
      case rel => exact ⟨k + 1, by omega, by go_num, by rw [take_snoc _ _ hkn, doneAll_snoc, ← HP.out]; exact HBS.out, HFW.out⟩
      case measure => simp [intOf]; omega
    · obtain rfl : k = n := by omega
      rw [List.take_of_length_le (by rw [HN.out]; omega)] at hblk
      have hdw := hd0.fr hfr hdb
      have hk1 := hdw.cell 1
      have hf1 := hdw.frozen 1
      have hc2 : ∀ V, (wr.setCell ⟨d, 1, none⟩ V).cell? ⟨d, 3, none⟩ = some (.int .i64 (s.syncs : Int)) := fun V => by rw [World.cell?_setCell_other _ _ _ _ (by simp)]; have := hdw.cell 3; simpa using this
      have hf3 : ∀ V, (wr.setCell ⟨d, 1, none⟩ V).frozen? ⟨d, 3, none⟩ = false := fun V => by rw [World.frozen?_setCell]; exact hdw.frozen 3
      simp at hk1
      have HDW := hide hdw
      have HB := hide hblk
      clear hdw hblk
      go_wp2_with (go_at_call 83; refine (add_any d 3 (s.syncs : Int) 1 _ (hc2 _) (hf3 _) (by omega) (by omega) (by omega)).mono ?_; rintro e w' ⟨rfl, rfl⟩)
      go_ret
      have hsz : (doneAll s.l s.waits).length = s.l.length := doneAll_length _ _
      refine ⟨rfl, ⟨⟨?_, ?_, ?_, ?_⟩, ?_, ?_, ?_, h.bd, h.bb⟩, ?_⟩
      · exact doneAll_sec _ _ hsec (fun q hq => (hwat q hq).2)
      · intro q hq; simp [DSt.sync] at hq
      · simp only [DSt.sync]; rw [hsz, HNN.out]; exact hnum
      · have := h.ok.cnt; simp only [DSt.sync, List.length_nil]; omega
      · have := (HDW.out.set_ 1 (.slice none 0 0)).set_ 3 (.int .i64 ((s.syncs : Int) + 1))
        simp only [DSt.sync]
        rw [hsz, HNN.out]
        simpa using this
      · exact (HB.out.far (p := ⟨d, 1, none⟩) (Ne.symm hdb) _).far (p := ⟨d, 3, none⟩) (Ne.symm hdb) _
      · exact World.ownsRow_nil _ _ _ _
      · exact ((hfr.mono (fun k hk => .inr (.inl hk))).setCell (p := ⟨d, 1, none⟩) (.inl (.inl rfl)) _).setCell (p := ⟨d, 3, none⟩) (.inl (.inl rfl)) _
end Go.Proofs.Ytnnhklembdaieaa
