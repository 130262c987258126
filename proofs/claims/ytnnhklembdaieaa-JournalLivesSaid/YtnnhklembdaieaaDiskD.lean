/- The disk: Read. -/
import Derived.Test.YtnnhklembdaieaaDiskC
namespace Go.Proofs.Ytnnhklembdaieaa
open Go.RowKit
set_option linter.unusedSimpArgs false
set_option linter.unusedVariables false

/-- what the last write that waits says, or else d. -/
def readAt (l : List (Nat × List UInt8)) (i : Nat) (d : List UInt8) : List UInt8 := l.foldl (fun acc p => if p.1 = i then p.2 else acc) d
theorem readAt_snoc (l : List (Nat × List UInt8)) (p : Nat × List UInt8) (i : Nat) (d : List UInt8) : readAt (l ++ [p]) i d = if p.1 = i then p.2 else readAt l i d := by simp [readAt]
def DSt.read (s : DSt) (i : Nat) : List UInt8 := readAt s.waits i (s.l.getD i [])
theorem readAt_length (i : Nat) : ∀ (l : List (Nat × List UInt8)) (d : List UInt8), d.length = 128 → (∀ p ∈ l, p.2.length = 128) → (readAt l i d).length = 128
  | [], d, h, _ => h
  | p :: l, d, h, hl => by
    have := readAt_length i l (if p.1 = i then p.2 else d) (by split; exact hl p (by simp); exact h) (fun q hq => hl q (by simp [hq]))
    simpa [readAt] using this
theorem DSt.read_length {s : DSt} (h : s.Ok) {i : Nat} (hi : i < s.l.length) : (s.read i).length = 128 :=
  readAt_length i _ _ (by rw [List.getD_eq_getElem?_getD, List.getElem?_eq_getElem hi]; exact h.sec _ (List.getElem_mem hi)) (fun p hp => (h.wat p hp).2)

theorem flatten_at (l : List (List UInt8)) (h : ∀ x ∈ l, x.length = 128) (i : Nat) (hi : i < l.length) : ((bvs l.flatten).drop (i * 128)).take 128 = bvs l[i] := by
  have := flat_at bvs 128 l (fun x hx => by rw [bvs_length]; exact h x hx) i hi
  rw [← this]
  congr 2
  simp only [bvs, List.map_flatten, List.flatMap]
  rfl

theorem read_nil (i : Int) (w : World) : Calls Try.prog 25 #[.pointer none, .int .i64 i] w fun e w' => e = .returned (.tuple #[.slice none 0 0, .int .i64 6]) ∧ w = w' := by
  go_enter Try.func25, Try.ntmps25
  go_wp2_with (go_at_call 82; refine (ask_nil _ _).mono ?_; rintro e w' ⟨rfl, rfl⟩)
  go_ret2
  exact ⟨rfl, rfl⟩
theorem read_bad (b : Nat) (i : Int) (ao : Option Addr) (n c : Nat) (w : World) (hc : w.cell? ⟨b, 0, none⟩ = some (.slice ao n c)) (hn : 0 < n) (hn2 : n ≤ 4096) (hi : ¬ (0 ≤ i ∧ i < n)) :
    Calls Try.prog 25 #[.pointer (some ⟨b, 0, none⟩), .int .i64 i] w fun e w' => e = .returned (.tuple #[.slice none 0 0, .int .i64 1]) ∧ w = w' := by
  have ha := ask_any b i ao n c w hc hn hn2
  rw [if_neg hi] at ha
  clear hi
  go_enter Try.func25, Try.ntmps25
  go_wp2_with (go_at_call 82; refine (ha).mono ?_; rintro e w' ⟨rfl, rfl⟩)
  go_ret2
  exact ⟨rfl, rfl⟩

theorem z151 : (Try.prog.info? 151).map (fun i => i.zero.map (·.cells.size)) = some (some 128) := by kernel_rfl

set_option maxRecDepth 100000 in
set_option maxHeartbeats 800000 in
theorem read_ok (w : World) (base d bl : Nat) (wv : Value) (s : DSt) (h : DiskAt w base d bl wv s) (i : Nat) (hi : i < s.l.length) :
    Calls Try.prog 25 #[.pointer (some ⟨d, 0, none⟩), .int .i64 (i : Int)] w fun e w' => e = .returned (.tuple #[.slice (some ⟨w.heap.size, 0, none⟩) 128 128, .int .i64 0]) ∧
      Blk w' w.heap.size 151 (bvs (s.read i)).toArray ∧ Below w.heap.size w w' := by
  obtain ⟨A, cap, rfl, hcap, hmax, hA⟩ := own_shape h.hw
  have hc0 := h.hd.cell 0
  have hc1 := h.hd.cell 1
  have hnum := h.ok.num
  have hcnt := h.ok.cnt.1
  have hwat := h.ok.wat
  have hsec := h.ok.sec
  have hdlt := h.hd.lt
  simp at hc0 hc1
  have ha := ask_any d i _ _ _ w hc0 (by omega) hnum
  rw [if_pos (by omega)] at ha
  have hr0 : w.rangeAt bl (i * 128) (bvs s.l[i]) := by
    have := range_sub h.hl.rangeAll (i * 128) 128 _ (flatten_at s.l hsec i hi)
    rwa [Nat.zero_add] at this
  have hl0 : (bvs s.l[i]).length = 128 := by rw [bvs_length]; exact hsec _ (List.getElem_mem hi)
  have HR0 := hide hr0
  have HL0 := hide hl0
  clear hr0 hl0
  generalize hn : s.waits.length = n at *
  have HN := hide hn; clear hn
  have hi1 : (0 : Int) ≤ (i : Int) := by omega
  have hi2 : (i : Int) < (s.l.length : Int) := by omega
  go_enter Try.func25, Try.ntmps25
  go_wp2_with (first
    | (go_at_call 82; refine (ha).mono ?_; rintro e w' ⟨rfl, rfl⟩)
    | (with_reducible show wpList _ _ _ (Oper.mk _ (.load 151 _) _ _ _ _ :: _) _ _; refine wpList_load_mid rfl 151 _ rfl bl (i * 128) rfl (bvs s.l[i]) _ HR0.out Try.underlying151 rfl (by rw [HL0.out]; exact s151) ?_; simp only [Act.put, List.setIfInBounds_toArray, List.set_cons_zero, List.set_cons_succ, Nat.reduceAdd])
    | (with_reducible show wpList _ _ _ (Oper.mk _ (.alloc 151) _ _ _ _ :: _) _ _; refine wpList_alloc_row rfl 151 rfl 128 z151 ?_; intro zs hzs; have HZ := hide hzs; clear hzs; simp only [Act.put, List.setIfInBounds_toArray, List.set_cons_zero, List.set_cons_succ, Nat.reduceAdd])
    | (with_reducible show wpList _ _ _ (Oper.mk _ (.store 151 _ _) _ _ _ _ :: _) _ _; refine wpList_store_new rfl 151 _ _ rfl _ (bvs s.l[i]) rfl rfl ?_ ?_ (bvs_one _) ?_; exact HL0.out.trans HZ.out.symm; rw [HL0.out]; exact s151; simp only [Act.put]))
  have hblk0 := Blk.new w 151 (bvs s.l[i]).toArray
  have hbel0 : Below w.heap.size w (w.alloc (.cells (bvs s.l[i]).toArray 151)) := (Below.refl _ _).alloc (Nat.le_refl _) _
  obtain ⟨w1, hw1⟩ : ∃ w1, w1 = w.alloc (.cells (bvs s.l[i]).toArray 151) := ⟨_, rfl⟩
  rw [← hw1] at hblk0 hbel0 ⊢
  clear hw1
  go_loopw [28] (fun c wr => ∃ k : Nat, k ≤ n ∧ c = .int .i64 k ∧ Blk wr w.heap.size 151 (bvs (readAt (s.waits.take k) i s.l[i])).toArray ∧ Below w.heap.size w wr) (fun c _ => n - (intOf c).toNat)
  case atStart => exact ⟨0, Nat.zero_le _, rfl, by simpa [readAt] using hblk0, hbel0⟩
  case round =>
    obtain ⟨k, hk, rfl, hblk, hbel⟩ := hrel
    by_cases hlt : k < n
    · obtain ⟨g, rfl, hg1, hg2, hrg⟩ := hA (by omega)
      have hkn : k < s.waits.length := by rw [HN.out]; exact hlt
      obtain ⟨p, hp⟩ : ∃ p, p = s.waits[k] := ⟨_, rfl⟩
      have hpw := hwat p (by rw [hp]; exact List.getElem_mem hkn)
      have hr1 : wr.rangeAt g (k * 129) (waitCells p) := by
        have := range_sub hrg (k * 129) 129 _ (flat_at waitCells 129 s.waits (fun x hx => waitCells_length x (hwat x hx).2) k hkn)
        rw [Nat.zero_add, ← hp] at this
        exact fun j v hv => (hbel.cell (p := ⟨g, k * 129 + j, none⟩) hg2).trans (this j v hv)
      have hl1 : (waitCells p).length = 129 := waitCells_length _ hpw.2
      have hl2 : (bvs p.2).length = 128 := by rw [bvs_length]; exact hpw.2
      have hw0 : (waitCells p)[0]? = some (.int .i64 (p.1 : Int)) := rfl
      have hw1 : (waitCells p).head? = some (.int .i64 (p.1 : Int)) := rfl
      have hnew := Blk.new wr 153 (waitCells p).toArray
      have hra : (wr.alloc (.cells (waitCells p).toArray 153)).rangeAt wr.heap.size 1 (bvs p.2) := by
        have := hnew.rangeAll
        have h2 := range_sub this 1 128 (bvs p.2) (by simp only [waitCells, List.drop_succ_cons, List.drop_zero]; exact List.take_of_length_le (by omega))
        exact h2
      have hszw := hblk.lt
      have hth : (wr.alloc (.cells (waitCells p).toArray 153)).there w.heap.size 0 128 := (hblk.alloc _).there_ 0 128 (by simp [bvs_length, readAt_length i _ _ (hsec _ (List.getElem_mem hi)) (fun q hq => (hwat q (List.mem_of_mem_take hq)).2)])
      have hrl : (bvs (readAt (s.waits.take k) i s.l[i])).length = 128 := by rw [bvs_length, readAt_length i _ _ (hsec _ (List.getElem_mem hi)) (fun q hq => (hwat q (List.mem_of_mem_take hq)).2)]
      have HP := hide hp
      have HR := hide hr1
      have HL := hide hl1
      have HL2 := hide hl2
      have HA := hide hra
      have HT := hide hth
      have HB := hide hblk
      have HRL := hide hrl
      clear hr1 hl1 hl2 hrg hra hth hp hblk hnew hrl
      by_cases hat : p.1 = i
      · have hta : ((p.1 : Int) == (i : Int)) = true := by simp [hat]
        go_wp2_with (first
          | (with_reducible show wpList _ _ _ (Oper.mk _ (.load 153 _) _ _ _ _ :: _) _ _; refine wpList_load_mid rfl 153 _ rfl g (k * 129) rfl (waitCells p) _ HR.out Try.underlying153 rfl (by rw [HL.out]; exact s153) ?_; simp only [Act.put, List.setIfInBounds_toArray, List.set_cons_zero, List.set_cons_succ, Nat.reduceAdd])
          | (with_reducible show wpList _ _ _ (Oper.mk _ (.alloc 153) _ _ _ _ :: _) _ _; refine wpList_alloc_row rfl 153 rfl 129 z153 ?_; intro zs hzs; have HZ := hide hzs; clear hzs; simp only [Act.put, List.setIfInBounds_toArray, List.set_cons_zero, List.set_cons_succ, Nat.reduceAdd])
          | (with_reducible show wpList _ _ _ (Oper.mk _ (.store 153 _ _) _ _ _ _ :: _) _ _; refine wpList_store_new rfl 153 _ _ rfl _ (waitCells p) rfl rfl ?_ ?_ (waitCells_one _) ?_; exact HL.out.trans HZ.out.symm; rw [HL.out]; exact s153; simp only [Act.put])
          | (with_reducible show wpList _ _ _ (Oper.mk _ (.load 151 _) _ _ _ _ :: _) _ _; refine wpList_load_mid rfl 151 _ rfl wr.heap.size 1 rfl (bvs p.2) _ HA.out Try.underlying151 rfl (by rw [HL2.out]; exact s151) ?_; simp only [Act.put, List.setIfInBounds_toArray, List.set_cons_zero, List.set_cons_succ, Nat.reduceAdd])
          | (with_reducible show wpList _ _ _ (Oper.mk _ (.store 151 _ _) _ _ _ _ :: _) _ _; refine wpList_store_mid rfl 151 _ _ rfl w.heap.size 0 (bvs p.2).toArray rfl rfl ?_ ?_ (all_oneCell_toArray (bvs_one _)) ?_; (simp only [List.size_toArray, HL2.out]; exact HT.out); (simp only [List.size_toArray, HL2.out]; exact s151); simp only [Act.put]))
        go_roundw
        case rel => exact ⟨k + 1, by omega, by go_num, by
            have hb2 := Blk.sets w.heap.size 151 (bvs p.2) 0 _ _ (HB.out.alloc (.cells (waitCells p).toArray 153)) (by rw [HL2.out, HRL.out]; omega)
            rw [splice_all _ _ (by rw [HL2.out, HRL.out])] at hb2
            rw [take_snoc _ _ hkn, readAt_snoc, ← HP.out, if_pos hat]
            exact hb2, (((Fr.ofBelow hbel).alloc _).setCells (.inl (Nat.le_refl _)) _ _).below (Nat.le_refl _) (fun _ h => h)⟩
        case measure => simp [intOf]; omega
      · have hta : ((p.1 : Int) == (i : Int)) = false := by simp; omega
        go_wp2_with (first
          | (with_reducible show wpList _ _ _ (Oper.mk _ (.load 153 _) _ _ _ _ :: _) _ _; refine wpList_load_mid rfl 153 _ rfl g (k * 129) rfl (waitCells p) _ HR.out Try.underlying153 rfl (by rw [HL.out]; exact s153) ?_; simp only [Act.put, List.setIfInBounds_toArray, List.set_cons_zero, List.set_cons_succ, Nat.reduceAdd])
          | (with_reducible show wpList _ _ _ (Oper.mk _ (.alloc 153) _ _ _ _ :: _) _ _; refine wpList_alloc_row rfl 153 rfl 129 z153 ?_; intro zs hzs; have HZ := hide hzs; clear hzs; simp only [Act.put, List.setIfInBounds_toArray, List.set_cons_zero, List.set_cons_succ, Nat.reduceAdd])
          | (with_reducible show wpList _ _ _ (Oper.mk _ (.store 153 _ _) _ _ _ _ :: _) _ _; refine wpList_store_new rfl 153 _ _ rfl _ (waitCells p) rfl rfl ?_ ?_ (waitCells_one _) ?_; exact HL.out.trans HZ.out.symm; rw [HL.out]; exact s153; simp only [Act.put]))
        go_roundw
        case rel => exact ⟨k + 1, by omega, by go_num, by
            rw [take_snoc _ _ hkn, readAt_snoc, ← HP.out, if_neg hat]
            exact HB.out.alloc _, hbel.alloc hbel.size _⟩
        case measure => simp [intOf]; omega
    · obtain rfl : k = n := by omega
      go_wp2
      go_ret2
      refine ⟨rfl, ?_, hbel⟩
      rw [List.take_of_length_le (by rw [HN.out]; omega)] at hblk
      rw [DSt.read, List.getD_eq_getElem?_getD, List.getElem?_eq_getElem hi]
      exact hblk
end Go.Proofs.Ytnnhklembdaieaa
