/- The disk: New, Counts, Waits. -/
import Derived.Test.YtnnhklembdaieaaDiskA
namespace Go.Proofs.Ytnnhklembdaieaa
open Go.RowKit

theorem info151 : (Try.prog.info? 151).map (fun i => (i.size, i.bytes, i.zero.map (·.cells.toList))) = some (128, 128, some (List.replicate 128 (.int .u8 0))) := by kernel_rfl
theorem info153 : (Try.prog.info? 153).map (fun i => (i.size, i.bytes, i.zero.map (·.cells.toList))) = some (129, 136, some (.int .i64 0 :: List.replicate 128 (.int .u8 0))) := by kernel_rfl
/-- a sector of noughts. -/
def zsec : List UInt8 := List.replicate 128 0
theorem zsec_length : zsec.length = 128 := by simp [zsec]
def DSt.new (n : Nat) : DSt := ⟨List.replicate n zsec, [], 0, 0⟩
theorem flat_new (n : Nat) : (List.replicate n zsec).flatten = List.replicate (n * 128) 0 := by
  unfold zsec; exact List.flatten_replicate_replicate
theorem DSt.new_ok (n : Nat) (h : n ≤ 4096) : (DSt.new n).Ok :=
  ⟨fun x hx => by simp [DSt.new] at hx; rw [hx.2, zsec_length], fun p hp => by simp [DSt.new] at hp, by simp [DSt.new]; omega, by simp [DSt.new]⟩

theorem new_no (n : Int) (w : World) (h : n < 4 ∨ 4096 < n) : Calls Try.prog 21 #[.int .i64 n] w fun e w' => e = .returned (.tuple #[.pointer none, .int .i64 1]) ∧ w = w' := by
  rcases h with h | h
  · go_enter Try.func21, Try.ntmps21
    go_wp2
    go_ret2
    exact ⟨rfl, rfl⟩
  · have h' : ¬ n < 4 := by omega
    go_enter Try.func21, Try.ntmps21
    go_wp2
    go_ret2
    exact ⟨rfl, rfl⟩

theorem new_yes (n : Nat) (w : World) (h1 : 4 ≤ n) (h2 : n ≤ 4096) : Calls Try.prog 21 #[.int .i64 (n : Int)] w fun e w' =>
    e = .returned (.tuple #[.pointer (some ⟨w.heap.size + 1, 0, none⟩), .int .i64 0]) ∧ DiskAt w' w.heap.size (w.heap.size + 1) w.heap.size (.slice none 0 0) (DSt.new n) ∧ Below w.heap.size w w' := by
  obtain ⟨i, z, hi, hz, hzl, hs, hb⟩ := infoN info151
  have hmk : ∀ W : World, (Instr.makeSlice 53 (.int .i64 (n : Int)) (.int .i64 (n : Int))).run Try.prog W = .ok (.slice (some ⟨W.heap.size, 0, none⟩) n n) (W.alloc (.cells (bvs (List.replicate (n * 128) 0)).toArray 151)) := by
    intro W
    have hr := run_make (P := Try.prog) W 53 151 i z Try.underlying53 hi hz .i64 .i64 n n (by omega) (by omega) (by rw [hb]; omega) (by omega)
    rw [hr, hs, madeCells_replicate _ _ _ _ (by omega) hzl]
    simp [bvs, bv]
  clear hi hz hzl hs hb
  go_enter Try.func21, Try.ntmps21
  go_wp2
  go_ret2
  refine ⟨rfl, ?_, ((Below.refl _ _).alloc (Nat.le_refl _) _).alloc (by simp) _⟩
  exact ⟨DSt.new_ok n h2, by simpa [DSt.new] using Blk.new (w.alloc (.cells (bvs (List.replicate (n * 128) 0)).toArray 151)) 61 _,
    by rw [DSt.new, flat_new]; exact (Blk.new w 151 _).alloc _, World.ownsRow_nil _ _ _ _, by omega, by omega⟩

theorem counts_nil (w : World) : Calls Try.prog 34 #[.pointer none] w fun e w' => e = .returned (.tuple #[.int .i64 0, .int .i64 0]) ∧ w = w' := by
  go_enter Try.func34, Try.ntmps34
  go_wp2
  go_ret2
  exact ⟨rfl, rfl⟩

theorem counts_any (d : Nat) (x y : Int) (w : World) (hx : w.cell? ⟨d, 2, none⟩ = some (.int .i64 x)) (hy : w.cell? ⟨d, 3, none⟩ = some (.int .i64 y)) :
    Calls Try.prog 34 #[.pointer (some ⟨d, 0, none⟩)] w fun e w' => e = .returned (.tuple #[.int .i64 x, .int .i64 y]) ∧ ∃ n, w.drewN n = w' := by
  go_enter Try.func34, Try.ntmps34
  go_wp2_with fail
  go_quiet (first | (go_at_call_of 84 (2 : Nat); exact quiet_left (load64_any _ _ _ _ (by simpa using hx))) | (go_at_call 84; exact quiet_left (load64_any _ _ _ _ (by simpa using hy))))
  go_wp2
  go_ret2
  exact ⟨rfl, _, rfl⟩

theorem waits_nil (w : World) : Calls Try.prog 36 #[.pointer none] w fun e w' => e = .returned (.slice none 0 0) ∧ w = w' := by
  go_enter Try.func36, Try.ntmps36
  go_wp2
  go_ret
  exact ⟨rfl, rfl⟩
theorem waitCells_length (p : Nat × List UInt8) (h : p.2.length = 128) : (waitCells p).length = 129 := by simp [waitCells, bvs_length, h]
theorem waitCells_one (p : Nat × List UInt8) : ∀ v ∈ waitCells p, v.oneCell' = true := by
  intro v hv
  simp only [waitCells, List.mem_cons] at hv
  rcases hv with rfl | hv
  · rfl
  · exact bvs_one _ v hv

theorem z153 : (Try.prog.info? 153).map (fun i => i.zero.map (·.cells.size)) = some (some 129) := by kernel_rfl
theorem s153 : (Try.prog.info? 153).map (·.size) = some 129 := by kernel_rfl
theorem s151 : (Try.prog.info? 151).map (·.size) = some 128 := by kernel_rfl
theorem info3 : (Try.prog.info? 3).map (fun i => (i.zero, i.size, i.bytes)) = some (some (.int .i64 0), 1, 8) := by kernel_rfl

theorem run_build_wait (i : Int) (x : List UInt8) (hx : x.length = 128) (W : World) :
    (Instr.build 153 #[(0, .int .i64 i), (1, .agg (bvs x).toArray)]).run Try.prog W = .ok (.agg (.int .i64 i :: bvs x).toArray) W := by
  obtain ⟨i0, z, hi, hz, hzl, hs, hb⟩ := infoN info153
  obtain ⟨i1, z1, hi1, hz1, hzl1, hs1, hb1⟩ := infoN info151
  obtain ⟨i3, hi3, hz3, hs3, hb3⟩ := info_parts info3
  obtain ⟨R, hR, hzl'⟩ : ∃ R : List Value, R.length = 128 ∧ z.cells.toList = .int .i64 0 :: R := ⟨_, List.length_replicate .., hzl⟩
  clear hzl hzl1
  have hzc : z.cells = (Value.int .i64 0 :: R).toArray := by rw [← hzl']
  have h1 : ∀ p : List (Nat × Nat), p = [(0, 1), (1, 128)] → Instr.fill (fun x => p[x]?) z.cells [(0, .int .i64 i), (1, .agg (bvs x).toArray)] = some (.int .i64 i :: bvs x).toArray := by
    rintro p rfl
    have e1 : (splice (Value.int IntKind.i64 0 :: R) 0 (Value.int IntKind.i64 i).cells.toList) = Value.int .i64 i :: R := rfl
    have e2 : (splice (Value.int IntKind.i64 i :: R) 1 (bvs x)) = Value.int .i64 i :: bvs x := by
      unfold splice
      rw [List.drop_eq_nil_of_le (by simp [bvs_length, hx, hR])]
      simp
    rw [fill_one _ _ 0 0 1 _ _ rfl rfl (by rw [hzc]; simp), hzc]
    simp only []
    rw [e1, fill_one _ _ 1 1 128 _ _ rfl (by simp [Value.cells, bvs_length, hx]) (by simp [hR])]
    simp only [Instr.fill, Value.cells]
    rw [e2]
  have h2 := h1 _ rfl
  simp [Instr.build, zeroValue, typeInfo, hi, hz, run_underlying Try.underlying153, sizeOf, hi1, hi3, hs1, hs3]
  rw [h2]
  rfl

set_option maxHeartbeats 400000 in
theorem waits_any (w : World) (base d bl : Nat) (wv : Value) (s : DSt) (h : DiskAt w base d bl wv s) :
    Calls Try.prog 36 #[.pointer (some ⟨d, 0, none⟩)] w fun e w' => ∃ v, e = .returned v ∧ w'.ownsRow w.heap.size 3 1 v s.waits.length (s.waits.map fun p => .int .i64 (p.1 : Int)) ∧ Below w.heap.size w w' := by
  obtain ⟨A, cap, rfl, hcap, hmax, hA⟩ := own_shape h.hw
  have hc1 := h.hd.cell 1
  have hnum := h.ok.cnt.1
  have hwat := h.ok.wat
  simp at hc1
  generalize hn : s.waits.length = n at *
  have HN := hide hn; clear hn
  obtain ⟨i0, hi0, hz0, hz1, hz2⟩ := info_parts info3
  go_enter Try.func36, Try.ntmps36
  go_wp2_with fail
  go_loopw [3, 13] (fun v i wr => ∃ k : Nat, k ≤ n ∧ i = .int .i64 k ∧ wr.ownsRow w.heap.size 3 1 v k ((s.waits.take k).map fun p => .int .i64 (p.1 : Int)) ∧ Below w.heap.size w wr) (fun _ i _ => n - (intOf i).toNat)
  case atStart => exact ⟨0, Nat.zero_le _, rfl, by simpa using World.ownsRow_nil _ _ _ _, Below.refl _ _⟩
  case round =>
    obtain ⟨k, hk, rfl, hown, hbel⟩ := hrel
    by_cases hlt : k < n
    · obtain ⟨g, rfl, hg1, hg2, hrg⟩ := hA (by omega)
      have hkn : k < s.waits.length := by rw [HN.out]; exact hlt
      have hr1 : wr.rangeAt g (k * 129) (waitCells s.waits[k]) := by
        have := range_sub hrg (k * 129) 129 _ (flat_at waitCells 129 s.waits (fun x hx => waitCells_length x (hwat x hx).2) k hkn)
        rw [Nat.zero_add] at this
        exact fun j v hv => (hbel.cell (p := ⟨g, k * 129 + j, none⟩) hg2).trans (this j v hv)
      have hl1 : (waitCells s.waits[k]).length = 129 := waitCells_length _ (hwat _ (List.getElem_mem hkn)).2
      have hw0 : (waitCells s.waits[k])[0]? = some (.int .i64 (s.waits[k].1 : Int)) := rfl
      have hw1 : (waitCells s.waits[k]).head? = some (.int .i64 (s.waits[k].1 : Int)) := rfl
      have HR := hide hr1
      have HL := hide hl1
      clear hr1 hl1 hrg
      go_wp2_with (first
        | (with_reducible show wpList _ _ _ (Oper.mk _ (.load 153 _) _ _ _ _ :: _) _ _; refine wpList_load_mid rfl 153 _ rfl g (k * 129) rfl (waitCells s.waits[k]) _ HR.out Try.underlying153 rfl (by rw [HL.out]; exact s153) ?_; simp only [Act.put, List.setIfInBounds_toArray, List.set_cons_zero, List.set_cons_succ])
        | (with_reducible show wpList _ _ _ (Oper.mk _ (.alloc 153) _ _ _ _ :: _) _ _; refine wpList_alloc_row rfl 153 rfl 129 z153 ?_; intro zs hzs; have HZ := hide hzs; clear hzs; simp only [Act.put, List.setIfInBounds_toArray, List.set_cons_zero, List.set_cons_succ])
        | (with_reducible show wpList _ _ _ (Oper.mk _ (.store 153 _ _) _ _ _ _ :: _) _ _; refine wpList_store_new rfl 153 _ _ rfl _ (waitCells s.waits[k]) rfl rfl ?_ ?_ (waitCells_one _) ?_; exact HL.out.trans HZ.out.symm; rw [HL.out]; exact s153; simp only [Act.put])
        | (at_builtin; refine wpList_append_own_at _ rfl _ _ 48 rfl w.heap.size 3 i0 _ 1 8 Try.underlying48 hi0 hz0 hz1 hz2 rfl (by omega) u3 k _ rfl ((hown.alloc _).alloc _) ⟨wr.heap.size + 1, 0, none⟩ 1 1 [.int .i64 (s.waits[k].1 : Int)] rfl rfl (news_one _ _ _ _) (by simp [Value.oneCell']) (by unfold maxLen; omega) (by omega) ?_ ?_; (have := hbel.size; simp; omega); intro v' w1 hown' hgrow _ _))
      have hb2 : Below w.heap.size w w1 := (((hbel.alloc hbel.size _).alloc (by have := hbel.size; simp; omega) _).grown hgrow (by have := hbel.size; simp; omega) (fun g he => (hown.lt g he).1))
      go_roundw
      case rel => exact ⟨k + 1, by omega, by go_num, by rw [take_snoc _ _ hkn, List.map_append]; exact hown', hb2⟩
      case measure => simp [intOf]; omega
    · obtain rfl : k = n := by omega
      go_wp2
      go_ret
      exact ⟨_, rfl, by rw [List.take_of_length_le (by rw [HN.out]; omega)] at hown; exact hown, hbel⟩
end Go.Proofs.Ytnnhklembdaieaa
