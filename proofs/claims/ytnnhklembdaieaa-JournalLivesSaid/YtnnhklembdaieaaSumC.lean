/- The counter: its table, sync.Once's Do, Long, Asked. -/
import Derived.Test.YtnnhklembdaieaaSumB
import Derived.Test.YtnnhklembdaieaaHold
namespace Go.Proofs.Ytnnhklembdaieaa
open Go.RowKit
set_option linter.unusedSimpArgs false
set_option linter.unusedVariables false

def tabN (i : Nat) : Nat := byteN 2197175160 0 (UInt8.ofNat i)
def tabV (i : Nat) : Value := .int .u32 (tabN i : Int)
def tabTo (k : Nat) (T : List Value) : List Value := (List.range k).map tabV ++ T.drop k
theorem tabTo_length (k : Nat) (T : List Value) (h : k ≤ T.length) : (tabTo k T).length = T.length := by simp [tabTo]; omega
theorem tabTo_succ (k : Nat) (T : List Value) (h : k < T.length) : (tabTo k T).set k (tabV k) = tabTo (k + 1) T := by
  unfold tabTo
  rw [List.set_append_right _ _ (by simp)]
  simp only [List.length_map, List.length_range, Nat.sub_self]
  rw [List.drop_eq_getElem_cons h, List.set_cons_zero, List.range_succ, List.map_append, List.append_assoc]
  rfl

set_option maxRecDepth 100000 in
set_option maxHeartbeats 800000 in
theorem fill_table (w : World) (b : Nat) (x0 x1 x2 : Value) (T Z : List Value) (hT : T.length = 256) (h : Blk w b 78 (x0 :: x1 :: x2 :: (T ++ Z)).toArray) :
    Calls Try.prog 86 #[.pointer (some ⟨b, 0, none⟩)] w fun e w' => e = .returned (.tuple #[]) ∧ Blk w' b 78 (x0 :: x1 :: x2 :: (tabTo 256 T ++ Z)).toArray ∧ Fr (fun k => k = b) w w' := by
  have h0 : tabTo 0 T = T := by simp [tabTo]
  go_enter Try.func86, Try.ntmps86
  go_wp2_with fail
  go_loopw [3] (fun i wr => ∃ k : Nat, k ≤ 256 ∧ i = .int .i64 k ∧ Blk wr b 78 (x0 :: x1 :: x2 :: (tabTo k T ++ Z)).toArray ∧ Fr (fun k => k = b) w wr) (fun i _ => 256 - (intOf i).toNat)
  case atStart => exact ⟨0, by omega, rfl, by rw [h0]; exact h, Fr.refl _ _⟩
  case round =>
    obtain ⟨k, hk, rfl, hb, hf⟩ := hrel
    have HB := hide hb
    by_cases hlt : k < 256
    · have hlen : (tabTo k T).length = 256 := by rw [tabTo_length _ _ (by omega), hT]
      obtain ⟨old, hold⟩ : ∃ old, wr.drew.cell? ⟨b, 3 + k, none⟩ = some old := by
        have e : wr.drew.cell? ⟨b, 3 + k, none⟩ = (x0 :: x1 :: x2 :: (tabTo k T ++ Z)).toArray[3 + k]? := hb.drew.cell (3 + k)
        rw [e]
        exact ⟨_, Array.getElem?_eq_getElem (by simp [hlen]; omega)⟩
      have hfz : wr.drew.frozen? ⟨b, 3 + k, none⟩ = false := hb.drew.frozen (3 + k)
      have hku : (UInt8.ofNat k).toNat = k := by simp; omega
      have hbo : ∀ w, Calls Try.prog 114 #[.int .u32 0, .int .u8 (k : Int), .int .u32 2197175160] w fun e w' => e = .returned (.int .u32 (tabN k : Int)) ∧ w = w' := fun w => by
        have := byteOn_ok 0 2197175160 (UInt8.ofNat k) w (by omega) (by omega)
        rw [hku] at this
        exact this
      have htv : tabV k = .int .u32 (tabN k : Int) := rfl
      obtain ⟨y, hy⟩ : ∃ y, y = tabN k := ⟨_, rfl⟩
      rw [← hy] at hbo htv
      have hset : (x0 :: x1 :: x2 :: (tabTo k T ++ Z)).set (3 + k) (tabV k) = x0 :: x1 :: x2 :: (tabTo (k + 1) T ++ Z) := by
        rw [show 3 + k = k + 1 + 1 + 1 by omega]
        simp only [List.set_cons_succ]
        rw [List.set_append_left _ _ (by omega), tabTo_succ _ _ (by omega)]
      have HSET := hide hset
      have HTV := hide htv
      have hk0 : (0 : Int) ≤ (k : Int) := by omega
      have hk1 : (k : Int) < 256 := by omega
      have hwr : IntKind.u8.wrap (k : Int) = (k : Int) := by rw [IntKind.wrap_u8']; omega
      clear hb hset hlen hku hy htv
      go_wp2_with fail
      refine wp_region_held 8 (fun _ => True) (fun i => i == 4) (by kernel_rfl) (by kernel_rfl) trivial (fun ops hops F hF => ?_)
      clear hops
      simp only [List.take_succ_cons, List.take_zero, List.drop_succ_cons, List.drop_zero] at hF ⊢
      iterate 4 (refine held_q rfl rfl ?_; apply Exists.intro; refine ⟨fun w' hw' => ?_, ?_⟩; (go_simp; rfl); simp only [Act.put, List.setIfInBounds_toArray, List.set_cons_zero, List.set_cons_succ, Nat.reduceAdd])
      refine held_loud rfl rfl (fun K hK => ?_)
      go_simp
      refine (hbo wr.drew).mono ?_
      rintro e w1 ⟨rfl, rfl⟩
      refine hK _ _ trivial ?_
      clear hK K hbo
      simp only [Act.put, List.setIfInBounds_toArray, List.set_cons_zero, List.set_cons_succ, Nat.reduceAdd]
      iterate 3 (refine held_q rfl rfl ?_; apply Exists.intro; refine ⟨fun w' hw' => ?_, ?_⟩; (go_simp; rfl); simp only [Act.put, List.setIfInBounds_toArray, List.set_cons_zero, List.set_cons_succ, Nat.reduceAdd])
      refine held_nil (hF _ _ ?_)
      clear hF F
      go_wp2
      go_roundw
      case rel => exact ⟨k + 1, by omega, by go_num, by
        have := HB.out.drew.set_ (3 + k) (tabV k)
        rw [List.setIfInBounds_toArray, HSET.out, HTV.out] at this
        exact this, hf.drew.setCell (p := ⟨b, 3 + k, none⟩) (.inl rfl) _⟩
      case measure => simp [intOf] <;> omega
    · obtain rfl : k = 256 := by omega
      clear hb
      go_wp2
      go_end0
      exact ⟨rfl, HB.out, hf⟩

set_option maxRecDepth 100000 in
set_option maxHeartbeats 3200000 in
theorem slow_ok (w : World) (b : Nat) (x2 : Value) (T Z : List Value) (hT : T.length = 256) (h : Blk w b 78 (.int .u32 0 :: .int .i32 0 :: x2 :: (T ++ Z)).toArray) :
    Calls Try.prog 113 #[.pointer (some ⟨b, 0, none⟩), .func (.func 86) #[.pointer (some ⟨b, 0, none⟩)] #[]] w fun e w' => e = .returned (.tuple #[]) ∧ Blk w' b 78 (.int .u32 1 :: .int .i32 0 :: x2 :: (tabTo 256 T ++ Z)).toArray ∧ Fr (fun k => k = b) w w' := by
  have h1 : Blk (w.setCell ⟨b, 1, none⟩ (.int .i32 1)) b 78 (.int .u32 0 :: .int .i32 1 :: x2 :: (T ++ Z)).toArray := by
    have := h.set_ 1 (.int .i32 1)
    simpa using this
  have c1 : w.cell? ⟨b, 1, none⟩ = some (.int .i32 0) := (h.cell 1).trans rfl
  have z1 := h.frozen 1
  have c0' : (w.setCell ⟨b, 1, none⟩ (.int .i32 1)).cell? ⟨b, 0, none⟩ = some (.int .u32 0) := (h1.cell 0).trans rfl
  have hf1 : Fr (fun k => k = b) w (w.setCell ⟨b, 1, none⟩ (.int .i32 1)) := (Fr.refl (fun k => k = b) w).setCell (p := ⟨b, 1, none⟩) (.inl rfl) _
  have hl := run_call_load (P := Try.prog) Try.func120 (by kernel_rfl) (by kernel_rfl) (by kernel_rfl) .u32 (by kernel_rfl) (w := w.setCell ⟨b, 1, none⟩ (.int .i32 1)) (a := ⟨b, 0, none⟩) (x := 0) c0'
  have hnot : ∀ (x : Bool) (w : World), (Op.unary .not (.bool x)).run Try.prog w = .ok (.bool (!x)) w := fun _ _ => rfl
  have H1 := hide h1
  have HF1 := hide hf1
  clear h h1 hf1
  go_enter_defers Try.func113, Try.ntmps113
  go_wp2_with (first | (go_at_call 121; refine (lock_free ⟨b, 1, none⟩ _ c1 z1).mono ?_; rintro e w' ⟨rfl, rfl⟩) | (go_at_call 112; go_in))
  refine (fill_table _ b _ _ _ T Z hT H1.out).mono ?_
  rintro e w2 ⟨rfl, h2, f2⟩
  have f3 := HF1.out.trans f2 (fun k hk => .inl hk)
  have c0 : w2.cell? ⟨b, 0, none⟩ = some (.int .u32 0) := (h2.cell 0).trans rfl
  have z0 := h2.frozen 0
  have h3 : Blk (w2.drew.setCell ⟨b, 0, none⟩ (.int .u32 1)) b 78 (.int .u32 1 :: .int .i32 1 :: x2 :: (tabTo 256 T ++ Z)).toArray := by
    have := h2.drew.set_ 0 (.int .u32 1)
    simpa using this
  have h4 : Blk ((w2.drew.setCell ⟨b, 0, none⟩ (.int .u32 1)).setCell ⟨b, 1, none⟩ (.int .i32 0)) b 78 (.int .u32 1 :: .int .i32 0 :: x2 :: (tabTo 256 T ++ Z)).toArray := by
    have := h3.set_ 1 (.int .i32 0)
    simpa using this
  have f4 : Fr (fun k => k = b) w ((w2.drew.setCell ⟨b, 0, none⟩ (.int .u32 1)).setCell ⟨b, 1, none⟩ (.int .i32 0)) := (f3.drew.setCell (p := ⟨b, 0, none⟩) (.inl rfl) _).setCell (p := ⟨b, 1, none⟩) (.inl rfl) _
  have H3 := hide h3
  have H4 := hide (And.intro h4 f4)
  clear h2 f2 h3 h4 f3 f4
  go_wp2
  refine leaves_cons (f := 123) (args := #[.pointer (some ⟨b, 0, none⟩), .bool true]) (by simp) (by simp [go_sem]) ?_
  refine (store_deferred ⟨b, 0, none⟩ (.int .u32 0) .returning _ c0 z0).mono ?_
  rintro e u' w'' ⟨rfl, rfl, rfl⟩
  refine leaves_cons (f := 122) (args := #[.pointer (some ⟨b, 1, none⟩)]) (by simp [settle]) (by simp [go_sem]) ?_
  refine (unlock_deferred ⟨b, 1, none⟩ _ _ ((H3.out.cell 1).trans rfl) (H3.out.frozen 1)).mono ?_
  rintro e u' w'' ⟨rfl, rfl, rfl⟩
  have hx := H4.out
  simp [Leaves, settle, results, Try.results113]
  exact hx
end Go.Proofs.Ytnnhklembdaieaa
