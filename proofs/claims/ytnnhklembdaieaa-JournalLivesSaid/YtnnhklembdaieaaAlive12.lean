/- The super's fixed calls (alive of pigeonloftlaw12) come out as they must. -/
import Derived.Test.YtnnhklembdaieaaSuperD
namespace Go.Proofs.Ytnnhklembdaieaa
open Go.RowKit
set_option linter.unusedSimpArgs false
set_option linter.unusedVariables false

theorem newestE (w : World) (base d bl : Nat) (wv : Value) (S : DSt) (hD : DiskAt w base d bl wv S) (h2 : 2 ≤ S.l.length) (r : Value) (hr : newRes (newestS (S.read 0) (S.read 1)) = r) :
    Calls Try.prog 81 #[.pointer (some ⟨d, 0, none⟩)] w fun e w' => e = .returned r ∧ Below w.heap.size w w' := by
  subst hr
  exact newest_ok w base d bl wv S hD h2 _ _ rfl rfl
theorem superPutE (w : World) (base d bl : Nat) (wv : Value) (S : DSt) (hD : DiskAt w base d bl wv S) (h2 : 2 ≤ S.l.length) (hcnt : S.waits.length < 1000000000 ∧ S.writes < 1000000000000) (s : SU) (h : s.right = true) (k : Nat) (hk : s.gen % 2 = k) (v : Value) (hv : superV s = v) :
    Calls Try.prog 79 #[.pointer (some ⟨d, 0, none⟩), v] w fun e w' => e = .returned (.int .i64 0) ∧ ∃ wv', DiskAt w' base d bl wv' (S.write k (superBytes s)) ∧ Fr (dfoot d bl wv) w w' ∧ (∀ k, wv'.ownBlock = some k → wv.ownBlock = some k ∨ w.heap.size ≤ k) := by
  subst hv hk
  exact superPut_ok w base d bl wv S hD h2 hcnt s h
theorem newestS_two {a b : List UInt8} {s t : SU} (ha : slotS 0 a = some s) (hb : slotS 1 b = some t) : newestS a b = if s.gen < t.gen then some t else some s := by
  unfold newestS; rw [ha, hb]
theorem new_read (n i : Nat) (hi : i < n) : (DSt.new n).read i = zsec := by
  unfold DSt.read DSt.new
  simp only [readAt, List.foldl_nil, List.getD_eq_getElem?_getD, List.getElem?_replicate, if_pos hi, Option.getD_some]
theorem slotS_zero (k : Nat) : slotS k zsec = none := by unfold slotS zsec; rw [readS_zero]
theorem newest_new : newestS ((DSt.new 4).read 0) ((DSt.new 4).read 1) = none := by
  rw [new_read 4 0 (by omega), new_read 4 1 (by omega)]
  unfold newestS
  rw [slotS_zero, slotS_zero]

def al12 : DSt := ((DSt.new 4).write 1 (superBytes ⟨5, 1, 7⟩)).write 0 (superBytes ⟨4, 0, 0⟩)
theorem al12_newest : newestS (al12.read 0) (al12.read 1) = some ⟨5, 1, 7⟩ := by
  have h0 : al12.read 0 = superBytes ⟨4, 0, 0⟩ := by unfold al12; simp [DSt.write, DSt.read, readAt_snoc, readAt]
  have h1 : al12.read 1 = superBytes ⟨5, 1, 7⟩ := by unfold al12; simp [DSt.write, DSt.read, readAt_snoc, readAt]
  rw [h0, h1, newestS_two (slotS_super (by decide) 0 rfl) (slotS_super (by decide) 1 rfl)]
  rfl

set_option maxRecDepth 100000 in
set_option maxHeartbeats 3200000 in
theorem alive12 (w : World) : Calls Try.prog 71 #[] w fun e w' => e = .returned (.bool true) ∧ Below w.heap.size w w' := by
  go_enter Try.func71, Try.ntmps71
  go_wp2_with fail
  refine (newE 4 w (by omega) (by omega)).mono ?_
  rintro e w1 ⟨d, bl, rfl, h1, b1⟩
  have hn : Calls Try.prog 81 #[.pointer (some ⟨d, 0, none⟩)] w1 fun e w' => e = .returned (.tuple #[.agg #[.int .u64 0, .int .i64 0, .int .i64 0], .int .i64 4]) ∧ Below w1.heap.size w1 w' := newestE w1 _ d bl _ _ h1 (by simp [DSt.new]) _ (by rw [newest_new]; rfl)
  go_wp2_with fail
  refine hn.mono ?_
  rintro e w2 ⟨rfl, b2⟩
  have h2 := (h1.below b2 (Nat.le_refl _)).fr ((Fr.refl nob w2).alloc (.cells #[.int .u64 0, .int .i64 0, .int .i64 0] 115)) (fun _ _ h => h)
  have b2' := ((b1.trans (b2.mono b1.size)).alloc (by have := b1.size; have := b2.size; omega) (.cells #[.int .u64 0, .int .i64 0, .int .i64 0] 115))
  clear hn h1 b1 b2
  go_upto_region 5 with fail
  obtain ⟨w3, hw3⟩ : ∃ w3, w3 = w2.alloc (.cells #[.int .u64 0, .int .i64 0, .int .i64 0] 115) := ⟨_, rfl⟩
  rw [← hw3] at h2 b2' ⊢
  clear hw3
  have hp1 : Calls Try.prog 79 #[.pointer (some ⟨d, 0, none⟩), .agg #[.int .u64 5, .int .i64 1, .int .i64 7]] w3 fun e w' => e = .returned (.int .i64 0) ∧ ∃ wv', DiskAt w' w.heap.size d bl wv' ((DSt.new 4).write 1 (superBytes ⟨5, 1, 7⟩)) ∧ Fr (dfoot d bl (.slice none 0 0)) w3 w' ∧ (∀ k, wv'.ownBlock = some k → (Value.slice none 0 0).ownBlock = some k ∨ w3.heap.size ≤ k) :=
    superPutE w3 _ d bl _ _ h2 (by simp [DSt.new]) (by simp [DSt.new]) ⟨5, 1, 7⟩ (by decide) 1 rfl _ rfl
  go_wp2_with fail
  refine hp1.mono ?_
  rintro e w4 ⟨rfl, wv4, h4, f4, _⟩
  have b4 := b2'.trans (h2.isBelow f4 b2'.size)
  clear hp1 h2 f4 b2'
  have hp2 : Calls Try.prog 79 #[.pointer (some ⟨d, 0, none⟩), .agg #[.int .u64 4, .int .i64 0, .int .i64 0]] w4 fun e w' => e = .returned (.int .i64 0) ∧ ∃ wv', DiskAt w' w.heap.size d bl wv' al12 ∧ Fr (dfoot d bl wv4) w4 w' ∧ (∀ k, wv'.ownBlock = some k → wv4.ownBlock = some k ∨ w4.heap.size ≤ k) :=
    superPutE w4 _ d bl _ _ h4 (by simp [DSt.new, DSt.write]) (by simp [DSt.new, DSt.write]) ⟨4, 0, 0⟩ (by decide) 0 rfl _ rfl
  go_wp2_with fail
  refine hp2.mono ?_
  rintro e w5 ⟨rfl, wv5, h5, f5, _⟩
  have b5 := b4.trans (h4.isBelow f5 b4.size)
  clear hp2 h4 f5 b4
  have hn : Calls Try.prog 81 #[.pointer (some ⟨d, 0, none⟩)] w5 fun e w' => e = .returned (.tuple #[.agg #[.int .u64 5, .int .i64 1, .int .i64 7], .int .i64 0]) ∧ Below w5.heap.size w5 w' := newestE w5 _ d bl _ _ h5 (by simp [al12, DSt.new, DSt.write]) _ (by rw [al12_newest]; rfl)
  go_wp2_with fail
  refine hn.mono ?_
  rintro e w6 ⟨rfl, b6⟩
  have b6' := (b5.trans (b6.mono b5.size)).alloc (by have := b5.size; have := b6.size; omega) (.cells #[.int .u64 5, .int .i64 1, .int .i64 7] 115)
  have k7 := Blk.new w6 115 #[.int .u64 5, .int .i64 1, .int .i64 7]
  clear hn h5 b5 b6
  go_upto_region 8 with fail
  obtain ⟨g7, hg7⟩ : ∃ g7, g7 = w6.heap.size := ⟨_, rfl⟩
  obtain ⟨w7, hw7⟩ : ∃ w7, w7 = w6.alloc (.cells #[.int .u64 5, .int .i64 1, .int .i64 7] 115) := ⟨_, rfl⟩
  rw [← hw7] at b6' k7 ⊢
  rw [← hg7] at k7 ⊢
  clear hw7 hg7
  have hwr : Calls Try.prog 73 #[.agg #[.int .u64 1, .int .i64 0, .int .i64 0]] w7 fun e w' => ∃ A cap, e = .returned (.tuple #[.slice A 128 cap, .int .i64 0]) ∧ w'.ownsRow w7.heap.size 5 1 (.slice A 128 cap) 128 (bvs (superBytes ⟨1, 0, 0⟩)) ∧ Below w7.heap.size w7 w' := swriteE ⟨1, 0, 0⟩ (by decide) w7
  go_wp2_with fail
  refine hwr.mono ?_
  rintro e w8 ⟨A8, c8, rfl, _, b8⟩
  have k8 := k7.below b8 k7.lt
  have b8' := b6'.trans (b8.mono b6'.size)
  clear hwr k7 b6' b8
  have hnn : Calls Try.prog 81 #[.pointer none] w8 fun e w' => e = .returned (.tuple #[.agg #[.int .u64 0, .int .i64 0, .int .i64 0], .int .i64 6]) ∧ Below w8.heap.size w8 w' := newest_nil w8
  go_wp2_with fail
  refine hnn.mono ?_
  rintro e w9 ⟨rfl, b9⟩
  have k9 := (k8.below b9 k8.lt).alloc (.cells #[.int .u64 0, .int .i64 0, .int .i64 0] 115)
  have b9' := (b8'.trans (b9.mono b8'.size)).alloc (by have := b8'.size; have := b9.size; omega) (.cells #[.int .u64 0, .int .i64 0, .int .i64 0] 115)
  clear hnn k8 b8' b9
  go_upto_region 10 with fail
  obtain ⟨w10, hw10⟩ : ∃ w10, w10 = w9.alloc (.cells #[.int .u64 0, .int .i64 0, .int .i64 0] 115) := ⟨_, rfl⟩
  rw [← hw10] at k9 b9' ⊢
  clear hw10
  have c0 := k9.cell 0
  have c1 := k9.cell 1
  have c2 := k9.cell 2
  simp at c0 c1 c2
  have hpn : Calls Try.prog 79 #[.pointer (some ⟨d, 0, none⟩), .agg #[.int .u64 0, .int .i64 0, .int .i64 0]] w10 fun e w' => e = .returned (.int .i64 3) ∧ Below w10.heap.size w10 w' := superPut_no _ SU.zero (by decide) w10
  go_wp2_with fail
  refine hpn.mono ?_
  rintro e w11 ⟨rfl, b11⟩
  go_wp2
  go_ret
  exact ⟨rfl, b9'.trans (b11.mono b9'.size)⟩
end Go.Proofs.Ytnnhklembdaieaa
