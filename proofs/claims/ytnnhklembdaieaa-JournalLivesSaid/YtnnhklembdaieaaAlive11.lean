/- The disk's fixed calls (alive of pigeonloftlaw11) come out as they must. -/
import Derived.Test.YtnnhklembdaieaaFillA
import Derived.Lib.SlBytesConst
namespace Go.Proofs.Ytnnhklembdaieaa
open Go.RowKit
set_option linter.unusedSimpArgs false
set_option linter.unusedVariables false

theorem DiskAt.keep {w w' : World} {base d bl : Nat} {wv : Value} {s : DSt} (h : DiskAt w base d bl wv s) (hf : Fr (dfoot d bl wv) w w') {k : Nat} {t : TypeId} {cs : Array Value} (hk : Blk w k t cs) (h1 : t ≠ 61) (h2 : t ≠ 153) (h3 : t ≠ 151 ∨ k ≠ bl) : Blk w' k t cs :=
  hk.fr hf (h.off hk h1 h2 h3)
theorem DiskAt.below {w w' : World} {B base d bl : Nat} {wv : Value} {s : DSt} (h : DiskAt w base d bl wv s) (hb : Below B w w') (hB : w.heap.size ≤ B) : DiskAt w' base d bl wv s :=
  h.fr (Fr.ofBelow hb) (fun k hk => by have := (h.low k hk).2; omega)
theorem DiskAt.isBelow {w w' : World} {base d bl : Nat} {wv : Value} {s : DSt} (h : DiskAt w base d bl wv s) (hf : Fr (dfoot d bl wv) w w') (hb : base ≤ w.heap.size) : Below base w w' :=
  hf.below hb (fun k hk => (h.low k hk).1)
theorem DiskAt.size {w : World} {base d bl : Nat} {wv : Value} {s : DSt} (h : DiskAt w base d bl wv s) : base ≤ w.heap.size := by have := h.bd; have := h.hd.lt; omega
theorem DiskAt.gb {w : World} {base d bl : Nat} {wv : Value} {s : DSt} (h : DiskAt w base d bl wv s) {k : Nat} {t : TypeId} {cs : Array Value} (hk : Blk w k t cs) (h2 : t ≠ 153) : wv.ownBlock ≠ some k := own_ne h.hw hk (Ne.symm h2)

theorem Below.of_alloc {w w' : World} {o : Obj} (h : Below (w.alloc o).heap.size (w.alloc o) w') : Below w.heap.size w w' := ((Below.refl _ w).alloc (Nat.le_refl _) o).trans (h.mono (by simp))
theorem Below.of_drew {w w' : World} {B : Nat} (h : Below B w.drew w') : Below B w w' := ((Below.refl _ w).drew).trans h
theorem crashNil (w : World) (base d bl : Nat) (wv : Value) (s : DSt) (h : DiskAt w base d bl wv s) (hpos : 0 < s.l.length) :
    Calls Try.prog 26 #[.pointer (some ⟨d, 0, none⟩), .slice none 0 0] w fun e w' => e = .returned (.int .i64 0) ∧ DiskAt w' base d bl (.slice none 0 0) (s.crash []) ∧ Fr (dfoot d bl wv) w w' :=
  crash_ok w base d bl wv s h hpos none 0 0 [] (SlAt.nil _ _) (fun a h _ => by cases h) (by omega)
/-! ### the contracts as the statements use them: each new block a letter -/
theorem newE (n : Nat) (w : World) (h1 : 4 ≤ n) (h2 : n ≤ 4096) : Calls Try.prog 21 #[.int .i64 (n : Int)] w fun e w' =>
    ∃ d bl, e = .returned (.tuple #[.pointer (some ⟨d, 0, none⟩), .int .i64 0]) ∧ DiskAt w' w.heap.size d bl (.slice none 0 0) (DSt.new n) ∧ Below w.heap.size w w' :=
  (new_yes n w h1 h2).mono fun e w' ⟨he, h, hb⟩ => ⟨_, _, he, h, hb⟩
theorem fillE (A : Option Addr) (n c : Nat) (xs : List UInt8) (w : World) (hx : SlAt w A n (bvs xs)) (hn : n ≤ 9223372036854775807) :
    Calls Try.prog 23 #[.slice A n c, .int .i64 0] w fun e w' => ∃ g, e = .returned (.slice (some ⟨g, 0, none⟩) 128 128) ∧ w.heap.size ≤ g ∧ Blk w' g 5 (bvs (pad 128 xs)).toArray ∧ Below w.heap.size w w' :=
  (fill_any A n c 0 xs w hx hn).mono fun e w' ⟨he, h, hb⟩ => ⟨_, he, Nat.le_refl _, h, hb⟩
theorem readE (w : World) (base d bl : Nat) (wv : Value) (s : DSt) (h : DiskAt w base d bl wv s) (i : Nat) (hi : i < s.l.length) :
    Calls Try.prog 25 #[.pointer (some ⟨d, 0, none⟩), .int .i64 (i : Int)] w fun e w' => ∃ g, e = .returned (.tuple #[.slice (some ⟨g, 0, none⟩) 128 128, .int .i64 0]) ∧ w.heap.size ≤ g ∧
      Blk w' g 151 (bvs (s.read i)).toArray ∧ DiskAt w' base d bl wv s ∧ g ≠ bl ∧ Below w.heap.size w w' :=
  (read_ok w base d bl wv s h i hi).mono fun e w' ⟨he, hb, hbl⟩ => ⟨_, he, Nat.le_refl _, hb, h.below hbl (Nat.le_refl _), by have := h.hl.lt; omega, hbl⟩
theorem writeE (w : World) (base d bl : Nat) (wv : Value) (s : DSt) (h : DiskAt w base d bl wv s) (i : Nat) (hi : i < s.l.length) (g t cap : Nat) (x : List UInt8) (hx : x.length = 128) (hg : Blk w g t (bvs x).toArray) (ht : t ≠ 153)
    (hcnt : s.waits.length < 1000000000 ∧ s.writes < 1000000000000) :
    Calls Try.prog 24 #[.pointer (some ⟨d, 0, none⟩), .int .i64 (i : Int), .slice (some ⟨g, 0, none⟩) 128 cap] w fun e w' => e = .returned (.int .i64 0) ∧
      ∃ wv', DiskAt w' base d bl wv' (s.write i x) ∧ Fr (dfoot d bl wv) w w' :=
  write_ok w base d bl wv s h i hi g 0 cap x hx hg.rangeAll (h.gb hg ht) hcnt

set_option maxRecDepth 100000 in
set_option maxHeartbeats 1600000 in
theorem alive11 (w : World) : Calls Try.prog 22 #[] w fun e w' => e = .returned (.bool true) ∧ Below w.heap.size w w' := by
  have kc := fun (w : World) (C : Array Value) (n c : Nat) => Lib.run_convert_bytes_const (P := Try.prog) w 28 5 C n c Try.underlying28 Try.underlying5
  go_enter Try.func22, Try.ntmps22
  go_wp2_with fail
  refine (newE 4 w (by omega) (by omega)).mono ?_
  rintro e w1 ⟨d, bl, rfl, h1, b1⟩
  go_wp2_with fail
  refine (fillE _ 1 1 [120] _ ⟨rfl, fun _ => ⟨w1.heap.size, 0, rfl, by simp, fun j v hv => by rw [Nat.zero_add, World.cell?_alloc_mark]; simpa [bvs, bv] using hv⟩⟩ (by omega)).mono ?_
  rintro e w2 ⟨g2, rfl, hg2, k2, b2⟩
  have b2' := Below.of_alloc b2
  have h2 := h1.below b2' (Nat.le_refl _)
  go_wp2_with fail
  refine (writeE w2 _ _ _ _ _ h2 3 (by simp [DSt.new]) g2 5 128 (pad 128 [120]) (pad_length _ _) k2 (by decide) (by simp [DSt.new])).mono ?_
  rintro e w3 ⟨rfl, wv3, h3, f3⟩
  go_wp2_with fail
  refine (readE w3 _ _ _ _ _ h3 3 (by simp [DSt.new, DSt.write])).mono ?_
  rintro e w4 ⟨g4, rfl, hg4, k4, h4, n4, b4⟩
  go_wp2_with fail
  refine (crashNil w4 _ _ _ _ _ h4 (by simp [DSt.new, DSt.write])).mono ?_
  rintro e w5 ⟨rfl, h5, f5⟩
  have k5 := h4.keep f5 k4 (by decide) (by decide) (.inr n4)
  go_wp2_with fail
  refine (readE w5 _ _ _ _ _ h5 3 (by simp [DSt.new, DSt.write, DSt.crash, doneKeep_length])).mono ?_
  rintro e w6 ⟨g6, rfl, hg6, k6, h6, n6, b6⟩
  have k6b := k5.below b6 k5.lt
  go_wp2_with fail
  refine (fillE _ 1 1 [121] _ ⟨rfl, fun _ => ⟨w6.heap.size, 0, rfl, by simp, fun j v hv => by rw [Nat.zero_add, World.cell?_alloc_mark]; simpa [bvs, bv] using hv⟩⟩ (by omega)).mono ?_
  rintro e w7 ⟨g7, rfl, hg7, k7, b7⟩
  have b7' := Below.of_alloc b7
  have h7 := h6.below b7' (Nat.le_refl _)
  have k7b := k6b.below b7' k6b.lt
  have k7c := k6.below b7' k6.lt
  go_wp2_with fail
  refine (writeE w7 _ _ _ _ _ h7 2 (by simp [DSt.new, DSt.write, DSt.crash, doneKeep_length]) g7 5 128 (pad 128 [121]) (pad_length _ _) k7 (by decide) (by simp [DSt.new, DSt.write, DSt.crash])).mono ?_
  rintro e w8 ⟨rfl, wv8, h8, f8⟩
  have k8b := h7.keep f8 k7b (by decide) (by decide) (.inr n4)
  have k8c := h7.keep f8 k7c (by decide) (by decide) (.inr n6)
  go_wp2_with fail
  refine (sync_ok w8 _ _ _ _ _ h8 (by simp [DSt.new, DSt.write, DSt.crash, doneKeep_length]) (by simp [DSt.new, DSt.write, DSt.crash])).mono ?_
  rintro e w9 ⟨rfl, h9, f9⟩
  have k9b := h8.keep f9 k8b (by decide) (by decide) (.inr n4)
  have k9c := h8.keep f9 k8c (by decide) (by decide) (.inr n6)
  go_wp2_with fail
  refine (crashNil w9 _ _ _ _ _ h9 (by simp [DSt.new, DSt.write, DSt.crash, DSt.sync, doneKeep_length, doneAll_length])).mono ?_
  rintro e w10 ⟨rfl, h10, f10⟩
  have k10b := h9.keep f10 k9b (by decide) (by decide) (.inr n4)
  have k10c := h9.keep f10 k9c (by decide) (by decide) (.inr n6)
  go_wp2_with fail
  refine (readE w10 _ _ _ _ _ h10 2 (by simp [DSt.new, DSt.write, DSt.crash, DSt.sync, doneKeep_length, doneAll_length])).mono ?_
  rintro e w11 ⟨g11, rfl, hg11, k11, h11, n11, b11⟩
  have k11b := k10b.below b11 k10b.lt
  have k11c := k10c.below b11 k10c.lt
  go_wp2_with fail
  have c2 := h11.hd.cell 2
  have c3 := h11.hd.cell 3
  have c0 := h11.hd.cell 0
  have c4 := k11b.cell 0
  have c6 := k11c.cell 0
  have c11 := k11.cell 0
  have e2 : (w11.cell? ⟨d, 2, none⟩) = some (.int .i64 2) := c2.trans rfl
  have e3 : (w11.cell? ⟨d, 3, none⟩) = some (.int .i64 1) := c3.trans rfl
  have e0 : (w11.cell? ⟨d, 0, none⟩) = some (.slice (some ⟨bl, 0, none⟩) 4 4) := c0.trans rfl
  have e4 : (w11.cell? ⟨g4, 0, none⟩) = some (.int .u8 120) := c4.trans rfl
  have e6 : (w11.cell? ⟨g6, 0, none⟩) = some (.int .u8 0) := c6.trans rfl
  have e11 : (w11.cell? ⟨g11, 0, none⟩) = some (.int .u8 121) := c11.trans rfl
  clear c2 c3 c0 c4 c6 c11
  refine (counts_any d 2 1 w11 e2 e3).mono ?_
  rintro e w12 ⟨rfl, n12, rfl⟩
  have e0' : ∀ m, (w11.drewN m).cell? ⟨d, 0, none⟩ = some (.slice (some ⟨bl, 0, none⟩) 4 4) := fun m => e0
  have e4' : ∀ m, (w11.drewN m).cell? ⟨g4, 0, none⟩ = some (.int .u8 120) := fun m => e4
  have e6' : ∀ m, (w11.drewN m).cell? ⟨g6, 0, none⟩ = some (.int .u8 0) := fun m => e6
  have e11' : ∀ m, (w11.drewN m).cell? ⟨g11, 0, none⟩ = some (.int .u8 121) := fun m => e11
  clear e2 e3
  go_wp2_with fail
  refine (write_bad d 4 _ 4 4 _ _ (e0' _) (by omega) (by omega) (by omega)).mono ?_
  rintro e w13 ⟨rfl, rfl⟩
  go_wp2_with fail
  refine (write_form d 1 _ 4 4 none 0 0 _ (e0' _) (by omega) (by omega) (by omega) (by omega)).mono ?_
  rintro e w14 ⟨rfl, rfl⟩
  go_wp2
  go_ret
  refine ⟨rfl, ?_⟩
  have B3 := (h2.isBelow f3 h2.size)
  have B5 := (h4.isBelow f5 h4.size)
  have B8 := (h7.isBelow f8 h7.size)
  have B9 := (h8.isBelow f9 h8.size)
  have B10 := (h9.isBelow f10 h9.size)
  have q1 := b1.size
  have q2 := b2'.size
  have q3 := B3.size
  have q4 := b4.size
  have q5 := B5.size
  have q6 := b6.size
  have q7 := b7'.size
  have q8 := B8.size
  have q9 := B9.size
  have q10 := B10.size
  exact (((((((((((b1.trans (b2'.mono (by omega))).trans B3).trans (b4.mono (by omega))).trans B5).trans (b6.mono (by omega))).trans (b7'.mono (by omega))).trans B8).trans B9).trans B10).trans (b11.mono (by omega)))).trans (by exact ⟨rfl, rfl, rfl, Nat.le_refl _, fun _ _ => rfl⟩)
end Go.Proofs.Ytnnhklembdaieaa
