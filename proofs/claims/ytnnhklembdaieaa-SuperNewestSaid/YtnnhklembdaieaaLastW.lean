/- DiskLast: the walk. -/
import Derived.Test.YtnnhklembdaieaaLawA
namespace Go.Proofs.Ytnnhklembdaieaa
open Go.RowKit
set_option linter.unusedSimpArgs false
set_option linter.unusedVariables false

theorem info4 : (Try.prog.info? 4).map (fun i => (i.zero, i.size, i.bytes)) = some (some (.bool false), 1, 1) := by kernel_rfl
theorem writeBad (w : World) (base d bl : Nat) (wv : Value) (s : DSt) (h : DiskAt w base d bl wv s) (i : Int) (hi : ¬ (0 ≤ i ∧ i < s.l.length)) (hp : 0 < s.l.length) (b : Value) :
    Calls Try.prog 24 #[.pointer (some ⟨d, 0, none⟩), .int .i64 i, b] w fun e w' => e = .returned (.int .i64 1) ∧ w = w' :=
  write_bad d i _ _ _ b w (by have := h.hd.cell 0; simpa using this) hp h.ok.num hi

theorem read_crash_all {s : DSt} (h : s.Ok) (i : Nat) : (s.crash (List.replicate s.waits.length true)).read i = s.read i := by
  simp only [DSt.crash, DSt.read, doneKeep_all, readAt_nil]
  exact doneAll_getD _ _ _ _ (fun p hp => (h.wat p hp).1)
theorem read_sync {s : DSt} (h : s.Ok) (i : Nat) : s.sync.read i = s.read i := by
  simp only [DSt.sync, DSt.read, readAt_nil]
  exact doneAll_getD _ _ _ _ (fun p hp => (h.wat p hp).1)
theorem read_crash_nil {s : DSt} (h : s.waits = []) (i : Nat) : (s.crash []).read i = s.read i := by
  simp only [DSt.crash, DSt.read, readAt_nil, h]
  rfl
theorem read_write_eq (s : DSt) (i : Nat) (x : List UInt8) : (s.write i x).read i = x := by
  simp [DSt.write, DSt.read, readAt_snoc]
theorem read_write_ne (s : DSt) (i j : Nat) (hij : i ≠ j) (x : List UInt8) : (s.write i x).read j = s.read j := by
  simp [DSt.write, DSt.read, readAt_snoc, hij]

set_option maxRecDepth 100000 in
set_option maxHeartbeats 1600000 in
theorem diskLast_bad (w : World) (A : Option Addr) (n c : Nat) (at_ : Int) (hat : at_ < 0 ∨ 7 < at_) :
    Calls Try.prog 3 #[.slice A n c, .int .i64 at_] w fun e w' => e = .returned (.bool true) ∧ Below w.heap.size w w' := by
  rcases hat with hat | hat
  · go_enter Try.func3, Try.ntmps3
    go_wp2_with fail
    refine (newE 8 w (by omega) (by omega)).mono ?_
    rintro e w1 ⟨d, bl, rfl, h1, b1⟩
    go_wp2_with fail
    refine (alive11 _).mono ?_
    rintro e w2 ⟨rfl, b2⟩
    go_wp2
    go_ret
    exact ⟨rfl, b1.trans (b2.mono b1.size)⟩
  · have h0 : ¬ at_ < 0 := by omega
    go_enter Try.func3, Try.ntmps3
    go_wp2_with fail
    refine (newE 8 w (by omega) (by omega)).mono ?_
    rintro e w1 ⟨d, bl, rfl, h1, b1⟩
    go_wp2_with fail
    refine (alive11 _).mono ?_
    rintro e w2 ⟨rfl, b2⟩
    go_wp2
    go_ret
    exact ⟨rfl, b1.trans (b2.mono b1.size)⟩

/-- what holds of the disk between two rounds. -/
structure LastI (w : World) (at_ : Nat) (d bl : Nat) (s : DSt) (k : Nat) (wv : Value) (want keep : Value) (wr : World) : Prop where
  hd : DiskAt wr w.heap.size d bl wv s
  hl : s.l = List.replicate 8 zsec
  hk : s.waits.length ≤ k
  hw : s.writes ≤ k
  hy : s.syncs = 0
  want : want = .string (bs (s.read at_))
  keep : wr.ownsRow w.heap.size 4 1 keep s.waits.length (List.replicate s.waits.length (.bool true))
  low : Below w.heap.size w wr

set_option maxRecDepth 100000 in
set_option maxHeartbeats 3200000 in
theorem diskLast_good (w : World) (A : Option Addr) (c : Nat) (ops : List OpM) (hops : OpsAt w A ops) (at_ : Nat) (hat : at_ ≤ 7) :
    Calls Try.prog 3 #[.slice A ops.length c, .int .i64 (at_ : Int)] w fun e w' => e = .returned (.bool true) ∧ Below w.heap.size w w' := by
  obtain ⟨i0, hi0, hz0, hz1, hz2⟩ := info_parts info4
  have hmk := mk_bytes 128 128 (by rfl) (by omega)
  have hlen := hops.1
  obtain ⟨n, hn⟩ : ∃ n, ops.length = n := ⟨_, rfl⟩
  rw [hn]
  have HN := hide hn
  rw [hn] at hlen
  clear hn
  have hd1 : decide ((at_ : Int) < 0) = false := by simp
  have hd2 : decide ((7 : Int) < (at_ : Int)) = false := by simp; omega
  go_enter Try.func3, Try.ntmps3
  go_wp2_with fail
  refine (newE 8 w (by omega) (by omega)).mono ?_
  rintro e w1 ⟨d, bl, rfl, h1, b1⟩
  have hbl := Blk.new w1 5 (zcells 128).toArray
  have hst := run_str (w1.alloc (.cells (zcells 128).toArray 5)) (some ⟨w1.heap.size, 0, none⟩) 128 128 zsec (SlAt.ofBlk hbl (zcells_length 128))
  go_wp2_with fail
  clear hmk hst
  have b2 : Below w.heap.size w (w1.alloc (.cells (zcells 128).toArray 5)) := b1.alloc b1.size _
  have h2 : DiskAt (w1.alloc (.cells (zcells 128).toArray 5)) w.heap.size d bl (.slice none 0 0) (DSt.new 8) := h1.fr ((Fr.refl nob w1).alloc _) (fun _ _ h => h)
  obtain ⟨w2, hw2⟩ : ∃ w2, w2 = w1.alloc (.cells (zcells 128).toArray 5) := ⟨_, rfl⟩
  rw [← hw2] at h2 b2 ⊢
  clear hw2 hbl
  go_loopw [7, 8, 9] (fun want keep i wr => ∃ (k : Nat) (wv : Value) (s : DSt), k ≤ n ∧ k ≤ 40 ∧ i = .int .i64 k ∧ LastI w at_ d bl s k wv want keep wr) (fun _ _ i _ => 40 - (intOf i).toNat)
  case atStart => exact ⟨0, _, DSt.new 8, by omega, by omega, rfl, h2, rfl, by simp [DSt.new], by simp [DSt.new], rfl, by
    have : (DSt.new 8).read at_ = zsec := by
      have : at_ = 0 ∨ at_ = 1 ∨ at_ = 2 ∨ at_ = 3 ∨ at_ = 4 ∨ at_ = 5 ∨ at_ = 6 ∨ at_ = 7 := by omega
      rcases this with rfl | rfl | rfl | rfl | rfl | rfl | rfl | rfl <;> rfl
    rw [this], World.ownsRow_nil _ _ _ _, b2⟩
  case round =>
    obtain ⟨k, wv, s, hkn, hk40, rfl, hI⟩ := hrel
    by_cases hlt : k < n ∧ k < 40
    · obtain ⟨hlt1, hlt2⟩ := hlt
      obtain ⟨g, o, rfl, hgl, hops2⟩ := hops.2 (by rw [HN.out]; omega)
      have hkl : k < ops.length := by rw [HN.out]; exact hlt1
      obtain ⟨m, hm⟩ : ∃ m, m = ops[k] := ⟨_, rfl⟩
      have hm0 := hops2 k hkl
      rw [← hm] at hm0
      have hmw := hm0.below hI.low hgl
      have e01 := hm0.c1
      have e3 := hmw.c3
      have hbG : ∀ w', Below w.heap.size w w' → w'.cell? ⟨g, o + k * 5 + 1, none⟩ = some (.int .i64 m.i) := fun w' hb => (hb.cell (p := ⟨g, o + k * 5 + 1, none⟩) hgl).trans e01
      have HG := hide hbG
      clear hm hm0 hops2 e01 hbG
      go_wp2_with fail
      refine (fillE _ _ _ m.b _ hmw.hb hmw.mb).mono ?_
      rintro e w3 ⟨g3, rfl, hg3, k3, b3⟩
      have h3 := hI.hd.below b3 (Nat.le_refl _)
      have hsl : s.l.length = 8 := by rw [hI.hl]; simp
      have hbel3 : Below w.heap.size w w3 := hI.low.trans (b3.mono hI.low.size)
      have hkp3 : w3.ownsRow w.heap.size 4 1 u8 s.waits.length (List.replicate s.waits.length (.bool true)) := Fr.own hI.keep (Fr.ofBelow b3) (fun k hk => by have := (hI.keep.lt k hk).2; omega)
      have h10 := hI.hk
      have h11 := hI.hw
      by_cases hin : 0 ≤ m.i ∧ m.i < 8
      · obtain ⟨j, hj⟩ := Int.eq_ofNat_of_zero_le hin.1
        have hj8 : j < s.l.length := by rw [hsl]; omega
        have hpad : (pad 128 m.b).length = 128 := pad_length _ _
        have e31 := HG.out _ hbel3
        rw [hj] at e31
        have HJ := hide hj
        clear hj hin
        have HX := hide hpad
        clear hpad
        go_wp2_with fail
        refine (writeE w3 _ _ _ _ _ h3 j hj8 g3 5 128 (pad 128 m.b) HX.out k3 (by decide) (by omega)).mono ?_
        rintro e w4 ⟨rfl, wv4, h4, f4⟩
        have k4 := h3.keep f4 k3 (by decide) (by decide) (.inl (by decide))
        have hkp4 : w4.ownsRow w.heap.size 4 1 u8 s.waits.length (List.replicate s.waits.length (.bool true)) := Fr.own hkp3 f4 (h3.offOwn hkp3 (by decide) (by decide) (by decide))
        have hbel4 : Below w.heap.size w w4 := hbel3.trans (h3.isBelow f4 (by have := hbel3.size; omega))
        clear e31
        by_cases hja : j = at_
        all_goals
          have hjt : ((j : Int) == (at_ : Int)) = decide (j = at_) := beqNat _ _
          simp only [hja, decide_true, decide_false] at hjt
          go_wp2_with (at_builtin; refine wpList_append_own_at _ rfl _ _ 29 rfl w.heap.size 4 i0 _ 1 1 Try.underlying29 hi0 hz0 hz1 hz2 rfl (by omega) u8 s.waits.length _ rfl (hkp4.alloc _) ⟨w4.heap.size, 0, none⟩ 1 1 [.bool true] rfl rfl (cell_one_new _ _ _) (by simp [Value.oneCell']) (by unfold maxLen; omega) (by omega) ?_ ?_; (have := hbel4.size; simp; omega); intro v5 w5 hown5 hgrow5 _ _; have h5 := h4.app hkp4 (by decide) (by decide) (by decide) hgrow5; have hbel5 := below_app hbel4 hbel4.size hkp4 hgrow5; have e51 := HG.out _ hbel5; rw [HJ.out] at e51; have hst5 := run_str w5 (some ⟨g3, 0, none⟩) 128 128 (pad 128 m.b) (SlAt.ofBlk (k4.app hkp4 (by decide) hgrow5) (by rw [bvs_length]; exact HX.out)))
          clear hjt
        · obtain rfl := hja
          go_roundw
          case rel => exact ⟨k + 1, _, s.write j (pad 128 m.b), by omega, by omega, by go_num, h5, hI.hl, by simp [DSt.write]; omega, by simp [DSt.write]; omega, hI.hy, by rw [read_write_eq], by simpa [DSt.write, List.replicate_succ'] using hown5, hbel5⟩
          case measure => simp [intOf]; omega
        · go_roundw
          case rel => exact ⟨k + 1, _, s.write j (pad 128 m.b), by omega, by omega, by go_num, h5, hI.hl, by simp [DSt.write]; omega, by simp [DSt.write]; omega, hI.hy, by rw [read_write_ne _ _ _ hja]; exact hI.want, by simpa [DSt.write, List.replicate_succ'] using hown5, hbel5⟩
          case measure => simp [intOf]; omega
      · have hout : ¬ (0 ≤ m.i ∧ m.i < (s.l.length : Int)) := by rw [hsl]; exact hin
        clear hin
        have e31 := HG.out _ hbel3
        have HO := hide hout
        clear hout
        go_wp2_with fail
        refine (writeBad w3 _ _ _ _ _ h3 m.i HO.out (by omega) _).mono ?_
        rintro e w4 ⟨rfl, rfl⟩
        go_wp2
        go_roundw
        case rel => exact ⟨k + 1, wv, s, by omega, by omega, by go_num, h3, hI.hl, by omega, by omega, hI.hy, hI.want, hkp3, hbel3⟩
        case measure => simp [intOf]; omega
    · obtain ⟨hhd, hl, hk, hw, hy, rfl, hkp, hlow⟩ := hI
      have hsl : s.l.length = 8 := by rw [hl]; simp
      have hok := hhd.ok
      obtain ⟨KA, kcap, rfl, hkc, hkmx, hKA⟩ := own_shape hkp
      clear HN hops hl
      rcases (show ¬ k < n ∨ (k < n ∧ ¬ k < 40) by omega) with hx | hx
      all_goals
        clear hlt
        go_wp2_with fail
        refine (readE wr _ _ _ _ _ hhd at_ (by omega)).mono ?_
        rintro e w3 ⟨g3, rfl, hg3, k3, h3, n3, b3⟩
        have hkp3 := Fr.own hkp (Fr.ofBelow b3) (fun k hk => by have := (hkp.lt k hk).2; omega)
        have hks3 : SlAt w3 KA s.waits.length ((List.replicate s.waits.length true).map .bool) := by
          refine ⟨by simp, fun h => ?_⟩
          obtain ⟨A2, c2, hv2, _, _, h2⟩ := own_shape hkp3
          obtain ⟨g2, e2, _, hl2, hr2⟩ := h2 h
          injection hv2 with ha2
          refine ⟨g2, 0, by rw [ha2, e2], hl2, ?_⟩
          rw [List.map_replicate]; exact hr2
        have hkb3 : ∀ a, KA = some a → 0 < s.waits.length → a.block ≠ bl := by
          rintro a rfl _ hab
          exact own_ne hkp3 h3.hl (by decide) (by simp [Value.ownBlock, hab])
        go_wp2_with fail
        refine (crash_ok w3 _ _ _ _ _ h3 (by omega) KA s.waits.length kcap _ hks3 hkb3 (by omega)).mono ?_
        rintro e w4 ⟨rfl, h4, f4⟩
        have k4 := h3.keep f4 k3 (by decide) (by decide) (.inr n3)
        go_wp2_with fail
        refine (readE w4 _ _ _ _ _ h4 at_ (by simp [DSt.crash, doneKeep_length]; omega)).mono ?_
        rintro e w5 ⟨g5, rfl, hg5, k5, h5, n5, b5⟩
        have k5b := k4.below b5 k4.lt
        go_wp2_with fail
        refine (sync_ok w5 _ _ _ _ _ h5 (by simp [DSt.crash, doneKeep_length]; omega) (by simp [DSt.crash]; omega)).mono ?_
        rintro e w6 ⟨rfl, h6, f6⟩
        have k6b := h5.keep f6 k5b (by decide) (by decide) (.inr n3)
        have k6c := h5.keep f6 k5 (by decide) (by decide) (.inr n5)
        go_wp2_with fail
        refine (crashNil w6 _ _ _ _ _ h6 (by simp [DSt.sync, doneAll_length, DSt.crash, doneKeep_length]; omega)).mono ?_
        rintro e w7 ⟨rfl, h7, f7⟩
        have k7b := h6.keep f7 k6b (by decide) (by decide) (.inr n3)
        have k7c := h6.keep f7 k6c (by decide) (by decide) (.inr n5)
        go_wp2_with fail
        refine (readE w7 _ _ _ _ _ h7 at_ (by simp [DSt.sync, doneAll_length, DSt.crash, doneKeep_length]; omega)).mono ?_
        rintro e w8 ⟨g8, rfl, hg8, k8, h8, n8, b8⟩
        have k8b := k7b.below b8 k7b.lt
        have k8c := k7c.below b8 k7c.lt
        rw [read_crash_nil rfl, read_sync h4.ok, read_crash_all hok] at k8
        rw [read_crash_all hok] at k8c
        go_wp2_with fail
        refine (alive11 _).mono ?_
        rintro e w9 ⟨rfl, b9⟩
        have hX : (bvs (s.read at_)).length = 128 := by rw [bvs_length]; exact DSt.read_length hok (by omega)
        have hs3 := run_str w9 _ 128 128 _ (SlAt.ofBlk (k8b.below b9 k8b.lt) hX)
        have hs5 := run_str w9 _ 128 128 _ (SlAt.ofBlk (k8c.below b9 k8c.lt) hX)
        have hs8 := run_str w9 _ 128 128 _ (SlAt.ofBlk (k8.below b9 k8.lt) hX)
        have hbel : Below w.heap.size w w9 := by
          have c3 := hlow.trans (b3.mono hlow.size)
          have c4 := c3.trans (h3.isBelow f4 c3.size)
          have c5 := c4.trans (b5.mono c4.size)
          have c6 := c5.trans (h5.isBelow f6 c5.size)
          have c7 := c6.trans (h6.isBelow f7 c6.size)
          have c8 := c7.trans (b8.mono c7.size)
          exact c8.trans (b9.mono c8.size)
        go_wp2_with fail
        go_ret
        exact ⟨by simp [bs_toList], hbel⟩

theorem diskLast_any (w : World) (A : Option Addr) (n c : Nat) (ops : List OpM) (hn : ops.length = n) (hops : OpsAt w A ops) (x : Int) :
    Calls Try.prog 3 #[.slice A n c, .int .i64 x] w fun e w' => e = .returned (.bool true) ∧ Below w.heap.size w w' := by
  by_cases h : x < 0 ∨ 7 < x
  · exact diskLast_bad w A n c x h
  · obtain ⟨k, rfl⟩ := Int.eq_ofNat_of_zero_le (a := x) (by omega)
    subst hn
    exact diskLast_good w A c ops hops k (by omega)
end Go.Proofs.Ytnnhklembdaieaa
