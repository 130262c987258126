/- AreaBack: the walk. -/
import Derived.Test.YtnnhklembdaieaaBackL
namespace Go.Proofs.Ytnnhklembdaieaa
open Go.RowKit
set_option linter.unusedSimpArgs false
set_option linter.unusedVariables false

set_option maxRecDepth 100000 in
set_option maxHeartbeats 1600000 in
theorem back_far (w : World) (A : Option Addr) (n cA : Nat) (B : Option Addr) (m cB : Nat) (at_ : Int) (hn : n ≤ 9223372036854775807) (hm : m ≤ 9223372036854775807) (h : 640 < n ∨ 640 < m) :
    Calls Try.prog 12 #[.slice A n cA, .slice B m cB, .int .i64 at_] w fun e w' => e = .returned (.bool true) ∧ Below w.heap.size w w' := by
  have hc : decide ((n : Int) > 640) = true ∨ (decide ((n : Int) > 640) = false ∧ decide ((m : Int) > 640) = true) := by
    by_cases h1 : 640 < n
    · exact .inl (by simp; omega)
    · exact .inr ⟨by simp; omega, by simp; omega⟩
  clear h
  rcases hc with h1 | ⟨h1, h2⟩
  all_goals
    go_enter Try.func12, Try.ntmps12
    go_wp2_with fail
    refine (newE 12 w (by omega) (by omega)).mono ?_
    rintro e w1 ⟨d, bl, rfl, hd1, b1⟩
    go_wp2_with fail
    refine (alive13 _).mono ?_
    rintro e w2 ⟨rfl, b2⟩
    go_wp2
    go_ret
    exact ⟨rfl, b1.trans (b2.mono b1.size)⟩

/-- what holds between the calls. -/
structure BackI (w : World) (d bl a1 a2 : Nat) (wv : Value) (s : DSt) (wr : World) : Prop where
  hd : DiskAt wr w.heap.size d bl wv s
  k1 : Blk wr a1 113 #[.int .i64 2, .int .i64 5]
  k2 : Blk wr a2 113 #[.int .i64 7, .int .i64 5]
  low : Below w.heap.size w wr
theorem BackI.fr {w wr w' : World} {d bl a1 a2 : Nat} {wv wv' : Value} {s s' : DSt} (h : BackI w d bl a1 a2 wv s wr) (hd : DiskAt w' w.heap.size d bl wv' s') (hf : Fr (dfoot d bl wv) wr w') : BackI w d bl a1 a2 wv' s' w' :=
  ⟨hd, h.hd.keep hf h.k1 (by decide) (by decide) (.inl (by decide)), h.hd.keep hf h.k2 (by decide) (by decide) (.inl (by decide)), h.low.trans (h.hd.isBelow hf h.low.size)⟩
theorem BackI.below {w wr w' : World} {d bl a1 a2 : Nat} {wv : Value} {s : DSt} (h : BackI w d bl a1 a2 wv s wr) (hb : Below wr.heap.size wr w') : BackI w d bl a1 a2 wv s w' :=
  ⟨h.hd.below hb (Nat.le_refl _), h.k1.below hb h.k1.lt, h.k2.below hb h.k2.lt, h.low.trans (hb.mono h.low.size)⟩
theorem BackI.cells {w wr : World} {d bl a1 a2 : Nat} {wv : Value} {s : DSt} (h : BackI w d bl a1 a2 wv s wr) :
    wr.cell? ⟨a1, 0, none⟩ = some (.int .i64 2) ∧ wr.cell? ⟨a1, 1, none⟩ = some (.int .i64 5) ∧ wr.cell? ⟨a2, 0, none⟩ = some (.int .i64 7) ∧ wr.cell? ⟨a2, 1, none⟩ = some (.int .i64 5) :=
  ⟨(h.k1.cell 0).trans rfl, (h.k1.cell 1).trans rfl, (h.k2.cell 0).trans rfl, (h.k2.cell 1).trans rfl⟩

set_option maxRecDepth 100000 in
set_option maxHeartbeats 3200000 in
theorem back_core (w : World) (A : Option Addr) (n cA : Nat) (la : List UInt8) (hA : SlAt w A n (bvs la)) (hn : n ≤ 640) (hcA : n ≤ cA) (hcA2 : cA ≤ 9223372036854775807) (B : Option Addr) (m cB : Nat) (lb : List UInt8) (hB : SlAt w B m (bvs lb)) (hm : m ≤ 640) (at_ : Int)
    (S3 : DSt) (ie : Int) (p : List UInt8) (hS3 : S3.l.length = 12) (hp : S3.seg (2 * 128 + 0) 640 = p) (hq : S3.seg (7 * 128 + 0) 640 = pad 640 la)
    (hput : ∀ (w' : World) (d bl : Nat) (wv : Value), DiskAt w' w.heap.size d bl wv (bk2 la) → Below w.heap.size w w' → Calls Try.prog 67 #[.pointer (some ⟨d, 0, none⟩), .agg #[.int .i64 2, .int .i64 5], .int .i64 at_, .slice B m cB] w' fun e w'' => e = .returned (.int .i64 ie) ∧ ∃ wv', DiskAt w'' w.heap.size d bl wv' S3 ∧ Fr (dfoot d bl wv) w' w'')
    (hcase : (ie = 1 ∧ p = pad 640 la ∧ (at_ < 0 ∨ 640 - (m : Int) < at_)) ∨ ∃ k : Nat, at_ = k ∧ k + m ≤ 640 ∧ ie = 0 ∧ p = over (pad 640 la) k lb) :
    Calls Try.prog 12 #[.slice A n cA, .slice B m cB, .int .i64 at_] w fun e w' => e = .returned (.bool true) ∧ Below w.heap.size w w' := by
  have t1 : decide ((n : Int) > 640) = false := by simp; omega
  have t2 : decide ((m : Int) > 640) = false := by simp; omega
  have la1 : la.length = n := by have := hA.1; rwa [bvs_length] at this
  have lb1 : lb.length = m := by have := hB.1; rwa [bvs_length] at this
  have HLA := hide la1
  have HLB := hide lb1
  have HS3 := hide (And.intro hS3 (And.intro hp hq))
  have HCASE := hide hcase
  clear la1 lb1 hS3 hp hq hcase
  go_enter Try.func12, Try.ntmps12
  go_wp2_with fail
  refine (newE 12 w (by omega) (by omega)).mono ?_
  rintro e w1 ⟨d, bl, rfl, h1, b1⟩
  have hsd := secDisk h1
  rw [bk0_l] at hsd
  have hh : Calls Try.prog 66 #[.pointer (some ⟨d, 0, none⟩)] w1 fun e w' => e = .returned (.tuple #[.agg #[.int .i64 2, .int .i64 5], .agg #[.int .i64 7, .int .i64 5], .int .i64 0]) ∧ Below w1.heap.size w1 w' := halves_ok _ 12 (by omega) (by omega) w1 hsd
  go_wp2_with fail
  refine hh.mono ?_
  rintro e w2 ⟨rfl, b2⟩
  have h2 := h1.below b2 (Nat.le_refl _)
  have b2' := b1.trans (b2.mono b1.size)
  clear hh hsd h1 b1 b2
  go_upto_region 5 with fail
  have hI : BackI w d bl w2.heap.size (w2.heap.size + 1) (.slice none 0 0) (DSt.new 12) ((w2.alloc (.cells #[.int .i64 2, .int .i64 5] 113)).alloc (.cells #[.int .i64 7, .int .i64 5] 113)) := by
    refine ⟨h2.fr (((Fr.refl nob w2).alloc _).alloc _) (fun _ _ h => h), (Blk.new w2 113 _).alloc _, ?_, (b2'.alloc b2'.size _).alloc (by have := b2'.size; simp; omega) _⟩
    simpa using Blk.new (w2.alloc (.cells #[.int .i64 2, .int .i64 5] 113)) 113 #[.int .i64 7, .int .i64 5]
  obtain ⟨w3, hw3⟩ : ∃ w3, w3 = (w2.alloc (.cells #[.int .i64 2, .int .i64 5] 113)).alloc (.cells #[.int .i64 7, .int .i64 5] 113) := ⟨_, rfl⟩
  obtain ⟨a1, ha1⟩ : ∃ a1, a1 = w2.heap.size := ⟨_, rfl⟩
  obtain ⟨a2, ha2⟩ : ∃ a2, a2 = w2.heap.size + 1 := ⟨_, rfl⟩
  rw [← hw3, ← ha2, ← ha1] at hI ⊢
  clear hw3 ha1 ha2 h2 b2'
  obtain ⟨c1, c2, c3, c4⟩ := hI.cells
  have HI := hide hI
  clear hI
  go_wp2_with fail
  refine (putL w3 _ _ _ _ _ HI.out.hd 2 5 0 (by omega) (by rw [bk0_l]; omega) (by omega) A n cA la HLA.out (hA.below HI.out.low (Nat.le_refl _)) (Sep.low hA (Nat.le_refl _) _) (by omega) (by simp [DSt.new]; omega) hcA2 hcA 2 5 0 rfl rfl rfl).mono ?_
  rintro e w4 ⟨rfl, wv4, h4, f4, _⟩
  have I4 := HI.out.fr h4 f4
  clear c1 c2 c3 c4 HI h4 f4
  obtain ⟨c1, c2, c3, c4⟩ := I4.cells
  have HI := hide I4
  clear I4
  have hc1 := bk1_ok (la := la) (by rw [HLA.out]; exact hn)
  go_wp2_with fail
  refine (putL w4 _ _ _ _ _ HI.out.hd 7 5 0 (by omega) (by rw [← bk1, bk1_l]; omega) (by omega) A n cA la HLA.out (hA.below HI.out.low (Nat.le_refl _)) (Sep.low hA (Nat.le_refl _) _) (by omega) (by rw [← bk1]; omega) hcA2 hcA 7 5 0 rfl rfl rfl).mono ?_
  rintro e w5 ⟨rfl, wv5, h5, f5, _⟩
  have I5 := HI.out.fr h5 f5
  clear c1 c2 c3 c4 HI h5 f5 hc1
  obtain ⟨c1, c2, c3, c4⟩ := I5.cells
  have HI := hide I5
  clear I5
  have hp3 := hput w5 d bl wv5 HI.out.hd HI.out.low
  clear hput
  go_wp2_with fail
  refine hp3.mono ?_
  rintro e w6 ⟨rfl, wv6, h6, f6⟩
  have I6 := HI.out.fr h6 f6
  clear c1 c2 c3 c4 HI h6 f6 hp3
  obtain ⟨c1, c2, c3, c4⟩ := I6.cells
  have HI := hide I6
  clear I6
  go_wp2_with fail
  refine (getL w6 _ _ _ _ _ HI.out.hd 2 5 0 640 (by omega) (by rw [HS3.out.1]; omega) (by omega) (by omega) 2 5 0 640 rfl rfl rfl rfl).mono ?_
  rintro e w7 ⟨PA, pc, rfl, hp7, _, _, b7⟩
  rw [HS3.out.2.1] at hp7
  have I7 := HI.out.below b7
  have s7 := sl_own hp7
  clear c1 c2 c3 c4 HI b7 hp7
  obtain ⟨c1, c2, c3, c4⟩ := I7.cells
  have HI := hide I7
  clear I7
  go_wp2_with fail
  refine (getL w7 _ _ _ _ _ HI.out.hd 7 5 0 640 (by omega) (by rw [HS3.out.1]; omega) (by omega) (by omega) 7 5 0 640 rfl rfl rfl rfl).mono ?_
  rintro e w8 ⟨QA, qc, rfl, hq8, _, _, b8⟩
  rw [HS3.out.2.2] at hq8
  have I8 := HI.out.below b8
  have s8 := s7.below b8 (Nat.le_refl _)
  have q8 := sl_own hq8
  have b8' := I8.low
  clear c1 c2 c3 c4 HI b8 hq8 s7 I8
  have hmk := mk_bytes 640 640 (by rfl) (by omega)
  go_upto_region 13 with fail
  have hb0 := Blk.new w8 5 (zcells 640).toArray
  have hbel0 : Below w8.heap.size w8 (w8.alloc (.cells (zcells 640).toArray 5)) := (Below.refl _ _).alloc (Nat.le_refl _) _
  obtain ⟨g, hg⟩ : ∃ g, g = w8.heap.size := ⟨_, rfl⟩
  obtain ⟨w9, hw9⟩ : ∃ w9, w9 = w8.alloc (.cells (zcells 640).toArray 5) := ⟨_, rfl⟩
  rw [← hw9, ← hg] at hb0 hbel0 ⊢
  have HG := hide hg
  clear hw9 hmk hg
  go_wp2_with fail
  go_loopw [20] (fun v wr => ∃ k : Nat, k ≤ n ∧ v = .int .i64 k ∧ Blk wr g 5 (bvs (padTo 640 k la)).toArray ∧ Below g w8 wr) (fun v _ => n - (intOf v).toNat)
  case atStart => exact ⟨0, by omega, rfl, by rw [padTo_zero]; exact hb0, hbel0⟩
  case round =>
    obtain ⟨k, hk, rfl, hblk, hbel⟩ := hrel
    by_cases hlt : k < n
    · obtain ⟨gb, ob, rfl, hgl, hgr⟩ := hA.2 (by omega)
      have hxk : k < la.length := by rw [HLA.out]; exact hlt
      have hbw := b8'.trans (hbel.mono (by rw [HG.out]; exact b8'.size))
      have hc : wr.cell? ⟨gb, ob + k, none⟩ = some (bv la[k]) := (hbw.cell (p := ⟨gb, ob + k, none⟩) hgl).trans (hgr k _ (by rw [bvs, List.getElem?_map, List.getElem?_eq_getElem hxk]; rfl))
      have hlen : (bvs (padTo 640 k la)).length = 640 := padTo_length _ _ _ (by omega) (by omega)
      have hd : ∃ u, wr.cell? ⟨g, k, none⟩ = some u := ⟨_, by rw [hblk.cell, Array.getElem?_eq_getElem (by simp only [List.size_toArray]; omega)]⟩
      obtain ⟨u, hd⟩ := hd
      have hf := hblk.frozen k
      have hset := hblk.set_ k (bv la[k])
      simp only [List.setIfInBounds_toArray] at hset
      unfold padTo at hset
      rw [pad_step 640 k la (by omega) hxk] at hset
      have hbel2 : Below g w8 (wr.setCell ⟨g, k, none⟩ (bv la[k])) := hbel.setCell (p := ⟨g, k, none⟩) (Nat.le_refl _) _
      have HS := hide hset
      have HB2 := hide hbel2
      have hk0 : (0 : Int) ≤ (k : Int) := by omega
      have hk1 : (k : Int) < (n : Int) := by omega
      have hk2 : (k : Int) < 640 := by omega
      clear hset hbel2 hgr hlen hblk hbw
      unfold bv at hc HS HB2
      go_wp2
      go_roundw
      case rel => exact ⟨k + 1, by omega, by go_num, HS.out, HB2.out⟩
      case measure => simp [intOf]; omega
    · obtain rfl : k = n := by omega
      have hpd : padTo 640 la.length la = pad 640 la := pad_at 640 la.length la (.inr rfl) (by rw [HLA.out]; exact hn) (Nat.le_refl _)
      rw [← HLA.out, hpd] at hblk
      have hsl := SlAt.ofBlk hblk (by rw [bvs_length, pad_length] : (bvs (pad 640 la)).length = 640)
      have hbel' : Below w8.heap.size w8 wr := by rw [← HG.out]; exact hbel
      have hst1 := run_str wr QA 640 qc (pad 640 la) (q8.below hbel' (Nat.le_refl _))
      have hst2 := run_str wr (some ⟨g, 0, none⟩) 640 640 (pad 640 la) hsl
      clear hpd hsl
      rcases HCASE.out with ⟨rfl, rfl, hat⟩ | ⟨j, rfl, hj, rfl, rfl⟩
      · have hat' : decide (at_ < 0) = true ∨ (decide (at_ < 0) = false ∧ decide (at_ > 640 - (m : Int)) = true) := by
          by_cases h1 : at_ < 0
          · exact .inl (by simp [h1])
          · exact .inr ⟨by simp; omega, by simp; omega⟩
        clear hat HCASE HS3
        rcases hat' with g1 | ⟨g1, g2⟩
        all_goals
          go_wp2_with fail
          refine (alive13 _).mono ?_
          rintro e w10 ⟨rfl, b10⟩
          have hs1 := run_str w10 PA 640 pc (pad 640 la) ((s8.below hbel' (Nat.le_refl _)).below b10 (Nat.le_refl _))
          have hs2 := run_str w10 (some ⟨g, 0, none⟩) 640 640 (pad 640 la) (SlAt.ofBlk (hblk.below b10 hblk.lt) (by rw [bvs_length, pad_length]))
          clear hst1 hst2
          go_wp2_with fail
          go_ret
          exact ⟨by simp [bs_toList], (b8'.trans (hbel'.mono b8'.size)).trans (b10.mono (by have := b8'.size; have := hbel'.size; omega))⟩
      · have g1 : decide ((j : Int) < 0) = false := by simp
        have g2 : decide ((j : Int) > 640 - (m : Int)) = false := by simp; omega
        clear HCASE HS3
        go_wp2_with fail
        clear hst1 hst2
        go_loopw [21] (fun v wr => ∃ i : Nat, i ≤ m ∧ v = .int .i64 i ∧ Blk wr g 5 (bvs (over (pad 640 la) j (lb.take i))).toArray ∧ Below g w8 wr) (fun v _ => m - (intOf v).toNat)
        case atStart => exact ⟨0, by omega, rfl, by simpa [over] using hblk, hbel⟩
        case round =>
          clear hblk hbel hbel'
          obtain ⟨i, hi, rfl, hblk, hbel⟩ := hrel
          by_cases hlt2 : i < m
          · obtain ⟨gb, ob, rfl, hgl, hgr⟩ := hB.2 (by omega)
            have hxk : i < lb.length := by rw [HLB.out]; exact hlt2
            have hbw := b8'.trans (hbel.mono (by rw [HG.out]; exact b8'.size))
            have hc : wr.cell? ⟨gb, ob + i, none⟩ = some (bv lb[i]) := (hbw.cell (p := ⟨gb, ob + i, none⟩) hgl).trans (hgr i _ (by rw [bvs, List.getElem?_map, List.getElem?_eq_getElem hxk]; rfl))
            have hlen : (bvs (over (pad 640 la) j (lb.take i))).length = 640 := by rw [bvs_length, over_length _ _ _ (by rw [List.length_take, pad_length]; omega), pad_length]
            have hd : ∃ u, wr.cell? ⟨g, j + i, none⟩ = some u := ⟨_, by rw [hblk.cell, Array.getElem?_eq_getElem (by simp only [List.size_toArray]; omega)]⟩
            obtain ⟨u, hd⟩ := hd
            have hf := hblk.frozen (j + i)
            have hset := hblk.set_ (j + i) (bv lb[i])
            simp only [List.setIfInBounds_toArray] at hset
            rw [over_step (pad 640 la) j i lb hxk (by rw [pad_length, HLB.out]; exact hj)] at hset
            have hbel2 : Below g w8 (wr.setCell ⟨g, j + i, none⟩ (bv lb[i])) := hbel.setCell (p := ⟨g, j + i, none⟩) (Nat.le_refl _) _
            have HS := hide hset
            have HB2 := hide hbel2
            have hk0 : (0 : Int) ≤ (i : Int) := by omega
            have hk1 : (i : Int) < (m : Int) := by omega
            have hk2 : (j : Int) + (i : Int) < 640 := by omega
            have hk3 : (0 : Int) ≤ (j : Int) := by omega
            clear hset hbel2 hgr hlen hblk hbw
            unfold bv at hc HS HB2
            go_wp2
            go_roundw
            case rel => exact ⟨i + 1, by omega, by go_num, HS.out, HB2.out⟩
            case measure => simp [intOf]; omega
          · obtain rfl : i = m := by omega
            have hbel' : Below w8.heap.size w8 wr := by rw [← HG.out]; exact hbel
            rw [List.take_of_length_le (by rw [HLB.out]; omega)] at hblk
            have hol : (over (pad 640 la) j lb).length = 640 := by rw [over_length _ _ _ (by rw [pad_length, HLB.out]; exact hj), pad_length]
            have HOL := hide hol
            clear hol
            go_wp2_with fail
            refine (alive13 _).mono ?_
            rintro e w10 ⟨rfl, b10⟩
            have hs1 := run_str w10 PA 640 pc _ ((s8.below hbel' (Nat.le_refl _)).below b10 (Nat.le_refl _))
            have hs2 := run_str w10 (some ⟨g, 0, none⟩) 640 640 _ (SlAt.ofBlk (hblk.below b10 hblk.lt) (by rw [bvs_length, HOL.out]))
            go_wp2_with fail
            go_ret
            exact ⟨by simp [bs_toList], (b8'.trans (hbel'.mono b8'.size)).trans (b10.mono (by have := b8'.size; have := hbel'.size; omega))⟩

theorem back_any (w : World) (A : Option Addr) (n cA : Nat) (la : List UInt8) (hla : la.length = n) (oA : (n ≤ cA ∧ cA ≤ 9223372036854775807) ∧ SlAt w A n (bvs la)) (B : Option Addr) (m cB : Nat) (lb : List UInt8) (hlb : lb.length = m) (oB : (m ≤ cB ∧ cB ≤ 9223372036854775807) ∧ SlAt w B m (bvs lb)) (at_ : Int)
    (hat : -9223372036854775808 ≤ at_ ∧ at_ ≤ 9223372036854775807) :
    Calls Try.prog 12 #[.slice A n cA, .slice B m cB, .int .i64 at_] w fun e w' => e = .returned (.bool true) ∧ Below w.heap.size w w' := by
  obtain ⟨⟨a1, a2⟩, hA⟩ := oA
  obtain ⟨⟨b1, b2⟩, hB⟩ := oB
  by_cases hfar : 640 < n ∨ 640 < m
  · exact back_far w A n cA B m cB at_ (by omega) (by omega) hfar
  · have hal : la.length ≤ 640 := by omega
    by_cases hnear : 0 ≤ at_ ∧ at_ ≤ 640 - (m : Int)
    · obtain ⟨j, rfl⟩ := Int.eq_ofNat_of_zero_le hnear.1
      have hj : j + lb.length ≤ 640 := by omega
      obtain ⟨k1, k2, k3⟩ := bk2_ok hal
      refine back_core w A n cA la hA (by omega) a1 a2 B m cB lb hB (by omega) j (bk3 la j lb) 0 (over (pad 640 la) j lb) bk3_l (bk3_p hal hj) (bk3_q hal hj) (fun w' d bl wv hd hb => ?_) (.inr ⟨j, rfl, by omega, rfl, rfl⟩)
      refine (putL w' _ _ _ _ _ hd 2 5 j (by omega) (by rw [bk2_l]; omega) (by omega) B m cB lb hlb (hB.below hb (Nat.le_refl _)) (Sep.low hB (Nat.le_refl _) _) (by omega) (by omega) b2 b1 2 5 j rfl rfl rfl).mono ?_
      rintro e w'' ⟨rfl, wv', h1, h2, _⟩
      exact ⟨rfl, wv', h1, h2⟩
    · refine back_core w A n cA la hA (by omega) a1 a2 B m cB lb hB (by omega) at_ (bk2 la) 1 (pad 640 la) bk2_l (bk2_p hal) (bk2_q hal) (fun w' d bl wv hd hb => ?_) (.inl ⟨rfl, rfl, by omega⟩)
      have hs := secDisk hd
      rw [bk2_l] at hs
      have hr : rightA 12 2 5 = true := by decide
      have ha : askA 12 2 5 at_ (m : Int) = 1 := by
        unfold askA
        rw [if_neg (by rw [hr]; decide), if_neg (by omega)]
      refine (put_no (.pointer (some ⟨d, 0, none⟩)) 12 (by omega) 2 5 at_ B m cB w' hs (by omega) hat (by omega) (by rw [ha]; decide)).mono ?_
      rintro e w'' ⟨rfl, h1⟩
      exact ⟨by rw [ha], wv, hd.below h1 (Nat.le_refl _), (Fr.ofBelow h1).monoNew (fun k hk => .inr hk)⟩
end Go.Proofs.Ytnnhklembdaieaa
