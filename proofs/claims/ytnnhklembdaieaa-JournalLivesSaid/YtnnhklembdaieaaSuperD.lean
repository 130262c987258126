/- The super on a disk: Put, Newest. -/
import Derived.Test.YtnnhklembdaieaaSuperC
namespace Go.Proofs.Ytnnhklembdaieaa
open Go.RowKit
set_option linter.unusedSimpArgs false
set_option linter.unusedVariables false

theorem superPut_no (dp : Value) (s : SU) (h : s.right = false) (w : World) : Calls Try.prog 79 #[dp, superV s] w fun e w' => e = .returned (.int .i64 3) ∧ Below w.heap.size w w' := by
  have b1 : Below w.heap.size w (w.alloc (.cells #[.int .u64 (s.gen : Int), .int .i64 s.area, .int .i64 s.len] 115)) := (Below.refl _ _).alloc (Nat.le_refl _) _
  have hr := swrite_no s h (w.alloc (.cells #[.int .u64 (s.gen : Int), .int .i64 s.area, .int .i64 s.len] 115))
  clear h
  unfold superV at hr ⊢
  go_enter Try.func79, Try.ntmps79
  go_wp2_with (go_at_call 73; refine hr.mono ?_; rintro e w1 ⟨rfl, h1⟩)
  go_ret
  exact ⟨rfl, b1.trans (h1.mono (by simp))⟩

set_option maxRecDepth 100000 in
set_option maxHeartbeats 1600000 in
theorem superPut_ok (w : World) (base d bl : Nat) (wv : Value) (S : DSt) (hD : DiskAt w base d bl wv S) (h2 : 2 ≤ S.l.length) (hcnt : S.waits.length < 1000000000 ∧ S.writes < 1000000000000) (s : SU) (h : s.right = true) :
    Calls Try.prog 79 #[.pointer (some ⟨d, 0, none⟩), superV s] w fun e w' => e = .returned (.int .i64 0) ∧ ∃ wv', DiskAt w' base d bl wv' (S.write (s.gen % 2) (superBytes s)) ∧ Fr (dfoot d bl wv) w w' ∧ (∀ k, wv'.ownBlock = some k → wv.ownBlock = some k ∨ w.heap.size ≤ k) := by
  obtain ⟨h1, hg2, _, _, _⟩ := (s.right_iff).1 h
  have b1 : Below w.heap.size w (w.alloc (.cells #[.int .u64 (s.gen : Int), .int .i64 s.area, .int .i64 s.len] 115)) := (Below.refl _ _).alloc (Nat.le_refl _) _
  have hbl := Blk.new w 115 #[.int .u64 (s.gen : Int), .int .i64 s.area, .int .i64 s.len]
  have hr := swriteE s h (w.alloc (.cells #[.int .u64 (s.gen : Int), .int .i64 s.area, .int .i64 s.len] 115))
  have hsl := fun w => slot_ok s (by omega) w
  have hi : s.gen % 2 < S.l.length := by omega
  have hlen := superBytes_length s
  obtain ⟨X, hX⟩ : ∃ X, superBytes s = X := ⟨_, rfl⟩
  obtain ⟨K, hK⟩ : ∃ K, s.gen % 2 = K := ⟨_, rfl⟩
  rw [hX] at hr hlen ⊢
  simp only [hK] at hsl hi ⊢
  clear hX hK h h1 hg2
  unfold superV at hr hsl ⊢
  go_enter Try.func79, Try.ntmps79
  go_wp2_with (go_at_call 73; refine hr.mono ?_; rintro e w1 ⟨A, cap, rfl, ho1, hb1⟩; have k1 := hbl.below hb1 hbl.lt; have c0 := k1.cell 0; have c1 := k1.cell 1; have c2 := k1.cell 2; simp at c0 c1 c2)
  refine (hsl w1).mono ?_
  rintro e w2 ⟨rfl, hb2⟩
  have b2 := (b1.trans (hb1.mono (by simp))).trans (hb2.mono (by have := hb1.size; simp at this; omega))
  have ho2 := Fr.own ho1 (Fr.ofBelow hb2) (fun k hk => by have := (ho1.lt k hk).2; omega)
  obtain ⟨gx, hgx, _, _, hrx⟩ := (own_shape ho2).choose_spec.choose_spec.2.2.2 (by omega)
  have hAe : A = some ⟨gx, 0, none⟩ := by
    have := (own_shape ho2).choose_spec.choose_spec.1
    injection this with h1 _ _
    rw [h1]; exact hgx
  subst hAe
  have hD2 := hD.below b2 (Nat.le_refl _)
  have hw := write_own w2 base d bl wv S hD2 K hi gx 0 cap X hlen hrx (by
    intro he
    have := (hD.low gx (.inr (.inr he))).2
    have := (ho1.lt gx rfl).1
    simp at this
    omega) hcnt
  clear hrx hgx c0 c1 c2 hsl hr hD2
  go_wp2_with (go_at_call 24; refine hw.mono ?_; rintro e w3 ⟨rfl, wv3, hd3, f3, ow3⟩)
  go_ret
  exact ⟨rfl, wv3, hd3, ((Fr.ofBelow b2).monoNew (T := dfoot d bl wv) (fun k hk => .inr hk)).trans f3 (fun k hk => .inl hk), fun k hk => (ow3 k hk).imp id (fun h => Nat.le_trans b2.size h)⟩

/-- what Newest answers. -/
def newRes (o : Option SU) : Value := match o with | some s => .tuple #[superV s, .int .i64 0] | none => .tuple #[superV SU.zero, .int .i64 4]
/-- the newest so far. -/
def outN (a b : List UInt8) : Nat → SU
  | 0 => SU.zero
  | 1 => (slotS 0 a).getD SU.zero
  | _ => (newestS a b).getD SU.zero
def secN (a b : List UInt8) : Nat → List UInt8
  | 0 => a
  | _ => b
theorem outN_none (a b : List UInt8) (k : Nat) (hk : k < 2) (h : readS (secN a b k) = none) : outN a b (k + 1) = outN a b k := by
  have : k = 0 ∨ k = 1 := by omega
  rcases this with rfl | rfl
  · simp only [secN] at h
    simp only [outN, slotS, h, Option.getD_none]
  · simp only [secN] at h
    have hs : slotS 1 b = none := by simp only [slotS, h]
    simp only [outN, newestS, hs]
    rcases hx : slotS 0 a with _ | x <;> simp
theorem outN_wrong (a b : List UInt8) (k : Nat) (hk : k < 2) (t : SU) (h : readS (secN a b k) = some t) (ht : t.gen % 2 ≠ k) : outN a b (k + 1) = outN a b k := by
  have : k = 0 ∨ k = 1 := by omega
  rcases this with rfl | rfl
  · simp only [secN] at h
    simp only [outN, slotS, h, if_neg ht, Option.getD_none]
  · simp only [secN] at h
    have hs : slotS 1 b = none := by simp only [slotS, h, if_neg ht]
    simp only [outN, newestS, hs]
    rcases hx : slotS 0 a with _ | x <;> simp
theorem outN_less (a b : List UInt8) (k : Nat) (hk : k < 2) (t : SU) (h : readS (secN a b k) = some t) (ht : t.gen % 2 = k) (hg : ¬ (outN a b k).gen < t.gen) : outN a b (k + 1) = outN a b k := by
  have h1 := (readS_some h).1
  have hpos := ((t.right_iff).1 h1).1
  have : k = 0 ∨ k = 1 := by omega
  rcases this with rfl | rfl
  · simp only [outN, SU.zero] at hg; omega
  · simp only [secN] at h
    simp only [outN, newestS] at hg ⊢
    have hs : slotS 1 b = some t := by simp only [slotS, h, if_pos ht]
    rcases hx : slotS 0 a with _ | x
    · rw [hx] at hg; simp only [Option.getD_none, SU.zero] at hg; omega
    · rw [hx] at hg; simp only [Option.getD_some] at hg
      simp only [hs, if_neg hg, Option.getD_some]
theorem outN_more (a b : List UInt8) (k : Nat) (hk : k < 2) (t : SU) (h : readS (secN a b k) = some t) (ht : t.gen % 2 = k) (hg : (outN a b k).gen < t.gen) : outN a b (k + 1) = t := by
  have : k = 0 ∨ k = 1 := by omega
  rcases this with rfl | rfl
  · simp only [secN] at h
    simp only [outN, slotS, h, if_pos ht, Option.getD_some]
  · simp only [secN] at h
    have hs : slotS 1 b = some t := by simp only [slotS, h, if_pos ht]
    simp only [outN, newestS] at hg ⊢
    rcases hx : slotS 0 a with _ | x
    · simp only [hs, Option.getD_some]
    · rw [hx] at hg; simp only [Option.getD_some] at hg
      simp only [hs, if_pos hg, Option.getD_some]
theorem newestS_right {a b : List UInt8} {s : SU} (h : newestS a b = some s) : s.right = true := by
  unfold newestS at h
  rcases hx : slotS 0 a with _ | x <;> rcases hy : slotS 1 b with _ | y <;> simp only [hx, hy] at h
  · cases h
  · injection h with h; subst h; exact (slotS_right hy).1
  · injection h with h; subst h; exact (slotS_right hx).1
  · split at h <;> (injection h with h; subst h)
    · exact (slotS_right hy).1
    · exact (slotS_right hx).1

def superCells (s : SU) : Array Value := #[.int .u64 (s.gen : Int), .int .i64 s.area, .int .i64 s.len]
set_option maxRecDepth 100000 in
set_option maxHeartbeats 1600000 in
theorem newest_ok (w : World) (base d bl : Nat) (wv : Value) (S : DSt) (hD : DiskAt w base d bl wv S) (h2 : 2 ≤ S.l.length) (a b : List UInt8) (ha : S.read 0 = a) (hb : S.read 1 = b) :
    Calls Try.prog 81 #[.pointer (some ⟨d, 0, none⟩)] w fun e w' => e = .returned (newRes (newestS a b)) ∧ Below w.heap.size w w' := by
  have k2 : Blk ((w.alloc (.cells #[.int .u64 0, .int .i64 0, .int .i64 0] 115)).alloc (.cells #[.int .u64 0, .int .i64 0, .int .i64 0] 115)) w.heap.size 115 #[.int .u64 0, .int .i64 0, .int .i64 0] := (Blk.new w 115 _).alloc _
  have k4 : Blk ((w.alloc (.cells #[.int .u64 0, .int .i64 0, .int .i64 0] 115)).alloc (.cells #[.int .u64 0, .int .i64 0, .int .i64 0] 115)) (w.heap.size + 1) 115 #[.int .u64 0, .int .i64 0, .int .i64 0] := by simpa using Blk.new (w.alloc (.cells #[.int .u64 0, .int .i64 0, .int .i64 0] 115)) 115 #[.int .u64 0, .int .i64 0, .int .i64 0]
  have b0 : Below w.heap.size w ((w.alloc (.cells #[.int .u64 0, .int .i64 0, .int .i64 0] 115)).alloc (.cells #[.int .u64 0, .int .i64 0, .int .i64 0] 115)) := ((Below.refl _ _).alloc (Nat.le_refl _) _).alloc (by simp) _
  go_enter Try.func81, Try.ntmps81
  go_upto_region 2 with fail
  obtain ⟨w0, hw0⟩ : ∃ w0, w0 = (w.alloc (.cells #[.int .u64 0, .int .i64 0, .int .i64 0] 115)).alloc (.cells #[.int .u64 0, .int .i64 0, .int .i64 0] 115) := ⟨_, rfl⟩
  obtain ⟨g4, hg4⟩ : ∃ g4, g4 = w.heap.size + 1 := ⟨_, rfl⟩
  rw [← hw0, ← hg4] at k4
  rw [← hw0] at k2 b0
  rw [← hw0, ← hg4]
  have hg4w : w.heap.size < g4 := by omega
  clear hw0 hg4
  go_wp2_with fail
  go_loopw [9] (fun i wr => ∃ k : Nat, k ≤ 2 ∧ i = .int .i64 k ∧ Blk wr g4 115 (superCells (outN a b k)) ∧ Blk wr w.heap.size 115 #[.int .u64 0, .int .i64 0, .int .i64 0] ∧ Below w.heap.size w wr) (fun i _ => 2 - (intOf i).toNat)
  case atStart => exact ⟨0, by omega, rfl, k4, k2, b0⟩
  case round =>
    clear k4 k2 b0
    obtain ⟨k, hk, rfl, k4, k2, bw⟩ := hrel
    by_cases hlt : k < 2
    · have hDr := hD.below bw (Nat.le_refl _)
      have hrd := readE wr _ _ _ _ _ hDr k (by omega)
      have hsec : S.read k = secN a b k := by
        have : k = 0 ∨ k = 1 := by omega
        rcases this with rfl | rfl
        · exact ha
        · exact hb
      rw [hsec] at hrd
      have hxl : (secN a b k).length = 128 := by rw [← hsec]; exact DSt.read_length hD.ok (by omega)
      obtain ⟨X, hX⟩ : ∃ X, secN a b k = X := ⟨_, rfl⟩
      rw [hX] at hrd hxl
      have HX := hide (And.intro hX hxl)
      clear hX hxl hsec hDr
      go_wp2_with fail
      refine hrd.mono ?_
      rintro e w1 ⟨g, rfl, hg, kg, hD1, _, b1⟩
      have k41 := k4.below b1 k4.lt
      have k21 := k2.below b1 k2.lt
      have bw1 := bw.trans (b1.mono bw.size)
      have hsr := sreadE (some ⟨g, 0, none⟩) 128 128 (Nat.le_refl _) X w1 (SlAt.ofBlk kg (by rw [bvs_length, HX.out.2]))
      clear hrd kg hD1 b1 k4 k2 bw
      rcases hrs : readS X with _ | t
      · rw [readRes_none hrs] at hsr
        have hnext := outN_none a b k hlt (by rw [HX.out.1]; exact hrs)
        have HN := hide hnext
        clear hnext hrs
        unfold superV SU.zero at hsr
        simp only at hsr
        go_wp2_with fail
        refine hsr.mono ?_
        rintro e w2 ⟨rfl, b2⟩
        have k42 := k41.below b2 k41.lt
        have k22 := k21.below b2 k21.lt
        have bw2 := bw1.trans (b2.mono bw1.size)
        clear hsr k41 k21
        have HB := hide (And.intro k42 (And.intro k22 bw2))
        clear k42 k22 bw2
        go_wp2
        go_roundw
        case rel => exact ⟨k + 1, by omega, by go_num, by rw [HN.out]; exact HB.out.1.alloc _, HB.out.2.1.alloc _, HB.out.2.2.alloc HB.out.2.2.size _⟩
        case measure => simp [intOf]; omega
      · rw [readRes_some hrs] at hsr
        have ht1 := ((t.right_iff).1 (readS_some hrs).1)
        have hrs' : readS (secN a b k) = some t := by rw [HX.out.1]; exact hrs
        have hsl := fun w => slot_ok t (by omega) w
        have hw1 := fun h => outN_wrong a b k hlt t hrs' h
        have hw2 := fun h h' => outN_less a b k hlt t hrs' h h'
        have hw3 := fun h h' => outN_more a b k hlt t hrs' h h'
        obtain ⟨O, hO⟩ : ∃ O, O = outN a b k := ⟨_, rfl⟩
        rw [← hO] at hw1 hw2 hw3 k41
        obtain ⟨N, hN⟩ : ∃ N, N = outN a b (k + 1) := ⟨_, rfl⟩
        have HN := hide hN
        rw [← hN] at hw1 hw2 hw3
        clear hrs hrs' hN hO ht1
        obtain ⟨og, oa, ol⟩ := O
        obtain ⟨tg, ta, tl⟩ := t
        simp only at hw1 hw2 hw3
        unfold superV at hsr hsl
        simp only at hsr hsl
        unfold superCells at k41
        simp only at k41
        obtain ⟨s2, hs2⟩ : ∃ s2, tg % 2 = s2 := ⟨_, rfl⟩
        rw [hs2] at hsl hw1 hw2 hw3
        clear hs2
        go_wp2_with fail
        refine hsr.mono ?_
        rintro e w2 ⟨rfl, b2⟩
        have k42 := k41.below b2 k41.lt
        have k22 := k21.below b2 k21.lt
        have bw2 := bw1.trans (b2.mono bw1.size)
        clear hsr k41 k21 b2
        have k43 := k42.alloc (.cells #[.int .u64 (tg : Int), .int .i64 ta, .int .i64 tl] 115)
        have k23 := k22.alloc (.cells #[.int .u64 (tg : Int), .int .i64 ta, .int .i64 tl] 115)
        have k8 := Blk.new w2 115 #[.int .u64 (tg : Int), .int .i64 ta, .int .i64 tl]
        have bw3 := bw2.alloc bw2.size (.cells #[.int .u64 (tg : Int), .int .i64 ta, .int .i64 tl] 115)
        go_upto_region 9 with fail
        obtain ⟨g8, hg8⟩ : ∃ g8, g8 = w2.heap.size := ⟨_, rfl⟩
        obtain ⟨w3, hw3'⟩ : ∃ w3, w3 = w2.alloc (.cells #[.int .u64 (tg : Int), .int .i64 ta, .int .i64 tl] 115) := ⟨_, rfl⟩
        rw [← hw3', ← hg8] at k8
        rw [← hw3'] at k43 k23 bw3
        rw [← hw3', ← hg8]
        have hg8n : g8 ≠ g4 := by have := k42.lt; omega
        clear hw3' hg8 k42 k22 bw2
        have c80 := k8.cell 0
        have c81 := k8.cell 1
        have c82 := k8.cell 2
        simp at c80 c81 c82
        by_cases q1 : s2 = k
        · have t1 : ((s2 : Int) == (k : Int)) = true := by rw [beqNat, q1]; simp
          by_cases q2 : og < tg
          · have t2 : decide (og < tg) = true := by simp [q2]
            have hn := hide (hw3 q1 q2)
            clear q1 q2 hw1 hw2 hw3
            go_wp2_with fail
            refine (hsl w3).mono ?_
            rintro e w4 ⟨rfl, b4⟩
            have k44 := k43.below b4 k43.lt
            have k24 := k23.below b4 k23.lt
            have k84 := k8.below b4 k8.lt
            have bw4 := bw3.trans (b4.mono bw3.size)
            clear hsl k43 k23 k8 bw3 b4 c80 c81 c82
            have c80 := k84.cell 0
            have c81 := k84.cell 1
            have c82 := k84.cell 2
            have d0 := k44.cell 0
            have d1 := k44.cell 1
            have d2 := k44.cell 2
            have z0 := k44.frozen 0
            have z1 := k44.frozen 1
            have z2 := k44.frozen 2
            simp at c80 c81 c82 d0 d1 d2
            have HB := hide (And.intro k44 (And.intro k24 bw4))
            clear k44 k24 k84 bw4
            go_wp2
            go_roundw
            case rel => exact ⟨k + 1, by omega, by go_num, by
              rw [← HN.out, hn.out]
              simpa [superCells] using ((HB.out.1.set_ 0 (.int .u64 (tg : Int))).set_ 1 (.int .i64 ta)).set_ 2 (.int .i64 tl), ((HB.out.2.1.far (p := ⟨g4, 0, none⟩) (Nat.ne_of_lt hg4w) _).far (p := ⟨g4, 1, none⟩) (Nat.ne_of_lt hg4w) _).far (p := ⟨g4, 2, none⟩) (Nat.ne_of_lt hg4w) _,
              ((HB.out.2.2.setCell (p := ⟨g4, 0, none⟩) (Nat.le_of_lt hg4w) _).setCell (p := ⟨g4, 1, none⟩) (Nat.le_of_lt hg4w) _).setCell (p := ⟨g4, 2, none⟩) (Nat.le_of_lt hg4w) _⟩
            case measure => simp [intOf]; omega
          · have t2 : decide (og < tg) = false := by simp [q2]
            have hn := hide (hw2 q1 q2)
            clear q1 q2 hw1 hw2 hw3
            go_wp2_with fail
            refine (hsl w3).mono ?_
            rintro e w4 ⟨rfl, b4⟩
            have k44 := k43.below b4 k43.lt
            have k24 := k23.below b4 k23.lt
            have k84 := k8.below b4 k8.lt
            have bw4 := bw3.trans (b4.mono bw3.size)
            clear hsl k43 k23 k8 bw3 b4 c80 c81 c82
            have c80 := k84.cell 0
            have c81 := k84.cell 1
            have c82 := k84.cell 2
            have d0 := k44.cell 0
            have d1 := k44.cell 1
            have d2 := k44.cell 2
            have z0 := k44.frozen 0
            have z1 := k44.frozen 1
            have z2 := k44.frozen 2
            simp at c80 c81 c82 d0 d1 d2
            have HB := hide (And.intro k44 (And.intro k24 bw4))
            clear k44 k24 k84 bw4
            go_wp2
            go_roundw
            case rel => exact ⟨k + 1, by omega, by go_num, by rw [← HN.out, hn.out]; exact HB.out.1, HB.out.2.1, HB.out.2.2⟩
            case measure => simp [intOf]; omega
        · have t1 : ((s2 : Int) == (k : Int)) = false := by rw [beqNat]; simp [q1]
          have hn := hide (hw1 q1)
          clear q1 hw1 hw2 hw3
          go_wp2_with fail
          refine (hsl w3).mono ?_
          rintro e w4 ⟨rfl, b4⟩
          have k44 := k43.below b4 k43.lt
          have k24 := k23.below b4 k23.lt
          have k84 := k8.below b4 k8.lt
          have bw4 := bw3.trans (b4.mono bw3.size)
          clear hsl k43 k23 k8 bw3 b4 c80 c81 c82
          have c80 := k84.cell 0
          have c81 := k84.cell 1
          have c82 := k84.cell 2
          have d0 := k44.cell 0
          have d1 := k44.cell 1
          have d2 := k44.cell 2
          have z0 := k44.frozen 0
          have z1 := k44.frozen 1
          have z2 := k44.frozen 2
          simp at c80 c81 c82 d0 d1 d2
          have HB := hide (And.intro k44 (And.intro k24 bw4))
          clear k44 k24 k84 bw4
          go_wp2
          go_roundw
          case rel => exact ⟨k + 1, by omega, by go_num, by rw [← HN.out, hn.out]; exact HB.out.1, HB.out.2.1, HB.out.2.2⟩
          case measure => simp [intOf]; omega
    · obtain rfl : k = 2 := by omega
      have z0 := k2.frozen 0
      have z1 := k2.frozen 1
      have z2 := k2.frozen 2
      have e0 := k2.cell 0
      have e1 := k2.cell 1
      have e2 := k2.cell 2
      simp at e0 e1 e2
      rcases hn : newestS a b with _ | t
      · have ho : outN a b 2 = SU.zero := by simp [outN, hn]
        rw [ho] at k4
        have hres : newRes none = .tuple #[superV SU.zero, .int .i64 4] := rfl
        unfold superCells SU.zero at k4
        have d0 := k4.cell 0
        have d1 := k4.cell 1
        have d2 := k4.cell 2
        simp at d0 d1 d2
        have HR := hide (show newRes (newestS a b) = .tuple #[superV SU.zero, .int .i64 4] by rw [hn]; rfl)
        clear hn ho hres k4 k2
        go_wp2
        refine bodyPost_ret (v := .tuple #[superV SU.zero, .int .i64 4]) (by simp [results, Try.results81, go_sem, superV, SU.zero, e0, e1, e2]) rfl ⟨by rw [HR.out], ?_⟩
        exact ((bw.setCell (p := ⟨w.heap.size, 0, none⟩) (Nat.le_refl _) _).setCell (p := ⟨w.heap.size, 1, none⟩) (Nat.le_refl _) _).setCell (p := ⟨w.heap.size, 2, none⟩) (Nat.le_refl _) _
      · have ho : outN a b 2 = t := by simp [outN, hn]
        rw [ho] at k4
        have hg := ((t.right_iff).1 (newestS_right hn)).1
        have HR := hide (show newRes (newestS a b) = .tuple #[superV t, .int .i64 0] by rw [hn]; rfl)
        obtain ⟨tg, ta, tl⟩ := t
        unfold superCells at k4
        simp only at k4 hg
        have d0 := k4.cell 0
        have d1 := k4.cell 1
        have d2 := k4.cell 2
        simp at d0 d1 d2
        have hg0 : ((tg : Int) == 0) = false := by simp; omega
        have hg1 : ¬ tg = 0 := by omega
        clear hn ho k4 k2
        go_wp2
        refine bodyPost_ret (v := .tuple #[superV ⟨tg, ta, tl⟩, .int .i64 0]) (by simp [results, Try.results81, go_sem, superV, e0, e1, e2]) rfl ⟨by rw [HR.out], ?_⟩
        exact ((bw.setCell (p := ⟨w.heap.size, 0, none⟩) (Nat.le_refl _) _).setCell (p := ⟨w.heap.size, 1, none⟩) (Nat.le_refl _) _).setCell (p := ⟨w.heap.size, 2, none⟩) (Nat.le_refl _) _

set_option maxRecDepth 100000 in
theorem newest_nil (w : World) : Calls Try.prog 81 #[.pointer none] w fun e w' => e = .returned (.tuple #[superV SU.zero, .int .i64 6]) ∧ Below w.heap.size w w' := by
  have k2 : Blk ((w.alloc (.cells #[.int .u64 0, .int .i64 0, .int .i64 0] 115)).alloc (.cells #[.int .u64 0, .int .i64 0, .int .i64 0] 115)) w.heap.size 115 #[.int .u64 0, .int .i64 0, .int .i64 0] := (Blk.new w 115 _).alloc _
  have b0 : Below w.heap.size w ((w.alloc (.cells #[.int .u64 0, .int .i64 0, .int .i64 0] 115)).alloc (.cells #[.int .u64 0, .int .i64 0, .int .i64 0] 115)) := ((Below.refl _ _).alloc (Nat.le_refl _) _).alloc (by simp) _
  go_enter Try.func81, Try.ntmps81
  go_upto_region 2 with fail
  obtain ⟨w0, hw0⟩ : ∃ w0, w0 = (w.alloc (.cells #[.int .u64 0, .int .i64 0, .int .i64 0] 115)).alloc (.cells #[.int .u64 0, .int .i64 0, .int .i64 0] 115) := ⟨_, rfl⟩
  rw [← hw0] at k2 b0 ⊢
  clear hw0
  go_wp2_with fail
  refine wp_loop_rounds 1 ?_
  rw [rounds_succ]
  have e0 := k2.cell 0
  have e1 := k2.cell 1
  have e2 := k2.cell 2
  have z0 := k2.frozen 0
  have z1 := k2.frozen 1
  have z2 := k2.frozen 2
  simp at e0 e1 e2
  go_wp2_with (go_at_call 25; refine (read_nil _ _).mono ?_; rintro e w' ⟨rfl, rfl⟩)
  refine bodyPost_ret (v := .tuple #[superV SU.zero, .int .i64 6]) (by simp [results, Try.results81, go_sem, superV, SU.zero, e0, e1, e2]) rfl ⟨rfl, ?_⟩
  exact ((b0.setCell (p := ⟨w.heap.size, 0, none⟩) (Nat.le_refl _) _).setCell (p := ⟨w.heap.size, 1, none⟩) (Nat.le_refl _) _).setCell (p := ⟨w.heap.size, 2, none⟩) (Nat.le_refl _) _
end Go.Proofs.Ytnnhklembdaieaa
