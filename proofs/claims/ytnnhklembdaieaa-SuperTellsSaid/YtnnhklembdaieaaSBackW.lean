/- SuperBack: the walk. -/
import Derived.Test.YtnnhklembdaieaaAlive12
namespace Go.Proofs.Ytnnhklembdaieaa
open Go.RowKit
set_option linter.unusedSimpArgs false
set_option linter.unusedVariables false

set_option maxRecDepth 100000 in
set_option maxHeartbeats 1600000 in
theorem sback_far (w : World) (g : Nat) (a l : Int) (A : Option Addr) (n c : Nat) (hn : n ≤ 9223372036854775807) (h : 300 < n) :
    Calls Try.prog 15 #[.agg #[.int .u64 (g : Int), .int .i64 a, .int .i64 l], .slice A n c] w fun e w' => e = .returned (.bool true) ∧ Below w.heap.size w w' := by
  have h1 : decide ((n : Int) > 300) = true := by simp; omega
  have b1 : Below w.heap.size w (w.alloc (.cells #[.int .u64 (g : Int), .int .i64 a, .int .i64 l] 115)) := (Below.refl _ _).alloc (Nat.le_refl _) _
  clear h
  go_enter Try.func15, Try.ntmps15
  go_wp2_with fail
  refine (alive12 _).mono ?_
  rintro e w2 ⟨rfl, b2⟩
  go_wp2
  go_ret
  exact ⟨rfl, b1.trans (b2.mono (by simp))⟩

/-- Write, whatever the super. -/
theorem swriteB (s : SU) (w : World) : Calls Try.prog 73 #[superV s] w fun e w' => ∃ (cv : Value) (ec : Int), e = .returned (.tuple #[cv, .int .i64 ec]) ∧ ((s.right = true ∧ ec = 0 ∧ ∃ A cap, cv = .slice A 128 cap ∧ 128 ≤ cap ∧ SlAt w' A 128 (bvs (superBytes s))) ∨ (s.right = false ∧ ec = 3 ∧ cv = .slice none 0 0)) ∧ Below w.heap.size w w' := by
  by_cases h : s.right = true
  · refine (swriteE s h w).mono ?_
    rintro e w' ⟨A, cap, rfl, ho, hb⟩
    have hcap : 128 ≤ cap := by
      obtain ⟨A2, c2, hv, hc, _, _⟩ := own_shape ho
      injection hv with _ _ h3
      rw [h3]; exact hc
    exact ⟨_, _, rfl, .inl ⟨h, rfl, A, cap, rfl, hcap, sl_own ho⟩, hb⟩
  · have h' : s.right = false := by simpa using h
    refine (swrite_no s h' w).mono ?_
    rintro e w' ⟨rfl, hb⟩
    exact ⟨_, _, rfl, .inr ⟨h', rfl, rfl⟩, hb⟩

set_option maxRecDepth 100000 in
set_option maxHeartbeats 3200000 in
theorem sback_near (w : World) (g : Nat) (a l : Int) (hg : g < 18446744073709551616) (A : Option Addr) (n c : Nat) (xs : List UInt8) (hx : SlAt w A n (bvs xs)) (hnc : n ≤ c) (hn : n ≤ 300) :
    Calls Try.prog 15 #[.agg #[.int .u64 (g : Int), .int .i64 a, .int .i64 l], .slice A n c] w fun e w' => e = .returned (.bool true) ∧ Below w.heap.size w w' := by
  have h1 : decide ((n : Int) > 300) = false := by simp; omega
  have k1 := Blk.new w 115 #[.int .u64 (g : Int), .int .i64 a, .int .i64 l]
  have b1 : Below w.heap.size w (w.alloc (.cells #[.int .u64 (g : Int), .int .i64 a, .int .i64 l] 115)) := (Below.refl _ _).alloc (Nat.le_refl _) _
  have xl : xs.length = n := by have := hx.1; rwa [bvs_length] at this
  have HXL := hide xl
  clear xl
  go_enter Try.func15, Try.ntmps15
  go_upto_region 3 with fail
  obtain ⟨w1, hw1⟩ : ∃ w1, w1 = w.alloc (.cells #[.int .u64 (g : Int), .int .i64 a, .int .i64 l] 115) := ⟨_, rfl⟩
  rw [← hw1] at k1 b1 ⊢
  clear hw1
  have c0 := k1.cell 0
  have c1 := k1.cell 1
  have c2 := k1.cell 2
  simp at c0 c1 c2
  have hw := swriteB ⟨g, a, l⟩ w1
  unfold superV at hw
  simp only at hw
  go_wp2_with fail
  refine hw.mono ?_
  rintro e w2 ⟨cv, ec, rfl, hor, b2⟩
  have k2 := k1.below b2 k1.lt
  have b2' := b1.trans (b2.mono b1.size)
  clear hw c0 c1 c2 b2
  have HOR := hide hor
  clear hor
  go_upto_if 23 with fail
  go_cut [] (fun wx => Below w.heap.size w wx)
  case first =>
    rcases HOR.out with ⟨hr, rfl, A2, cap2, rfl, hcap2, s2⟩ | ⟨hr, rfl, rfl⟩
    · have hsr := sreadE A2 128 cap2 hcap2 _ w2 s2
      rw [readRes_some (readS_super hr)] at hsr
      unfold superV at hsr
      simp only at hsr
      clear HOR hr s2
      go_wp2_with fail
      refine hsr.mono ?_
      rintro e w3 ⟨rfl, b3⟩
      have k3 := (k2.below b3 k2.lt).alloc (.cells #[.int .u64 (g : Int), .int .i64 a, .int .i64 l] 115)
      have b3' := (b2'.trans (b3.mono b2'.size)).alloc (by have := b2'.size; have := b3.size; omega) (.cells #[.int .u64 (g : Int), .int .i64 a, .int .i64 l] 115)
      clear hsr k2 b3
      have c0 := k3.cell 0
      have c1 := k3.cell 1
      have c2 := k3.cell 2
      simp at c0 c1 c2
      go_wp2_with fail
      go_meet
      exact b3'
    · clear HOR
      go_wp2_with fail
      go_meet
      exact b2'
  case rest =>
    clear HOR k2 b2'
    have hxc := hx.below hcut (Nat.le_refl _)
    have hsr := sreadE A n c hnc xs wc hxc
    rcases hrs : readS xs with _ | t
    · rw [readRes_none hrs] at hsr
      have hwn : ∀ w, Calls Try.prog 73 #[.agg #[.int .u64 0, .int .i64 0, .int .i64 0]] w fun e w' => e = .returned (.tuple #[.slice none 0 0, .int .i64 3]) ∧ Below w.heap.size w w' := fun w => swrite_no SU.zero (by decide) w
      have hsr' : Calls Try.prog 74 #[.slice A n c] wc fun e w' => e = .returned (.tuple #[.agg #[.int .u64 0, .int .i64 0, .int .i64 0], .int .i64 3]) ∧ Below wc.heap.size wc w' := hsr
      clear hsr hxc hrs
      go_wp2_with fail
      refine hsr'.mono ?_
      rintro e w3 ⟨rfl, b3⟩
      have b3' := (hcut.trans (b3.mono hcut.size)).alloc (by have := hcut.size; have := b3.size; omega) (.cells #[.int .u64 0, .int .i64 0, .int .i64 0] 115)
      go_wp2_with fail
      refine (hwn _).mono ?_
      rintro e w4 ⟨rfl, b4⟩
      have b4' := b3'.trans (b4.mono b3'.size)
      go_wp2_with fail
      refine (alive12 _).mono ?_
      rintro e w5 ⟨rfl, b5⟩
      go_wp2
      go_ret
      exact ⟨rfl, b4'.trans (b5.mono b4'.size)⟩
    · rw [readRes_some hrs] at hsr
      obtain ⟨htr, hte⟩ := readS_some hrs
      have hwn := fun w => swriteE t htr w
      rw [hte] at hwn
      obtain ⟨tg, ta, tl⟩ := t
      unfold superV at hsr hwn
      simp only at hsr hwn
      clear hxc hrs htr hte
      go_wp2_with fail
      refine hsr.mono ?_
      rintro e w3 ⟨rfl, b3⟩
      have b3' := (hcut.trans (b3.mono hcut.size)).alloc (by have := hcut.size; have := b3.size; omega) (.cells #[.int .u64 (tg : Int), .int .i64 ta, .int .i64 tl] 115)
      clear hsr b3
      go_wp2_with fail
      refine (hwn _).mono ?_
      rintro e w4 ⟨A4, c4, rfl, ho4, b4⟩
      have b4' := b3'.trans (b4.mono b3'.size)
      have s4 := sl_own ho4
      clear hwn ho4 b4
      go_wp2_with fail
      refine (alive12 _).mono ?_
      rintro e w5 ⟨rfl, b5⟩
      have hs1 := run_str w5 A4 128 c4 xs (s4.below b5 (Nat.le_refl _))
      have hs2 := run_str w5 A n c xs ((hx.below b4' (Nat.le_refl _)).below b5 (Nat.le_refl _))
      go_wp2
      go_ret
      exact ⟨by simp [bs_toList], b4'.trans (b5.mono b4'.size)⟩

theorem sback_any (w : World) (g : Nat) (a l : Int) (hg : g < 18446744073709551616) (A : Option Addr) (n c : Nat) (xs : List UInt8) (hxl : xs.length = n) (o : (n ≤ c ∧ c ≤ 9223372036854775807) ∧ SlAt w A n (bvs xs)) :
    Calls Try.prog 15 #[.agg #[.int .u64 (g : Int), .int .i64 a, .int .i64 l], .slice A n c] w fun e w' => e = .returned (.bool true) ∧ Below w.heap.size w w' := by
  by_cases h : 300 < n
  · exact sback_far w g a l A n c (by omega) h
  · exact sback_near w g a l hg A n c xs o.2 o.1.1 (by omega)
end Go.Proofs.Ytnnhklembdaieaa
