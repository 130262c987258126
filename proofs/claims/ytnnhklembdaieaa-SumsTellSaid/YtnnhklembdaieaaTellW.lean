/- SumsTell: the walk. -/
import Derived.Test.YtnnhklembdaieaaSumE
import Derived.Test.YtnnhklembdaieaaLawA
namespace Go.Proofs.Ytnnhklembdaieaa
open Go.RowKit
set_option linter.unusedSimpArgs false
set_option linter.unusedVariables false

set_option maxRecDepth 100000 in
set_option maxHeartbeats 1600000 in
theorem tell_far (w : World) (A B : Option Addr) (na ca nb cb : Nat) (h : 3000 < na ∨ 3000 < nb) :
    Calls Try.prog 6 #[.slice A na ca, .slice B nb cb] w fun e w' => e = .returned (.bool true) ∧ Below w.heap.size w w' := by
  have hd : (decide ((na : Int) > 3000) = true) ∨ (decide ((na : Int) > 3000) = false ∧ decide ((nb : Int) > 3000) = true) := by
    by_cases h1 : 3000 < na
    · exact .inl (by simp; omega)
    · exact .inr ⟨by simp; omega, by simp; omega⟩
  clear h
  rcases hd with hd | ⟨hd, hd2⟩
  all_goals
    go_enter Try.func6, Try.ntmps6
    go_wp2_with fail
    refine (alive01 _).mono ?_
    rintro e w1 ⟨rfl, b1⟩
    go_wp2
    go_ret
    exact ⟨rfl, b1⟩

set_option maxRecDepth 100000 in
set_option maxHeartbeats 3200000 in
theorem tell_near (w : World) (A B : Option Addr) (na ca nb cb : Nat) (la lb : List UInt8) (ha : SlAt w A na (bvs la)) (hb : SlAt w B nb (bvs lb)) (h1 : na ≤ 3000) (h2 : nb ≤ 3000) :
    Calls Try.prog 6 #[.slice A na ca, .slice B nb cb] w fun e w' => e = .returned (.bool true) ∧ Below w.heap.size w w' := by
  have hd1 : decide ((na : Int) > 3000) = false := by simp; omega
  have hd2 : decide ((nb : Int) > 3000) = false := by simp; omega
  have k1 := ct_new w
  have b1 : Below w.heap.size w (w.alloc (.cells Try.zeroCells78 78)) := (Below.refl _ w).alloc (Nat.le_refl _) _
  have hA0 : ∀ a, A = some a → 0 < na → a.block ≠ w.heap.size := fun a e hn => by have := ha.lt a e hn; omega
  have hB0 : ∀ a, B = some a → 0 < nb → a.block ≠ w.heap.size := fun a e hn => by have := hb.lt a e hn; omega
  have ha1 := ha.below b1 (Nat.le_refl _)
  have hb1 := hb.below b1 (Nat.le_refl _)
  go_enter Try.func6, Try.ntmps6
  go_upto_region 4 with fail
  obtain ⟨w1, hw1⟩ : ∃ w1, w1 = w.alloc (.cells Try.zeroCells78 78) := ⟨_, rfl⟩
  obtain ⟨b, hbe⟩ : ∃ b, b = w.heap.size := ⟨_, rfl⟩
  rw [← hw1] at k1 b1 ha1 hb1 ⊢
  rw [← hbe] at k1 hA0 hB0 ⊢
  have HB := hide hbe
  have K1 := hide k1
  have HA := hide ha1
  have HBB := hide hb1
  clear hw1 hbe k1 ha hb ha1 hb1
  go_wp2_with fail
  refine (cLong_ok w1 b 0 false K1.out (by omega) A na ca la HA.out (by omega) hA0).mono ?_
  rintro e w2 ⟨rfl, k2, f2⟩
  have ha2 := HA.out.fr f2 hA0
  have hb2 := HBB.out.fr f2 hB0
  have K2 := hide (And.intro k2 f2)
  have HA2 := hide ha2
  have HB2 := hide hb2
  clear k2 f2 ha2 hb2 HA HBB
  go_wp2_with fail
  refine (cLong_ok w2 b 1 true K2.out.1 (by omega) B nb cb lb HB2.out (by omega) hB0).mono ?_
  rintro e w3 ⟨rfl, k3, f3⟩
  have HA3 := hide (HA2.out.fr f3 hA0)
  have HB3 := hide (HB2.out.fr f3 hB0)
  have K3 := hide k3
  have b3 : Below w.heap.size w w3 := (b1.trans (K2.out.2.below b1.size (fun k hk => by have := HB.out; omega))).trans (f3.below (Nat.le_trans b1.size K2.out.2.size) (fun k hk => by have := HB.out; omega))
  clear k3 f3 HA2 HB2
  go_wp2_with fail
  refine (alive01 _).mono ?_
  rintro e w4 ⟨rfl, b4⟩
  have HA4 := hide (HA3.out.below b4 (Nat.le_refl _))
  have HB4 := hide (HB3.out.below b4 (Nat.le_refl _))
  have K4 := hide (Blk.below K3.out b4 (Blk.lt K3.out) : CtAt w4 b true 2)
  have HL := hide (b3.trans (b4.mono b3.size))
  clear b4 b3 HA3 HB3 K3 b1 K2
  go_wp2_with fail
  refine (short_ok A na ca la w4 HA4.out (by omega)).mono ?_
  rintro e w5 ⟨rfl, rfl⟩
  go_wp2_with fail
  refine (refShort_ok A na ca la w4 HA4.out (by omega)).mono ?_
  rintro e w5 ⟨rfl, rfl⟩
  go_wp2_with fail
  refine (long_ok A na ca la w4 HA4.out (by omega)).mono ?_
  rintro e w5 ⟨rfl, rfl⟩
  go_wp2_with fail
  refine (refLong_ok A na ca la w4 HA4.out (by omega)).mono ?_
  rintro e w5 ⟨rfl, rfl⟩
  go_wp2_with fail
  refine (refLong_ok A na ca la w4 HA4.out (by omega)).mono ?_
  rintro e w5 ⟨rfl, rfl⟩
  go_wp2_with fail
  refine (refLong_ok B nb cb lb w4 HB4.out (by omega)).mono ?_
  rintro e w5 ⟨rfl, rfl⟩
  go_wp2_with fail
  refine (asked_ok w4 b 2 true K4.out).mono ?_
  rintro e w5 ⟨rfl, rfl⟩
  go_wp2_with fail
  refine (cLong_nil B nb cb lb w4 HB4.out (by omega)).mono ?_
  rintro e w5 ⟨rfl, rfl⟩
  go_wp2_with fail
  refine (refLong_ok B nb cb lb w4 HB4.out (by omega)).mono ?_
  rintro e w5 ⟨rfl, rfl⟩
  go_wp2_with fail
  refine (asked_nil w4).mono ?_
  rintro e w5 ⟨rfl, rfl⟩
  go_wp2
  go_ret
  exact ⟨by simp, HL.out⟩

theorem tell_any (w : World) (A B : Option Addr) (na ca nb cb : Nat) (la lb : List UInt8) (hla : la.length = na) (ha : la.length ≤ 9223372036854775807 ∧ SlAt w A na (bvs la)) (hlb : lb.length = nb) (hb : lb.length ≤ 9223372036854775807 ∧ SlAt w B nb (bvs lb)) :
    Calls Try.prog 6 #[.slice A na ca, .slice B nb cb] w fun e w' => e = .returned (.bool true) ∧ Below w.heap.size w w' := by
  by_cases h : 3000 < na ∨ 3000 < nb
  · exact tell_far w A B na ca nb cb h
  · exact tell_near w A B na ca nb cb la lb ha.2 hb.2 (by omega) (by omega)
end Go.Proofs.Ytnnhklembdaieaa
