/- SuperTurned: the statement. -/
import Derived.Test.YtnnhklembdaieaaTurnW
import Derived.Test.YtnnhklembdaieaaJoinA
import Derived.Test.YtnnhklembdaieaaJoinC
import Derived.Test.YtnnhklembdaieaaJoinD
namespace Go.Proofs.Ytnnhklembdaieaa
open Go.ChangeShapes Go.WideShapes Go.ChangeAt Go.RowKit Go.Deep
set_option linter.unusedVariables false

set_option maxRecDepth 100000 in
theorem superTurned_lifted (os : Os) (started : os.Started) (H : Type) (enc : TypeId × Value → H) :
    ReturnsInHanded {} Try.checked os 16 .any (Rows.superTurnedSpec.pre6 enc Try.prog Try.f16 Rows.superTurnedRow.domain false) (Rows.superTurnedSpec.post enc Try.prog Try.f16 false true false false) := by
  refine returnsInHanded_of_change (C := Try.checked) own started (by kernel_rfl) Try.func16
    (ChangeSpec.witness6 (enc := enc) (C := Try.checked) false ⟨#[], #[.agg #[.int .u64 0, .int .i64 0, .int .i64 0], .int .u8 0, .int .u32 0, .int .u8 0], []⟩ 8 (by kernel_rfl) (by kernel_rfl) (by kernel_rfl) (by kernel_rfl)) ?_
  intro W base args ds gs before hval0 hW hcnd _
  have hval : ∀ (j : Nat) t v, Try.f16.params[j]? = some t → args[j]? = some v → Value.okWide Try.prog W .any base t v := hval0
  have hW' := hW
  obtain ⟨p, q, hA0, hV, rfl, hfz, hnd⟩ := hW
  have hA : DataW.TrodAll enc Try.prog W 0 (fun _ => true) true Try.f16.params.toList args.toList ds p := hA0
  rw [Try.params16] at hA hval
  obtain ⟨v0, vs0, d0, ds0, p0, q0, hargs, rfl, rfl, h0, r0⟩ := trodAll_cons hA
  obtain ⟨v1, vs1, d1, ds1, p1, q1, rfl, rfl, rfl, h1, r1⟩ := trodAll_cons r0
  obtain ⟨v2, vs2, d2, ds2, p2, q2, rfl, rfl, rfl, h2, r2⟩ := trodAll_cons r1
  obtain ⟨v3, vs3, d3, ds3, p3, q3, rfl, rfl, rfl, h3, r3⟩ := trodAll_cons r2
  obtain ⟨rfl, rfl, rfl⟩ := trodAll_nil r3
  obtain rfl : args = #[v0, v1, v2, v3] := by cases args; simp_all
  obtain ⟨rfl, rfl⟩ := trodVars_none hV
  have k0 := h0
  have lt0 : ∀ x ∈ p0, x.block < W.heap.size := by obtain ⟨m, hm⟩ := k0; exact DataW.trod_lt m _ _ _ hm
  obtain ⟨sg0, sa0, sl0, rfl, bs0⟩ := open_super (hval 0 115 v0 rfl rfl) h0
  have k1 := h1
  have lt1 : ∀ x ∈ p1, x.block < W.heap.size := by obtain ⟨m, hm⟩ := k1; exact DataW.trod_lt m _ _ _ hm
  obtain ⟨x1, rfl, rfl, rfl, w1⟩ := open_int Try.underlying5 (hval 1 5 v1 rfl rfl) h1
  have b1 := u8_bounds w1
  have k2 := h2
  have lt2 : ∀ x ∈ p2, x.block < W.heap.size := by obtain ⟨m, hm⟩ := k2; exact DataW.trod_lt m _ _ _ hm
  obtain ⟨x2, rfl, rfl, rfl, w2⟩ := open_int Try.underlying67 (hval 2 67 v2 rfl rfl) h2
  have b2 := u32_bounds w2
  have k3 := h3
  have lt3 : ∀ x ∈ p3, x.block < W.heap.size := by obtain ⟨m, hm⟩ := k3; exact DataW.trod_lt m _ _ _ hm
  obtain ⟨x3, rfl, rfl, rfl, w3⟩ := open_int Try.underlying5 (hval 3 5 v3 rfl rfl) h3
  have b3 := u8_bounds w3
  clear hA0 hval0
  refine (turn_any W sg0 sa0 sl0 x1 x2 x3 b1 b2 b3).mono fun e W' ⟨he, bel⟩ => ?_
  subst he
  exact ⟨_, rfl, _, _, _, [], _, [], hW', trodAll_mk1 (shut_bool Try.underlying4 _), (trodAll_cons_mk (Below.trod laidOut (by kernel_rfl) (of_decide_eq_true (by kernel_rfl)) k0 bel lt0) (trodAll_cons_mk (Below.trod laidOut (by kernel_rfl) (of_decide_eq_true (by kernel_rfl)) k1 bel lt1) (trodAll_cons_mk (Below.trod laidOut (by kernel_rfl) (of_decide_eq_true (by kernel_rfl)) k2 bel lt2) (trodAll_cons_mk (Below.trod laidOut (by kernel_rfl) (of_decide_eq_true (by kernel_rfl)) k3 bel lt3) trodAll_mk0)))), rfl, bel.frame _, fun h => by cases h⟩

theorem superTurned_fA : lightA Try.prog 16 Try.f16 Rows.superTurnedSpec Rows.superTurnedRow = true := by kernel_rfl
theorem superTurned_fB : lightB Try.prog 16 Try.f16 Rows.superTurnedSpec Rows.superTurnedRow = true := by kernel_rfl
theorem superTurned_f1 : (Rows.superTurnedRow.inPlace == Try.prog.inPlace 16) = true := by kernel_rfl
theorem superTurned_f2 : (Rows.superTurnedRow.unfollowed == Try.prog.unfollowed 16) = true := by kernel_rfl
theorem superTurned_f3 : (Rows.superTurnedRow.recurses == Try.prog.recurses 16) = true := by kernel_rfl
theorem superTurned_f4 : (Rows.superTurnedRow.named == Try.prog.varsNamed 16) = true := by kernel_rfl
theorem superTurned_facts : joinedFacts Try.prog 16 Try.f16 Rows.superTurnedSpec Rows.superTurnedRow = true := joined_of superTurned_fA superTurned_fB superTurned_f1 superTurned_f2 superTurned_f3 superTurned_f4 rfl rfl rfl
theorem superTurned_no : Try.prog.funcNamed Rows.superTurnedRow.func = some 16 := by kernel_rfl
theorem superTurned_wrap : Try.f16.isWrapper Try.prog Rows.superTurnedRow.wrapper Rows.superTurnedRow.mainSum := by unfold Func.isWrapper; first | (rw [if_pos (by decide +kernel)]; kernel_rfl) | (rw [if_neg (by decide +kernel)]; exact ⟨rfl, rfl⟩)

theorem superTurned_holds : Rows.SuperTurnedSaid :=
  OpenClaim.holds_of_wide 16 Try.f16 rfl rfl rfl rfl rfl rfl rfl ⟨rfl, rfl, rfl, rfl, rfl⟩ rfl rfl rfl rfl rfl superTurned_no Try.func16 superTurned_facts
    (of_decide_eq_true (by kernel_rfl)) superTurned_wrap
    (fun os started H enc _ => superTurned_lifted os started H enc)
end Go.Proofs.Ytnnhklembdaieaa
