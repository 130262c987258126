/- SuperFollows: the statement. -/
import Derived.Test.YtnnhklembdaieaaFollW
import Derived.Test.YtnnhklembdaieaaJoinA
import Derived.Test.YtnnhklembdaieaaJoinD
namespace Go.Proofs.Ytnnhklembdaieaa
open Go.ChangeShapes Go.WideShapes Go.ChangeAt Go.RowKit Go.Deep
set_option linter.unusedVariables false

set_option maxRecDepth 100000 in
theorem superFollows_lifted (os : Os) (started : os.Started) (H : Type) (enc : TypeId × Value → H) :
    ReturnsInHanded {} Try.checked os 18 .any (Rows.superFollowsSpec.pre6 enc Try.prog Try.f18 Rows.superFollowsRow.domain false) (Rows.superFollowsSpec.post enc Try.prog Try.f18 false true false false) := by
  refine returnsInHanded_of_change (C := Try.checked) own started (by kernel_rfl) Try.func18
    (ChangeSpec.witness6 (enc := enc) (C := Try.checked) false ⟨#[], #[.agg #[.int .u64 0, .int .i64 0, .int .i64 0], .agg #[.int .u64 0, .int .i64 0, .int .i64 0], .bool false], []⟩ 8 (by kernel_rfl) (by kernel_rfl) (by kernel_rfl) (by kernel_rfl)) ?_
  intro W base args ds gs before hval0 hW hcnd _
  have hval : ∀ (j : Nat) t v, Try.f18.params[j]? = some t → args[j]? = some v → Value.okWide Try.prog W .any base t v := hval0
  have hW' := hW
  obtain ⟨p, q, hA0, hV, rfl, hfz, hnd⟩ := hW
  have hA : DataW.TrodAll enc Try.prog W 0 (fun _ => true) true Try.f18.params.toList args.toList ds p := hA0
  rw [Try.params18] at hA hval
  obtain ⟨v0, vs0, d0, ds0, p0, q0, hargs, rfl, rfl, h0, r0⟩ := trodAll_cons hA
  obtain ⟨v1, vs1, d1, ds1, p1, q1, rfl, rfl, rfl, h1, r1⟩ := trodAll_cons r0
  obtain ⟨v2, vs2, d2, ds2, p2, q2, rfl, rfl, rfl, h2, r2⟩ := trodAll_cons r1
  obtain ⟨rfl, rfl, rfl⟩ := trodAll_nil r2
  obtain rfl : args = #[v0, v1, v2] := by cases args; simp_all
  obtain ⟨rfl, rfl⟩ := trodVars_none hV
  have k0 := h0
  have lt0 : ∀ x ∈ p0, x.block < W.heap.size := by obtain ⟨m, hm⟩ := k0; exact DataW.trod_lt m _ _ _ hm
  obtain ⟨sg0, sa0, sl0, rfl, bs0⟩ := open_super (hval 0 115 v0 rfl rfl) h0
  have k1 := h1
  have lt1 : ∀ x ∈ p1, x.block < W.heap.size := by obtain ⟨m, hm⟩ := k1; exact DataW.trod_lt m _ _ _ hm
  obtain ⟨sg1, sa1, sl1, rfl, bs1⟩ := open_super (hval 1 115 v1 rfl rfl) h1
  have k2 := h2
  have lt2 : ∀ x ∈ p2, x.block < W.heap.size := by obtain ⟨m, hm⟩ := k2; exact DataW.trod_lt m _ _ _ hm
  obtain ⟨x2, rfl, rfl, rfl⟩ := open_bool Try.underlying4 (hval 2 4 v2 rfl rfl) h2
  clear hA0 hval0
  refine (foll_any W sg0 sa0 sl0 sg1 sa1 sl1 x2).mono fun e W' ⟨he, bel⟩ => ?_
  subst he
  exact ⟨_, rfl, _, _, _, [], _, [], hW', trodAll_mk1 (shut_bool Try.underlying4 _), (trodAll_cons_mk (Below.trod laidOut (by kernel_rfl) (of_decide_eq_true (by kernel_rfl)) k0 bel lt0) (trodAll_cons_mk (Below.trod laidOut (by kernel_rfl) (of_decide_eq_true (by kernel_rfl)) k1 bel lt1) (trodAll_cons_mk (Below.trod laidOut (by kernel_rfl) (of_decide_eq_true (by kernel_rfl)) k2 bel lt2) trodAll_mk0))), rfl, bel.frame _, fun h => by cases h⟩

theorem superFollows_fA : lightA Try.prog 18 Try.f18 Rows.superFollowsSpec Rows.superFollowsRow = true := by kernel_rfl
theorem superFollows_fB : lightB Try.prog 18 Try.f18 Rows.superFollowsSpec Rows.superFollowsRow = true := by kernel_rfl
theorem superFollows_f1 : (Rows.superFollowsRow.inPlace == Try.prog.inPlace 18) = true := by kernel_rfl
theorem superFollows_f2 : (Rows.superFollowsRow.unfollowed == Try.prog.unfollowed 18) = true := by kernel_rfl
theorem superFollows_f3 : (Rows.superFollowsRow.recurses == Try.prog.recurses 18) = true := by kernel_rfl
theorem superFollows_f4 : (Rows.superFollowsRow.named == Try.prog.varsNamed 18) = true := by kernel_rfl
theorem superFollows_facts : joinedFacts Try.prog 18 Try.f18 Rows.superFollowsSpec Rows.superFollowsRow = true := joined_of superFollows_fA superFollows_fB superFollows_f1 superFollows_f2 superFollows_f3 superFollows_f4 rfl rfl rfl
theorem superFollows_no : Try.prog.funcNamed Rows.superFollowsRow.func = some 18 := by kernel_rfl
theorem superFollows_wrap : Try.f18.isWrapper Try.prog Rows.superFollowsRow.wrapper Rows.superFollowsRow.mainSum := by unfold Func.isWrapper; first | (rw [if_pos (by decide +kernel)]; kernel_rfl) | (rw [if_neg (by decide +kernel)]; exact ⟨rfl, rfl⟩)

theorem superFollows_holds : Rows.SuperFollowsSaid :=
  OpenClaim.holds_of_wide 18 Try.f18 rfl rfl rfl rfl rfl rfl rfl ⟨rfl, rfl, rfl, rfl, rfl⟩ rfl rfl rfl rfl rfl superFollows_no Try.func18 superFollows_facts
    (of_decide_eq_true (by kernel_rfl)) superFollows_wrap
    (fun os started H enc _ => superFollows_lifted os started H enc)
end Go.Proofs.Ytnnhklembdaieaa
