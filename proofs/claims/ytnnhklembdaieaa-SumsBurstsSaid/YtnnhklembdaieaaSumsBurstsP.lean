/- SumsBursts: the statement. -/
import Derived.Test.YtnnhklembdaieaaBurstW
import Derived.Test.YtnnhklembdaieaaJoinA
import Derived.Test.YtnnhklembdaieaaJoinC
namespace Go.Proofs.Ytnnhklembdaieaa
open Go.ChangeShapes Go.WideShapes Go.ChangeAt Go.RowKit Go.Deep
set_option linter.unusedVariables false

set_option maxRecDepth 100000 in
theorem sumsBursts_lifted (os : Os) (started : os.Started) (H : Type) (enc : TypeId × Value → H) :
    ReturnsInHanded {} Try.checked os 8 .any (Rows.sumsBurstsSpec.pre6 enc Try.prog Try.f8 Rows.sumsBurstsRow.domain false) (Rows.sumsBurstsSpec.post enc Try.prog Try.f8 false true false false) := by
  refine returnsInHanded_of_change (C := Try.checked) own started (by kernel_rfl) Try.func8
    (ChangeSpec.witness6 (enc := enc) (C := Try.checked) false ⟨#[], #[.slice none 0 0, .int .i64 0, .int .u32 0], []⟩ 8 (by kernel_rfl) (by kernel_rfl) (by kernel_rfl) (by kernel_rfl)) ?_
  intro W base args ds gs before hval0 hW hcnd _
  have hval : ∀ (j : Nat) t v, Try.f8.params[j]? = some t → args[j]? = some v → Value.okWide Try.prog W .any base t v := hval0
  have hW' := hW
  obtain ⟨p, q, hA0, hV, rfl, hfz, hnd⟩ := hW
  have hA : DataW.TrodAll enc Try.prog W 0 (fun _ => true) true Try.f8.params.toList args.toList ds p := hA0
  rw [Try.params8] at hA hval
  obtain ⟨v0, vs0, d0, ds0, p0, q0, hargs, rfl, rfl, h0, r0⟩ := trodAll_cons hA
  obtain ⟨v1, vs1, d1, ds1, p1, q1, rfl, rfl, rfl, h1, r1⟩ := trodAll_cons r0
  obtain ⟨v2, vs2, d2, ds2, p2, q2, rfl, rfl, rfl, h2, r2⟩ := trodAll_cons r1
  obtain ⟨rfl, rfl, rfl⟩ := trodAll_nil r2
  obtain rfl : args = #[v0, v1, v2] := by cases args; simp_all
  obtain ⟨rfl, rfl⟩ := trodVars_none hV
  have k0 := h0
  have lt0 : ∀ x ∈ p0, x.block < W.heap.size := by obtain ⟨m, hm⟩ := k0; exact DataW.trod_lt m _ _ _ hm
  obtain ⟨a0, n0, c0, rfl⟩ := okWide_slice Try.underlying28 (hval 0 28 v0 rfl rfl)
  obtain ⟨fu0, hf0⟩ := h0
  obtain ⟨l0, hl0, o0⟩ := open_bytes (show DataW.trod enc Try.prog W 0 (fun _ => true) true fu0 28 [.slice a0 n0 c0] = some (d0, p0) from hf0)
  have k1 := h1
  have lt1 : ∀ x ∈ p1, x.block < W.heap.size := by obtain ⟨m, hm⟩ := k1; exact DataW.trod_lt m _ _ _ hm
  obtain ⟨x1, rfl, rfl, rfl, w1⟩ := open_int Try.underlying3 (hval 1 3 v1 rfl rfl) h1
  have b1 := i64_bounds w1
  have k2 := h2
  have lt2 : ∀ x ∈ p2, x.block < W.heap.size := by obtain ⟨m, hm⟩ := k2; exact DataW.trod_lt m _ _ _ hm
  obtain ⟨x2, rfl, rfl, rfl, w2⟩ := open_int Try.underlying67 (hval 2 67 v2 rfl rfl) h2
  have b2 := u32_bounds w2
  clear hA0 hval0
  refine (burst_any W a0 n0 c0 l0 hl0 o0 x1 x2 b2).mono fun e W' ⟨he, bel⟩ => ?_
  subst he
  exact ⟨_, rfl, _, _, _, [], _, [], hW', trodAll_mk1 (shut_bool Try.underlying4 _), (trodAll_cons_mk (Below.trod laidOut (by kernel_rfl) (of_decide_eq_true (by kernel_rfl)) k0 bel lt0) (trodAll_cons_mk (Below.trod laidOut (by kernel_rfl) (of_decide_eq_true (by kernel_rfl)) k1 bel lt1) (trodAll_cons_mk (Below.trod laidOut (by kernel_rfl) (of_decide_eq_true (by kernel_rfl)) k2 bel lt2) trodAll_mk0))), rfl, bel.frame _, fun h => by cases h⟩

theorem sumsBursts_fA : lightA Try.prog 8 Try.f8 Rows.sumsBurstsSpec Rows.sumsBurstsRow = true := by kernel_rfl
theorem sumsBursts_fB : lightB Try.prog 8 Try.f8 Rows.sumsBurstsSpec Rows.sumsBurstsRow = true := by kernel_rfl
theorem sumsBursts_f1 : (Rows.sumsBurstsRow.inPlace == Try.prog.inPlace 8) = true := by kernel_rfl
theorem sumsBursts_f2 : (Rows.sumsBurstsRow.unfollowed == Try.prog.unfollowed 8) = true := by kernel_rfl
theorem sumsBursts_f3 : (Rows.sumsBurstsRow.recurses == Try.prog.recurses 8) = true := by kernel_rfl
theorem sumsBursts_f4 : (Rows.sumsBurstsRow.named == Try.prog.varsNamed 8) = true := by kernel_rfl
theorem sumsBursts_facts : joinedFacts Try.prog 8 Try.f8 Rows.sumsBurstsSpec Rows.sumsBurstsRow = true := joined_of sumsBursts_fA sumsBursts_fB sumsBursts_f1 sumsBursts_f2 sumsBursts_f3 sumsBursts_f4 rfl rfl rfl
theorem sumsBursts_no : Try.prog.funcNamed Rows.sumsBurstsRow.func = some 8 := by kernel_rfl
theorem sumsBursts_wrap : Try.f8.isWrapper Try.prog Rows.sumsBurstsRow.wrapper Rows.sumsBurstsRow.mainSum := by unfold Func.isWrapper; first | (rw [if_pos (by decide +kernel)]; kernel_rfl) | (rw [if_neg (by decide +kernel)]; exact ⟨rfl, rfl⟩)

theorem sumsBursts_holds : Rows.SumsBurstsSaid :=
  OpenClaim.holds_of_wide 8 Try.f8 rfl rfl rfl rfl rfl rfl rfl ⟨rfl, rfl, rfl, rfl, rfl⟩ rfl rfl rfl rfl rfl sumsBursts_no Try.func8 sumsBursts_facts
    (of_decide_eq_true (by kernel_rfl)) sumsBursts_wrap
    (fun os started H enc _ => sumsBursts_lifted os started H enc)
end Go.Proofs.Ytnnhklembdaieaa
