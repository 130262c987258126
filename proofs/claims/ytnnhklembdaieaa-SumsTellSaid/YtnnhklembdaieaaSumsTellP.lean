/- SumsTell: the statement. -/
import Derived.Test.YtnnhklembdaieaaTellW
import Derived.Test.YtnnhklembdaieaaJoinA
namespace Go.Proofs.Ytnnhklembdaieaa
open Go.ChangeShapes Go.WideShapes Go.ChangeAt Go.RowKit Go.Deep
set_option linter.unusedVariables false

set_option maxRecDepth 100000 in
theorem sumsTell_lifted (os : Os) (started : os.Started) (H : Type) (enc : TypeId × Value → H) :
    ReturnsInHanded {} Try.checked os 6 .any (Rows.sumsTellSpec.pre6 enc Try.prog Try.f6 Rows.sumsTellRow.domain false) (Rows.sumsTellSpec.post enc Try.prog Try.f6 false true false false) := by
  refine returnsInHanded_of_change (C := Try.checked) own started (by kernel_rfl) Try.func6
    (ChangeSpec.witness6 (enc := enc) (C := Try.checked) false ⟨#[], #[.slice none 0 0, .slice none 0 0], []⟩ 8 (by kernel_rfl) (by kernel_rfl) (by kernel_rfl) (by kernel_rfl)) ?_
  intro W base args ds gs before hval0 hW hcnd _
  have hval : ∀ (j : Nat) t v, Try.f6.params[j]? = some t → args[j]? = some v → Value.okWide Try.prog W .any base t v := hval0
  have hW' := hW
  obtain ⟨p, q, hA0, hV, rfl, hfz, hnd⟩ := hW
  have hA : DataW.TrodAll enc Try.prog W 0 (fun _ => true) true Try.f6.params.toList args.toList ds p := hA0
  rw [Try.params6] at hA hval
  obtain ⟨v0, vs0, d0, ds0, p0, q0, hargs, rfl, rfl, h0, r0⟩ := trodAll_cons hA
  obtain ⟨v1, vs1, d1, ds1, p1, q1, rfl, rfl, rfl, h1, r1⟩ := trodAll_cons r0
  obtain ⟨rfl, rfl, rfl⟩ := trodAll_nil r1
  obtain rfl : args = #[v0, v1] := by cases args; simp_all
  obtain ⟨rfl, rfl⟩ := trodVars_none hV
  have k0 := h0
  have lt0 : ∀ x ∈ p0, x.block < W.heap.size := by obtain ⟨m, hm⟩ := k0; exact DataW.trod_lt m _ _ _ hm
  obtain ⟨a0, n0, c0, rfl⟩ := okWide_slice Try.underlying28 (hval 0 28 v0 rfl rfl)
  obtain ⟨fu0, hf0⟩ := h0
  obtain ⟨l0, hl0, o0⟩ := open_bytes (show DataW.trod enc Try.prog W 0 (fun _ => true) true fu0 28 [.slice a0 n0 c0] = some (d0, p0) from hf0)
  have k1 := h1
  have lt1 : ∀ x ∈ p1, x.block < W.heap.size := by obtain ⟨m, hm⟩ := k1; exact DataW.trod_lt m _ _ _ hm
  obtain ⟨a1, n1, c1, rfl⟩ := okWide_slice Try.underlying28 (hval 1 28 v1 rfl rfl)
  obtain ⟨fu1, hf1⟩ := h1
  obtain ⟨l1, hl1, o1⟩ := open_bytes (show DataW.trod enc Try.prog W 0 (fun _ => true) true fu1 28 [.slice a1 n1 c1] = some (d1, p1) from hf1)
  clear hA0 hval0
  refine (tell_any W a0 a1 n0 c0 n1 c1 l0 l1 hl0 o0 hl1 o1).mono fun e W' ⟨he, bel⟩ => ?_
  subst he
  exact ⟨_, rfl, _, _, _, [], _, [], hW', trodAll_mk1 (shut_bool Try.underlying4 _), (trodAll_cons_mk (Below.trod laidOut (by kernel_rfl) (of_decide_eq_true (by kernel_rfl)) k0 bel lt0) (trodAll_cons_mk (Below.trod laidOut (by kernel_rfl) (of_decide_eq_true (by kernel_rfl)) k1 bel lt1) trodAll_mk0)), rfl, bel.frame _, fun h => by cases h⟩

theorem sumsTell_fA : lightA Try.prog 6 Try.f6 Rows.sumsTellSpec Rows.sumsTellRow = true := by kernel_rfl
theorem sumsTell_fB : lightB Try.prog 6 Try.f6 Rows.sumsTellSpec Rows.sumsTellRow = true := by kernel_rfl
theorem sumsTell_f1 : (Rows.sumsTellRow.inPlace == Try.prog.inPlace 6) = true := by kernel_rfl
theorem sumsTell_f2 : (Rows.sumsTellRow.unfollowed == Try.prog.unfollowed 6) = true := by kernel_rfl
theorem sumsTell_f3 : (Rows.sumsTellRow.recurses == Try.prog.recurses 6) = true := by kernel_rfl
theorem sumsTell_f4 : (Rows.sumsTellRow.named == Try.prog.varsNamed 6) = true := by kernel_rfl
theorem sumsTell_facts : joinedFacts Try.prog 6 Try.f6 Rows.sumsTellSpec Rows.sumsTellRow = true := joined_of sumsTell_fA sumsTell_fB sumsTell_f1 sumsTell_f2 sumsTell_f3 sumsTell_f4 rfl rfl rfl
theorem sumsTell_no : Try.prog.funcNamed Rows.sumsTellRow.func = some 6 := by kernel_rfl
theorem sumsTell_wrap : Try.f6.isWrapper Try.prog Rows.sumsTellRow.wrapper Rows.sumsTellRow.mainSum := by unfold Func.isWrapper; first | (rw [if_pos (by decide +kernel)]; kernel_rfl) | (rw [if_neg (by decide +kernel)]; exact ⟨rfl, rfl⟩)

theorem sumsTell_holds : Rows.SumsTellSaid :=
  OpenClaim.holds_of_wide 6 Try.f6 rfl rfl rfl rfl rfl rfl rfl ⟨rfl, rfl, rfl, rfl, rfl⟩ rfl rfl rfl rfl rfl sumsTell_no Try.func6 sumsTell_facts
    (of_decide_eq_true (by kernel_rfl)) sumsTell_wrap
    (fun os started H enc _ => sumsTell_lifted os started H enc)
end Go.Proofs.Ytnnhklembdaieaa
