/- SumsCounted: the statement. -/
import Derived.Test.YtnnhklembdaieaaJoinB
import Derived.Test.YtnnhklembdaieaaJoinA
namespace Go.Proofs.Ytnnhklembdaieaa
open Go.ChangeShapes Go.WideShapes Go.ChangeAt Go.RowKit Go.Deep
set_option linter.unusedVariables false

set_option maxRecDepth 100000 in
theorem sumsCounted_lifted (os : Os) (started : os.Started) (H : Type) (enc : TypeId × Value → H) :
    ReturnsInHanded {} Try.checked os 11 .any (Rows.sumsCountedSpec.pre6 enc Try.prog Try.f11 Rows.sumsCountedRow.domain false) (Rows.sumsCountedSpec.post enc Try.prog Try.f11 false true false false) := by
  refine returnsInHanded_of_change (C := Try.checked) own started (by kernel_rfl) Try.func11
    (ChangeSpec.witness6 (enc := enc) (C := Try.checked) false ⟨#[], #[.slice none 0 0], []⟩ 8 (by kernel_rfl) (by kernel_rfl) (by kernel_rfl) (by kernel_rfl)) ?_
  intro W base args ds gs before hval0 hW hcnd _
  have hval : ∀ (j : Nat) t v, Try.f11.params[j]? = some t → args[j]? = some v → Value.okWide Try.prog W .any base t v := hval0
  have hW' := hW
  obtain ⟨p, q, hA0, hV, rfl, hfz, hnd⟩ := hW
  have hA : DataW.TrodAll enc Try.prog W 0 (fun _ => true) true Try.f11.params.toList args.toList ds p := hA0
  rw [Try.params11] at hA hval
  obtain ⟨v0, vs0, d0, ds0, p0, q0, hargs, rfl, rfl, h0, r0⟩ := trodAll_cons hA
  obtain ⟨rfl, rfl, rfl⟩ := trodAll_nil r0
  obtain rfl : args = #[v0] := by cases args; simp_all
  obtain ⟨rfl, rfl⟩ := trodVars_none hV
  have k0 := h0
  have lt0 : ∀ x ∈ p0, x.block < W.heap.size := by obtain ⟨m, hm⟩ := k0; exact DataW.trod_lt m _ _ _ hm
  obtain ⟨a0, n0, c0, rfl⟩ := okWide_slice Try.underlying85 (hval 0 85 v0 rfl rfl)
  obtain ⟨fu0, hf0⟩ := h0
  obtain ⟨l0, hl0, o0⟩ := open_texts (show DataW.trod enc Try.prog W 0 (fun _ => true) true fu0 85 [.slice a0 n0 c0] = some (d0, p0) from hf0)
  clear hA0 hval0
  refine (count_any W a0 n0 c0 l0 hl0 o0).mono fun e W' ⟨he, bel⟩ => ?_
  subst he
  exact ⟨_, rfl, _, _, _, [], _, [], hW', trodAll_mk1 (shut_bool Try.underlying4 _), (trodAll_cons_mk (Below.trod laidOut (by kernel_rfl) (of_decide_eq_true (by kernel_rfl)) k0 bel lt0) trodAll_mk0), rfl, bel.frame _, fun h => by cases h⟩

theorem sumsCounted_fA : lightA Try.prog 11 Try.f11 Rows.sumsCountedSpec Rows.sumsCountedRow = true := by kernel_rfl
theorem sumsCounted_fB : lightB Try.prog 11 Try.f11 Rows.sumsCountedSpec Rows.sumsCountedRow = true := by kernel_rfl
theorem sumsCounted_f1 : (Rows.sumsCountedRow.inPlace == Try.prog.inPlace 11) = true := by kernel_rfl
theorem sumsCounted_f2 : (Rows.sumsCountedRow.unfollowed == Try.prog.unfollowed 11) = true := by kernel_rfl
theorem sumsCounted_f3 : (Rows.sumsCountedRow.recurses == Try.prog.recurses 11) = true := by kernel_rfl
theorem sumsCounted_f4 : (Rows.sumsCountedRow.named == Try.prog.varsNamed 11) = true := by kernel_rfl
theorem sumsCounted_facts : joinedFacts Try.prog 11 Try.f11 Rows.sumsCountedSpec Rows.sumsCountedRow = true := joined_of sumsCounted_fA sumsCounted_fB sumsCounted_f1 sumsCounted_f2 sumsCounted_f3 sumsCounted_f4 rfl rfl rfl
theorem sumsCounted_no : Try.prog.funcNamed Rows.sumsCountedRow.func = some 11 := by kernel_rfl
theorem sumsCounted_wrap : Try.f11.isWrapper Try.prog Rows.sumsCountedRow.wrapper Rows.sumsCountedRow.mainSum := by unfold Func.isWrapper; first | (rw [if_pos (by decide +kernel)]; kernel_rfl) | (rw [if_neg (by decide +kernel)]; exact ⟨rfl, rfl⟩)

theorem sumsCounted_holds : Rows.SumsCountedSaid :=
  OpenClaim.holds_of_wide 11 Try.f11 rfl rfl rfl rfl rfl rfl rfl ⟨rfl, rfl, rfl, rfl, rfl⟩ rfl rfl rfl rfl rfl sumsCounted_no Try.func11 sumsCounted_facts
    (of_decide_eq_true (by kernel_rfl)) sumsCounted_wrap
    (fun os started H enc _ => sumsCounted_lifted os started H enc)
end Go.Proofs.Ytnnhklembdaieaa
