/- DiskLast: the statement. -/
import Derived.Test.YtnnhklembdaieaaLastW
import Derived.Test.YtnnhklembdaieaaJoinA
namespace Go.Proofs.Ytnnhklembdaieaa
open Go.ChangeShapes Go.WideShapes Go.ChangeAt Go.RowKit Go.Deep
set_option linter.unusedVariables false

set_option maxRecDepth 100000 in
theorem diskLast_lifted (os : Os) (started : os.Started) (H : Type) (enc : TypeId × Value → H) :
    ReturnsInHanded {} Try.checked os 3 .any (Rows.diskLastSpec.pre6 enc Try.prog Try.f3 Rows.diskLastRow.domain false) (Rows.diskLastSpec.post enc Try.prog Try.f3 false true false false) := by
  refine returnsInHanded_of_change (C := Try.checked) own started (by kernel_rfl) Try.func3
    (ChangeSpec.witness6 (enc := enc) (C := Try.checked) false ⟨#[], #[.slice none 0 0, .int .i64 0], []⟩ 8 (by kernel_rfl) (by kernel_rfl) (by kernel_rfl) (by kernel_rfl)) ?_
  intro W base args ds gs before hval0 hW hcnd _
  have hval : ∀ (j : Nat) t v, Try.f3.params[j]? = some t → args[j]? = some v → Value.okWide Try.prog W .any base t v := hval0
  have hW' := hW
  obtain ⟨p, q, hA0, hV, rfl, hfz, hnd⟩ := hW
  have hA : DataW.TrodAll enc Try.prog W 0 (fun _ => true) true Try.f3.params.toList args.toList ds p := hA0
  rw [Try.params3] at hA hval
  obtain ⟨v0, vs0, d0, ds0, p0, q0, hargs, rfl, rfl, h0, r0⟩ := trodAll_cons hA
  obtain ⟨v1, vs1, d1, ds1, p1, q1, rfl, rfl, rfl, h1, r1⟩ := trodAll_cons r0
  obtain ⟨rfl, rfl, rfl⟩ := trodAll_nil r1
  obtain rfl : args = #[v0, v1] := by cases args; simp_all
  obtain ⟨rfl, rfl⟩ := trodVars_none hV
  have k0 := h0
  have lt0 : ∀ x ∈ p0, x.block < W.heap.size := by obtain ⟨m, hm⟩ := k0; exact DataW.trod_lt m _ _ _ hm
  obtain ⟨a0, n0, c0, rfl⟩ := okWide_slice Try.underlying22 (hval 0 22 v0 rfl rfl)
  obtain ⟨fu0, hf0⟩ := h0
  obtain ⟨l0, hl0, o0⟩ := open_ops (show DataW.trod enc Try.prog W 0 (fun _ => true) true fu0 22 [.slice a0 n0 c0] = some (d0, p0) from hf0)
  have k1 := h1
  have lt1 : ∀ x ∈ p1, x.block < W.heap.size := by obtain ⟨m, hm⟩ := k1; exact DataW.trod_lt m _ _ _ hm
  obtain ⟨x1, rfl, rfl, rfl, w1⟩ := open_int Try.underlying3 (hval 1 3 v1 rfl rfl) h1
  have b1 := i64_bounds w1
  clear hA0 hval0
  refine (diskLast_any W a0 n0 c0 l0 hl0 o0 x1).mono fun e W' ⟨he, bel⟩ => ?_
  subst he
  exact ⟨_, rfl, _, _, _, [], _, [], hW', trodAll_mk1 (shut_bool Try.underlying4 _), (trodAll_cons_mk (Below.trod laidOut (by kernel_rfl) (of_decide_eq_true (by kernel_rfl)) k0 bel lt0) (trodAll_cons_mk (Below.trod laidOut (by kernel_rfl) (of_decide_eq_true (by kernel_rfl)) k1 bel lt1) trodAll_mk0)), rfl, bel.frame _, fun h => by cases h⟩

theorem diskLast_fA : lightA Try.prog 3 Try.f3 Rows.diskLastSpec Rows.diskLastRow = true := by kernel_rfl
theorem diskLast_fB : lightB Try.prog 3 Try.f3 Rows.diskLastSpec Rows.diskLastRow = true := by kernel_rfl
theorem diskLast_f1 : (Rows.diskLastRow.inPlace == Try.prog.inPlace 3) = true := by kernel_rfl
theorem diskLast_f2 : (Rows.diskLastRow.unfollowed == Try.prog.unfollowed 3) = true := by kernel_rfl
theorem diskLast_f3 : (Rows.diskLastRow.recurses == Try.prog.recurses 3) = true := by kernel_rfl
theorem diskLast_f4 : (Rows.diskLastRow.named == Try.prog.varsNamed 3) = true := by kernel_rfl
theorem diskLast_facts : joinedFacts Try.prog 3 Try.f3 Rows.diskLastSpec Rows.diskLastRow = true := joined_of diskLast_fA diskLast_fB diskLast_f1 diskLast_f2 diskLast_f3 diskLast_f4 rfl rfl rfl
theorem diskLast_no : Try.prog.funcNamed Rows.diskLastRow.func = some 3 := by kernel_rfl
theorem diskLast_wrap : Try.f3.isWrapper Try.prog Rows.diskLastRow.wrapper Rows.diskLastRow.mainSum := by unfold Func.isWrapper; first | (rw [if_pos (by decide +kernel)]; kernel_rfl) | (rw [if_neg (by decide +kernel)]; exact ⟨rfl, rfl⟩)

theorem diskLast_holds : Rows.DiskLastSaid :=
  OpenClaim.holds_of_wide 3 Try.f3 rfl rfl rfl rfl rfl rfl rfl ⟨rfl, rfl, rfl, rfl, rfl⟩ rfl rfl rfl rfl rfl diskLast_no Try.func3 diskLast_facts
    (of_decide_eq_true (by kernel_rfl)) diskLast_wrap
    (fun os started H enc _ => diskLast_lifted os started H enc)
end Go.Proofs.Ytnnhklembdaieaa
