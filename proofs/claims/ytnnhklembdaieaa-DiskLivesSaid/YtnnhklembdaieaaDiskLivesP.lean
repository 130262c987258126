/- DiskLives: the statement. -/
import Derived.Test.YtnnhklembdaieaaLivesW
import Derived.Test.YtnnhklembdaieaaJoinA
namespace Go.Proofs.Ytnnhklembdaieaa
open Go.ChangeShapes Go.WideShapes Go.ChangeAt Go.RowKit Go.Deep
set_option linter.unusedVariables false

set_option maxRecDepth 100000 in
theorem diskLives_lifted (os : Os) (started : os.Started) (H : Type) (enc : TypeId × Value → H) :
    ReturnsInHanded {} Try.checked os 4 .any (Rows.diskLivesSpec.pre6 enc Try.prog Try.f4 Rows.diskLivesRow.domain false) (Rows.diskLivesSpec.post enc Try.prog Try.f4 false true false false) := by
  refine returnsInHanded_of_change (C := Try.checked) own started (by kernel_rfl) Try.func4
    (ChangeSpec.witness6 (enc := enc) (C := Try.checked) false ⟨#[], #[.int .i64 0, .slice none 0 0], []⟩ 8 (by kernel_rfl) (by kernel_rfl) (by kernel_rfl) (by kernel_rfl)) ?_
  intro W base args ds gs before hval0 hW hcnd _
  have hval : ∀ (j : Nat) t v, Try.f4.params[j]? = some t → args[j]? = some v → Value.okWide Try.prog W .any base t v := hval0
  have hW' := hW
  obtain ⟨p, q, hA0, hV, rfl, hfz, hnd⟩ := hW
  have hA : DataW.TrodAll enc Try.prog W 0 (fun _ => true) true Try.f4.params.toList args.toList ds p := hA0
  rw [Try.params4] at hA hval
  obtain ⟨v0, vs0, d0, ds0, p0, q0, hargs, rfl, rfl, h0, r0⟩ := trodAll_cons hA
  obtain ⟨v1, vs1, d1, ds1, p1, q1, rfl, rfl, rfl, h1, r1⟩ := trodAll_cons r0
  obtain ⟨rfl, rfl, rfl⟩ := trodAll_nil r1
  obtain rfl : args = #[v0, v1] := by cases args; simp_all
  obtain ⟨rfl, rfl⟩ := trodVars_none hV
  have k0 := h0
  have lt0 : ∀ x ∈ p0, x.block < W.heap.size := by obtain ⟨m, hm⟩ := k0; exact DataW.trod_lt m _ _ _ hm
  obtain ⟨x0, rfl, rfl, rfl, w0⟩ := open_int Try.underlying3 (hval 0 3 v0 rfl rfl) h0
  have b0 := i64_bounds w0
  have k1 := h1
  have lt1 : ∀ x ∈ p1, x.block < W.heap.size := by obtain ⟨m, hm⟩ := k1; exact DataW.trod_lt m _ _ _ hm
  obtain ⟨a1, n1, c1, rfl⟩ := okWide_slice Try.underlying22 (hval 1 22 v1 rfl rfl)
  obtain ⟨fu1, hf1⟩ := h1
  obtain ⟨l1, hl1, o1⟩ := open_ops (show DataW.trod enc Try.prog W 0 (fun _ => true) true fu1 22 [.slice a1 n1 c1] = some (d1, p1) from hf1)
  clear hA0 hval0
  refine (lives_any W x0 a1 n1 c1 l1 hl1 o1).mono fun e W' ⟨he, bel⟩ => ?_
  subst he
  exact ⟨_, rfl, _, _, _, [], _, [], hW', trodAll_mk1 (shut_bool Try.underlying4 _), (trodAll_cons_mk (Below.trod laidOut (by kernel_rfl) (of_decide_eq_true (by kernel_rfl)) k0 bel lt0) (trodAll_cons_mk (Below.trod laidOut (by kernel_rfl) (of_decide_eq_true (by kernel_rfl)) k1 bel lt1) trodAll_mk0)), rfl, bel.frame _, fun h => by cases h⟩

theorem diskLives_fA : lightA Try.prog 4 Try.f4 Rows.diskLivesSpec Rows.diskLivesRow = true := by kernel_rfl
theorem diskLives_fB : lightB Try.prog 4 Try.f4 Rows.diskLivesSpec Rows.diskLivesRow = true := by kernel_rfl
theorem diskLives_f1 : (Rows.diskLivesRow.inPlace == Try.prog.inPlace 4) = true := by kernel_rfl
theorem diskLives_f2 : (Rows.diskLivesRow.unfollowed == Try.prog.unfollowed 4) = true := by kernel_rfl
theorem diskLives_f3 : (Rows.diskLivesRow.recurses == Try.prog.recurses 4) = true := by kernel_rfl
theorem diskLives_f4 : (Rows.diskLivesRow.named == Try.prog.varsNamed 4) = true := by kernel_rfl
theorem diskLives_facts : joinedFacts Try.prog 4 Try.f4 Rows.diskLivesSpec Rows.diskLivesRow = true := joined_of diskLives_fA diskLives_fB diskLives_f1 diskLives_f2 diskLives_f3 diskLives_f4 rfl rfl rfl
theorem diskLives_no : Try.prog.funcNamed Rows.diskLivesRow.func = some 4 := by kernel_rfl
theorem diskLives_wrap : Try.f4.isWrapper Try.prog Rows.diskLivesRow.wrapper Rows.diskLivesRow.mainSum := by unfold Func.isWrapper; first | (rw [if_pos (by decide +kernel)]; kernel_rfl) | (rw [if_neg (by decide +kernel)]; exact ⟨rfl, rfl⟩)

theorem diskLives_holds : Rows.DiskLivesSaid :=
  OpenClaim.holds_of_wide 4 Try.f4 rfl rfl rfl rfl rfl rfl rfl ⟨rfl, rfl, rfl, rfl, rfl⟩ rfl rfl rfl rfl rfl diskLives_no Try.func4 diskLives_facts
    (of_decide_eq_true (by kernel_rfl)) diskLives_wrap
    (fun os started H enc _ => diskLives_lifted os started H enc)
end Go.Proofs.Ytnnhklembdaieaa
