/- SumsTogether: the statement. -/
import Derived.Test.YtnnhklembdaieaaTogW
import Derived.Test.YtnnhklembdaieaaJoinA
namespace Go.Proofs.Ytnnhklembdaieaa
open Go.ChangeShapes Go.WideShapes Go.ChangeAt Go.RowKit Go.Deep
set_option linter.unusedVariables false

set_option maxRecDepth 100000 in
theorem sumsTogether_lifted (os : Os) (started : os.Started) (H : Type) (enc : TypeId × Value → H) :
    ReturnsInHanded {} Try.checked os 10 .any (Rows.sumsTogetherSpec.pre6 enc Try.prog Try.f10 Rows.sumsTogetherRow.domain false) (Rows.sumsTogetherSpec.post enc Try.prog Try.f10 false true false false) := by
  refine returnsInHanded_of_change (C := Try.checked) own started (by kernel_rfl) Try.func10
    (ChangeSpec.witness6 (enc := enc) (C := Try.checked) false ⟨#[], #[.slice none 0 0, .slice none 0 0, .slice none 0 0], []⟩ 8 (by kernel_rfl) (by kernel_rfl) (by kernel_rfl) (by kernel_rfl)) ?_
  intro W base args ds gs before hval0 hW hcnd _
  have hval : ∀ (j : Nat) t v, Try.f10.params[j]? = some t → args[j]? = some v → Value.okWide Try.prog W .any base t v := hval0
  have hW' := hW
  obtain ⟨p, q, hA0, hV, rfl, hfz, hnd⟩ := hW
  have hA : DataW.TrodAll enc Try.prog W 0 (fun _ => true) true Try.f10.params.toList args.toList ds p := hA0
  rw [Try.params10] at hA hval
  obtain ⟨v0, vs0, d0, ds0, p0, q0, hargs, rfl, rfl, h0, r0⟩ := trodAll_cons hA
  obtain ⟨v1, vs1, d1, ds1, p1, q1, rfl, rfl, rfl, h1, r1⟩ := trodAll_cons r0
  obtain ⟨v2, vs2, d2, ds2, p2, q2, rfl, rfl, rfl, h2, r2⟩ := trodAll_cons r1
  obtain ⟨rfl, rfl, rfl⟩ := trodAll_nil r2
  obtain rfl : args = #[v0, v1, v2] := by cases args; simp_all
  obtain ⟨rfl, rfl⟩ := trodVars_none hV
  have k0 := h0
  have lt0 : ∀ x ∈ p0, x.block < W.heap.size := by obtain ⟨m, hm⟩ := k0; exact DataW.trod_lt m _ _ _ hm
  obtain ⟨a0, n0, c0, rfl⟩ := okWide_slice Try.underlying28 (hval 0 28 v0 rfl rfl)
  obtain ⟨fu0, hf0⟩ := h0
  obtain ⟨l0, hl0, o0⟩ := open_bytes (show DataW.trod enc Try.prog W 0 (fun _ => true) true fu0 28 [.slice a0 n0 c0] = some (d0, p0) from hf0)
  have k1 := h1
  have lt1 : ∀ x ∈ p1, x.block < W.heap.size := by obtain ⟨m, hm⟩ := k1; exact DataW.trod_lt m _ _ _ hm
  obtain ⟨a1, n1, c1, rfl⟩ := okWide_slice Try.underlying28 (hval 1 28 v1 rfl rfl)
  obtain ⟨fu1, hf1⟩ := h1
  obtain ⟨l1, hl1, o1⟩ := open_bytes (show DataW.trod enc Try.prog W 0 (fun _ => true) true fu1 28 [.slice a1 n1 c1] = some (d1, p1) from hf1)
  have k2 := h2
  have lt2 : ∀ x ∈ p2, x.block < W.heap.size := by obtain ⟨m, hm⟩ := k2; exact DataW.trod_lt m _ _ _ hm
  obtain ⟨a2, n2, c2, rfl⟩ := okWide_slice Try.underlying28 (hval 2 28 v2 rfl rfl)
  obtain ⟨fu2, hf2⟩ := h2
  obtain ⟨l2, hl2, o2⟩ := open_bytes (show DataW.trod enc Try.prog W 0 (fun _ => true) true fu2 28 [.slice a2 n2 c2] = some (d2, p2) from hf2)
  clear hA0 hval0
  refine (tog_any W a0 a1 a2 n0 c0 n1 c1 n2 c2 l0 l1 l2 hl0 o0 hl1 o1 hl2 o2).mono fun e W' ⟨he, bel⟩ => ?_
  subst he
  exact ⟨_, rfl, _, _, _, [], _, [], hW', trodAll_mk1 (shut_bool Try.underlying4 _), (trodAll_cons_mk (Below.trod laidOut (by kernel_rfl) (of_decide_eq_true (by kernel_rfl)) k0 bel lt0) (trodAll_cons_mk (Below.trod laidOut (by kernel_rfl) (of_decide_eq_true (by kernel_rfl)) k1 bel lt1) (trodAll_cons_mk (Below.trod laidOut (by kernel_rfl) (of_decide_eq_true (by kernel_rfl)) k2 bel lt2) trodAll_mk0))), rfl, bel.frame _, fun h => by cases h⟩

theorem sumsTogether_fA : lightA Try.prog 10 Try.f10 Rows.sumsTogetherSpec Rows.sumsTogetherRow = true := by kernel_rfl
theorem sumsTogether_fB : lightB Try.prog 10 Try.f10 Rows.sumsTogetherSpec Rows.sumsTogetherRow = true := by kernel_rfl
theorem sumsTogether_f1 : (Rows.sumsTogetherRow.inPlace == Try.prog.inPlace 10) = true := by kernel_rfl
theorem sumsTogether_f2 : (Rows.sumsTogetherRow.unfollowed == Try.prog.unfollowed 10) = true := by kernel_rfl
theorem sumsTogether_f3 : (Rows.sumsTogetherRow.recurses == Try.prog.recurses 10) = true := by kernel_rfl
theorem sumsTogether_f4 : (Rows.sumsTogetherRow.named == Try.prog.varsNamed 10) = true := by kernel_rfl
theorem sumsTogether_facts : joinedFacts Try.prog 10 Try.f10 Rows.sumsTogetherSpec Rows.sumsTogetherRow = true := joined_of sumsTogether_fA sumsTogether_fB sumsTogether_f1 sumsTogether_f2 sumsTogether_f3 sumsTogether_f4 rfl rfl rfl
theorem sumsTogether_no : Try.prog.funcNamed Rows.sumsTogetherRow.func = some 10 := by kernel_rfl
theorem sumsTogether_wrap : Try.f10.isWrapper Try.prog Rows.sumsTogetherRow.wrapper Rows.sumsTogetherRow.mainSum := by unfold Func.isWrapper; first | (rw [if_pos (by decide +kernel)]; kernel_rfl) | (rw [if_neg (by decide +kernel)]; exact ⟨rfl, rfl⟩)

theorem sumsTogether_holds : Rows.SumsTogetherSaid :=
  OpenClaim.holds_of_wide 10 Try.f10 rfl rfl rfl rfl rfl rfl rfl ⟨rfl, rfl, rfl, rfl, rfl⟩ rfl rfl rfl rfl rfl sumsTogether_no Try.func10 sumsTogether_facts
    (of_decide_eq_true (by kernel_rfl)) sumsTogether_wrap
    (fun os started H enc _ => sumsTogether_lifted os started H enc)
end Go.Proofs.Ytnnhklembdaieaa
