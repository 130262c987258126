/- SuperNewest: the statement. -/
import Derived.Test.YtnnhklembdaieaaSNewW
import Derived.Test.YtnnhklembdaieaaJoinA
import Derived.Test.YtnnhklembdaieaaJoinE
namespace Go.Proofs.Ytnnhklembdaieaa
open Go.ChangeShapes Go.WideShapes Go.ChangeAt Go.RowKit Go.Deep
set_option linter.unusedVariables false

set_option maxRecDepth 100000 in
theorem superNewest_lifted (os : Os) (started : os.Started) (H : Type) (enc : TypeId × Value → H) :
    ReturnsInHanded {} Try.checked os 17 .any (Rows.superNewestSpec.pre6 enc Try.prog Try.f17 Rows.superNewestRow.domain false) (Rows.superNewestSpec.post enc Try.prog Try.f17 false true false false) := by
  refine returnsInHanded_of_change (C := Try.checked) own started (by kernel_rfl) Try.func17
    (ChangeSpec.witness6 (enc := enc) (C := Try.checked) false ⟨#[], #[.slice none 0 0, .slice none 0 0, .slice none 0 0, .slice none 0 0], []⟩ 8 (by kernel_rfl) (by kernel_rfl) (by kernel_rfl) (by kernel_rfl)) ?_
  intro W base args ds gs before hval0 hW hcnd _
  have hval : ∀ (j : Nat) t v, Try.f17.params[j]? = some t → args[j]? = some v → Value.okWide Try.prog W .any base t v := hval0
  have hW' := hW
  obtain ⟨p, q, hA0, hV, rfl, hfz, hnd⟩ := hW
  have hA : DataW.TrodAll enc Try.prog W 0 (fun _ => true) true Try.f17.params.toList args.toList ds p := hA0
  rw [Try.params17] at hA hval
  obtain ⟨v0, vs0, d0, ds0, p0, q0, hargs, rfl, rfl, h0, r0⟩ := trodAll_cons hA
  obtain ⟨v1, vs1, d1, ds1, p1, q1, rfl, rfl, rfl, h1, r1⟩ := trodAll_cons r0
  obtain ⟨v2, vs2, d2, ds2, p2, q2, rfl, rfl, rfl, h2, r2⟩ := trodAll_cons r1
  obtain ⟨v3, vs3, d3, ds3, p3, q3, rfl, rfl, rfl, h3, r3⟩ := trodAll_cons r2
  obtain ⟨rfl, rfl, rfl⟩ := trodAll_nil r3
  obtain rfl : args = #[v0, v1, v2, v3] := by cases args; simp_all
  obtain ⟨rfl, rfl⟩ := trodVars_none hV
  have k0 := h0
  have lt0 : ∀ x ∈ p0, x.block < W.heap.size := by obtain ⟨m, hm⟩ := k0; exact DataW.trod_lt m _ _ _ hm
  obtain ⟨a0, n0, c0, rfl⟩ := okWide_slice Try.underlying28 (hval 0 28 v0 rfl rfl)
  obtain ⟨fu0, hf0⟩ := h0
  obtain ⟨l0, hl0, o0⟩ := open_bytes (show DataW.trod enc Try.prog W 0 (fun _ => true) true fu0 28 [.slice a0 n0 c0] = some (d0, p0) from hf0)
  have k1 := h1
  have lt1 : ∀ x ∈ p1, x.block < W.heap.size := by obtain ⟨m, hm⟩ := k1; exact DataW.trod_lt m _ _ _ hm
  obtain ⟨a1, n1, c1, rfl⟩ := okWide_slice Try.underlying28 (hval 1 28 v1 rfl rfl)
  obtain ⟨fu1, hf1⟩ := h1
  obtain ⟨l1, hl1, o1⟩ := open_bytes (show DataW.trod enc Try.prog W 0 (fun _ => true) true fu1 28 [.slice a1 n1 c1] = some (d1, p1) from hf1)
  have k2 := h2
  have lt2 : ∀ x ∈ p2, x.block < W.heap.size := by obtain ⟨m, hm⟩ := k2; exact DataW.trod_lt m _ _ _ hm
  obtain ⟨a2, n2, c2, rfl⟩ := okWide_slice Try.underlying142 (hval 2 142 v2 rfl rfl)
  obtain ⟨fu2, hf2⟩ := h2
  obtain ⟨l2, hl2, o2⟩ := open_supers (show DataW.trod enc Try.prog W 0 (fun _ => true) true fu2 142 [.slice a2 n2 c2] = some (d2, p2) from hf2)
  have k3 := h3
  have lt3 : ∀ x ∈ p3, x.block < W.heap.size := by obtain ⟨m, hm⟩ := k3; exact DataW.trod_lt m _ _ _ hm
  obtain ⟨a3, n3, c3, rfl⟩ := okWide_slice Try.underlying29 (hval 3 29 v3 rfl rfl)
  obtain ⟨fu3, hf3⟩ := h3
  obtain ⟨l3, hl3, o3⟩ := open_boolsAt (show DataW.trod enc Try.prog W 0 (fun _ => true) true fu3 29 [.slice a3 n3 c3] = some (d3, p3) from hf3)
  clear hA0 hval0
  refine (snew_any W a0 n0 c0 l0 hl0 o0 a1 n1 c1 l1 hl1 o1 a2 n2 c2 l2 hl2 o2 a3 n3 c3 l3 hl3 o3).mono fun e W' ⟨he, bel⟩ => ?_
  subst he
  exact ⟨_, rfl, _, _, _, [], _, [], hW', trodAll_mk1 (shut_bool Try.underlying4 _), (trodAll_cons_mk (Below.trod laidOut (by kernel_rfl) (of_decide_eq_true (by kernel_rfl)) k0 bel lt0) (trodAll_cons_mk (Below.trod laidOut (by kernel_rfl) (of_decide_eq_true (by kernel_rfl)) k1 bel lt1) (trodAll_cons_mk (Below.trod laidOut (by kernel_rfl) (of_decide_eq_true (by kernel_rfl)) k2 bel lt2) (trodAll_cons_mk (Below.trod laidOut (by kernel_rfl) (of_decide_eq_true (by kernel_rfl)) k3 bel lt3) trodAll_mk0)))), rfl, bel.frame _, fun h => by cases h⟩

theorem superNewest_fA : lightA Try.prog 17 Try.f17 Rows.superNewestSpec Rows.superNewestRow = true := by kernel_rfl
theorem superNewest_fB : lightB Try.prog 17 Try.f17 Rows.superNewestSpec Rows.superNewestRow = true := by kernel_rfl
theorem superNewest_f1 : (Rows.superNewestRow.inPlace == Try.prog.inPlace 17) = true := by kernel_rfl
theorem superNewest_f2 : (Rows.superNewestRow.unfollowed == Try.prog.unfollowed 17) = true := by kernel_rfl
theorem superNewest_f3 : (Rows.superNewestRow.recurses == Try.prog.recurses 17) = true := by kernel_rfl
theorem superNewest_f4 : (Rows.superNewestRow.named == Try.prog.varsNamed 17) = true := by kernel_rfl
theorem superNewest_facts : joinedFacts Try.prog 17 Try.f17 Rows.superNewestSpec Rows.superNewestRow = true := joined_of superNewest_fA superNewest_fB superNewest_f1 superNewest_f2 superNewest_f3 superNewest_f4 rfl rfl rfl
theorem superNewest_no : Try.prog.funcNamed Rows.superNewestRow.func = some 17 := by kernel_rfl
theorem superNewest_wrap : Try.f17.isWrapper Try.prog Rows.superNewestRow.wrapper Rows.superNewestRow.mainSum := by unfold Func.isWrapper; first | (rw [if_pos (by decide +kernel)]; kernel_rfl) | (rw [if_neg (by decide +kernel)]; exact ⟨rfl, rfl⟩)

theorem superNewest_holds : Rows.SuperNewestSaid :=
  OpenClaim.holds_of_wide 17 Try.f17 rfl rfl rfl rfl rfl rfl rfl ⟨rfl, rfl, rfl, rfl, rfl⟩ rfl rfl rfl rfl rfl superNewest_no Try.func17 superNewest_facts
    (of_decide_eq_true (by kernel_rfl)) superNewest_wrap
    (fun os started H enc _ => superNewest_lifted os started H enc)
end Go.Proofs.Ytnnhklembdaieaa
