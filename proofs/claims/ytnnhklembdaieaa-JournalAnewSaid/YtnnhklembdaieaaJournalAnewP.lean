/- JournalAnew: the statement. -/
import Derived.Test.YtnnhklembdaieaaAnewW
import Derived.Test.YtnnhklembdaieaaJoinA
import Derived.Test.YtnnhklembdaieaaJoinF
namespace Go.Proofs.Ytnnhklembdaieaa
open Go.ChangeShapes Go.WideShapes Go.ChangeAt Go.RowKit Go.Deep
set_option linter.unusedVariables false

set_option maxRecDepth 100000 in
theorem journalAnew_lifted (os : Os) (started : os.Started) (H : Type) (enc : TypeId × Value → H) :
    ReturnsInHanded {} Try.checked os 7 .any (Rows.journalAnewSpec.pre6 enc Try.prog Try.f7 Rows.journalAnewRow.domain false) (Rows.journalAnewSpec.post enc Try.prog Try.f7 false true false false) := by
  refine returnsInHanded_of_change (C := Try.checked) own started (by kernel_rfl) Try.func7
    (ChangeSpec.witness6 (enc := enc) (C := Try.checked) false ⟨#[], #[.slice none 0 0, .slice none 0 0, .slice none 0 0], []⟩ 8 (by kernel_rfl) (by kernel_rfl) (by kernel_rfl) (by kernel_rfl)) ?_
  intro W base args ds gs before hval0 hW hcnd _
  have hval : ∀ (j : Nat) t v, Try.f7.params[j]? = some t → args[j]? = some v → Value.okWide Try.prog W .any base t v := hval0
  have hW' := hW
  obtain ⟨p, q, hA0, hV, rfl, hfz, hnd⟩ := hW
  have hA : DataW.TrodAll enc Try.prog W 0 (fun _ => true) true Try.f7.params.toList args.toList ds p := hA0
  rw [Try.params7] at hA hval
  obtain ⟨v0, vs0, d0, ds0, p0, q0, hargs, rfl, rfl, h0, r0⟩ := trodAll_cons hA
  obtain ⟨v1, vs1, d1, ds1, p1, q1, rfl, rfl, rfl, h1, r1⟩ := trodAll_cons r0
  obtain ⟨v2, vs2, d2, ds2, p2, q2, rfl, rfl, rfl, h2, r2⟩ := trodAll_cons r1
  obtain ⟨rfl, rfl, rfl⟩ := trodAll_nil r2
  obtain rfl : args = #[v0, v1, v2] := by cases args; simp_all
  obtain ⟨rfl, rfl⟩ := trodVars_none hV
  have k0 := h0
  have lt0 : ∀ x ∈ p0, x.block < W.heap.size := by obtain ⟨m, hm⟩ := k0; exact DataW.trod_lt m _ _ _ hm
  obtain ⟨a0, n0, c0, rfl⟩ := okWide_slice Try.underlying84 (hval 0 84 v0 rfl rfl)
  obtain ⟨fu0, hf0⟩ := h0
  obtain ⟨l0, hl0, o0⟩ := open_jops (show DataW.trod enc Try.prog W 0 (fun _ => true) true fu0 84 [.slice a0 n0 c0] = some (d0, p0) from hf0)
  have k1 := h1
  have lt1 : ∀ x ∈ p1, x.block < W.heap.size := by obtain ⟨m, hm⟩ := k1; exact DataW.trod_lt m _ _ _ hm
  obtain ⟨a1, n1, c1, rfl⟩ := okWide_slice Try.underlying85 (hval 1 85 v1 rfl rfl)
  obtain ⟨fu1, hf1⟩ := h1
  obtain ⟨l1, hl1, o1⟩ := open_textsN (show DataW.trod enc Try.prog W 0 (fun _ => true) true fu1 85 [.slice a1 n1 c1] = some (d1, p1) from hf1)
  have k2 := h2
  have lt2 : ∀ x ∈ p2, x.block < W.heap.size := by obtain ⟨m, hm⟩ := k2; exact DataW.trod_lt m _ _ _ hm
  obtain ⟨a2, n2, c2, rfl⟩ := okWide_slice Try.underlying28 (hval 2 28 v2 rfl rfl)
  obtain ⟨fu2, hf2⟩ := h2
  obtain ⟨l2, hl2, o2⟩ := open_bytes (show DataW.trod enc Try.prog W 0 (fun _ => true) true fu2 28 [.slice a2 n2 c2] = some (d2, p2) from hf2)
  clear hA0 hval0
  refine (anew_any W a0 n0 c0 l0 hl0 o0 a1 n1 c1 l1 hl1 o1 a2 n2 c2 l2 hl2 o2).mono fun e W' ⟨he, bel⟩ => ?_
  subst he
  exact ⟨_, rfl, _, _, _, [], _, [], hW', trodAll_mk1 (shut_bool Try.underlying4 _), (trodAll_cons_mk (Below.trod laidOut (by kernel_rfl) (of_decide_eq_true (by kernel_rfl)) k0 bel lt0) (trodAll_cons_mk (Below.trod laidOut (by kernel_rfl) (of_decide_eq_true (by kernel_rfl)) k1 bel lt1) (trodAll_cons_mk (Below.trod laidOut (by kernel_rfl) (of_decide_eq_true (by kernel_rfl)) k2 bel lt2) trodAll_mk0))), rfl, bel.frame _, fun h => by cases h⟩

theorem journalAnew_fA : lightA Try.prog 7 Try.f7 Rows.journalAnewSpec Rows.journalAnewRow = true := by kernel_rfl
theorem journalAnew_fB : lightB Try.prog 7 Try.f7 Rows.journalAnewSpec Rows.journalAnewRow = true := by kernel_rfl
theorem journalAnew_f1 : (Rows.journalAnewRow.inPlace == Try.prog.inPlace 7) = true := by kernel_rfl
theorem journalAnew_f2 : (Rows.journalAnewRow.unfollowed == Try.prog.unfollowed 7) = true := by kernel_rfl
theorem journalAnew_f3 : (Rows.journalAnewRow.recurses == Try.prog.recurses 7) = true := by kernel_rfl
theorem journalAnew_f4 : (Rows.journalAnewRow.named == Try.prog.varsNamed 7) = true := by kernel_rfl
theorem journalAnew_facts : joinedFacts Try.prog 7 Try.f7 Rows.journalAnewSpec Rows.journalAnewRow = true := joined_of journalAnew_fA journalAnew_fB journalAnew_f1 journalAnew_f2 journalAnew_f3 journalAnew_f4 rfl rfl rfl
theorem journalAnew_no : Try.prog.funcNamed Rows.journalAnewRow.func = some 7 := by kernel_rfl
theorem journalAnew_wrap : Try.f7.isWrapper Try.prog Rows.journalAnewRow.wrapper Rows.journalAnewRow.mainSum := by unfold Func.isWrapper; first | (rw [if_pos (by decide +kernel)]; kernel_rfl) | (rw [if_neg (by decide +kernel)]; exact ⟨rfl, rfl⟩)

theorem journalAnew_holds : Rows.JournalAnewSaid :=
  OpenClaim.holds_of_wide 7 Try.f7 rfl rfl rfl rfl rfl rfl rfl ⟨rfl, rfl, rfl, rfl, rfl⟩ rfl rfl rfl rfl rfl journalAnew_no Try.func7 journalAnew_facts
    (of_decide_eq_true (by kernel_rfl)) journalAnew_wrap
    (fun os started H enc _ => journalAnew_lifted os started H enc)
end Go.Proofs.Ytnnhklembdaieaa
