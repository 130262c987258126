/- JournalLives: the statement. -/
import Derived.Test.YtnnhklembdaieaaJLivesW
import Derived.Test.YtnnhklembdaieaaJoinA
import Derived.Test.YtnnhklembdaieaaJoinF
namespace Go.Proofs.Ytnnhklembdaieaa
open Go.ChangeShapes Go.WideShapes Go.ChangeAt Go.RowKit Go.Deep
set_option linter.unusedVariables false

set_option maxRecDepth 100000 in
theorem journalLives_lifted (os : Os) (started : os.Started) (H : Type) (enc : TypeId × Value → H) :
    ReturnsInHanded {} Try.checked os 9 .any (Rows.journalLivesSpec.pre6 enc Try.prog Try.f9 Rows.journalLivesRow.domain false) (Rows.journalLivesSpec.post enc Try.prog Try.f9 false true false false) := by
  refine returnsInHanded_of_change (C := Try.checked) own started (by kernel_rfl) Try.func9
    (ChangeSpec.witness6 (enc := enc) (C := Try.checked) false ⟨#[], #[.int .i64 0, .slice none 0 0, .int .i64 0], []⟩ 8 (by kernel_rfl) (by kernel_rfl) (by kernel_rfl) (by kernel_rfl)) ?_
  intro W base args ds gs before hval0 hW hcnd _
  have hval : ∀ (j : Nat) t v, Try.f9.params[j]? = some t → args[j]? = some v → Value.okWide Try.prog W .any base t v := hval0
  have hW' := hW
  obtain ⟨p, q, hA0, hV, rfl, hfz, hnd⟩ := hW
  have hA : DataW.TrodAll enc Try.prog W 0 (fun _ => true) true Try.f9.params.toList args.toList ds p := hA0
  rw [Try.params9] at hA hval
  obtain ⟨v0, vs0, d0, ds0, p0, q0, hargs, rfl, rfl, h0, r0⟩ := trodAll_cons hA
  obtain ⟨v1, vs1, d1, ds1, p1, q1, rfl, rfl, rfl, h1, r1⟩ := trodAll_cons r0
  obtain ⟨v2, vs2, d2, ds2, p2, q2, rfl, rfl, rfl, h2, r2⟩ := trodAll_cons r1
  obtain ⟨rfl, rfl, rfl⟩ := trodAll_nil r2
  obtain rfl : args = #[v0, v1, v2] := by cases args; simp_all
  obtain ⟨rfl, rfl⟩ := trodVars_none hV
  have k0 := h0
  have lt0 : ∀ x ∈ p0, x.block < W.heap.size := by obtain ⟨m, hm⟩ := k0; exact DataW.trod_lt m _ _ _ hm
  obtain ⟨x0, rfl, rfl, rfl, w0⟩ := open_int Try.underlying3 (hval 0 3 v0 rfl rfl) h0
  have b0 := i64_bounds w0
  have k1 := h1
  have lt1 : ∀ x ∈ p1, x.block < W.heap.size := by obtain ⟨m, hm⟩ := k1; exact DataW.trod_lt m _ _ _ hm
  obtain ⟨a1, n1, c1, rfl⟩ := okWide_slice Try.underlying84 (hval 1 84 v1 rfl rfl)
  obtain ⟨fu1, hf1⟩ := h1
  obtain ⟨l1, hl1, o1⟩ := open_jops (show DataW.trod enc Try.prog W 0 (fun _ => true) true fu1 84 [.slice a1 n1 c1] = some (d1, p1) from hf1)
  have k2 := h2
  have lt2 : ∀ x ∈ p2, x.block < W.heap.size := by obtain ⟨m, hm⟩ := k2; exact DataW.trod_lt m _ _ _ hm
  obtain ⟨x2, rfl, rfl, rfl, w2⟩ := open_int Try.underlying3 (hval 2 3 v2 rfl rfl) h2
  have b2 := i64_bounds w2
  clear hA0 hval0
  refine (jlives_any W x0 a1 n1 c1 l1 hl1 o1 x2).mono fun e W' ⟨he, bel⟩ => ?_
  subst he
  exact ⟨_, rfl, _, _, _, [], _, [], hW', trodAll_mk1 (shut_bool Try.underlying4 _), (trodAll_cons_mk (Below.trod laidOut (by kernel_rfl) (of_decide_eq_true (by kernel_rfl)) k0 bel lt0) (trodAll_cons_mk (Below.trod laidOut (by kernel_rfl) (of_decide_eq_true (by kernel_rfl)) k1 bel lt1) (trodAll_cons_mk (Below.trod laidOut (by kernel_rfl) (of_decide_eq_true (by kernel_rfl)) k2 bel lt2) trodAll_mk0))), rfl, bel.frame _, fun h => by cases h⟩

theorem journalLives_fA : lightA Try.prog 9 Try.f9 Rows.journalLivesSpec Rows.journalLivesRow = true := by kernel_rfl
theorem journalLives_fB : lightB Try.prog 9 Try.f9 Rows.journalLivesSpec Rows.journalLivesRow = true := by kernel_rfl
theorem journalLives_f1 : (Rows.journalLivesRow.inPlace == Try.prog.inPlace 9) = true := by kernel_rfl
theorem journalLives_f2 : (Rows.journalLivesRow.unfollowed == Try.prog.unfollowed 9) = true := by kernel_rfl
theorem journalLives_f3 : (Rows.journalLivesRow.recurses == Try.prog.recurses 9) = true := by kernel_rfl
theorem journalLives_f4 : (Rows.journalLivesRow.named == Try.prog.varsNamed 9) = true := by kernel_rfl
theorem journalLives_facts : joinedFacts Try.prog 9 Try.f9 Rows.journalLivesSpec Rows.journalLivesRow = true := joined_of journalLives_fA journalLives_fB journalLives_f1 journalLives_f2 journalLives_f3 journalLives_f4 rfl rfl rfl
theorem journalLives_no : Try.prog.funcNamed Rows.journalLivesRow.func = some 9 := by kernel_rfl
theorem journalLives_wrap : Try.f9.isWrapper Try.prog Rows.journalLivesRow.wrapper Rows.journalLivesRow.mainSum := by unfold Func.isWrapper; first | (rw [if_pos (by decide +kernel)]; kernel_rfl) | (rw [if_neg (by decide +kernel)]; exact ⟨rfl, rfl⟩)

theorem journalLives_holds : Rows.JournalLivesSaid :=
  OpenClaim.holds_of_wide 9 Try.f9 rfl rfl rfl rfl rfl rfl rfl ⟨rfl, rfl, rfl, rfl, rfl⟩ rfl rfl rfl rfl rfl journalLives_no Try.func9 journalLives_facts
    (of_decide_eq_true (by kernel_rfl)) journalLives_wrap
    (fun os started H enc _ => journalLives_lifted os started H enc)
end Go.Proofs.Ytnnhklembdaieaa
