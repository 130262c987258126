/- JournalBegins: the statement. -/
import Derived.Test.YtnnhklembdaieaaBeginW
import Derived.Test.YtnnhklembdaieaaJoinA
import Derived.Test.YtnnhklembdaieaaJoinF
namespace Go.Proofs.Ytnnhklembdaieaa
open Go.ChangeShapes Go.WideShapes Go.ChangeAt Go.RowKit Go.Deep
set_option linter.unusedVariables false

set_option maxRecDepth 100000 in
theorem journalBegins_lifted (os : Os) (started : os.Started) (H : Type) (enc : TypeId × Value → H) :
    ReturnsInHanded {} Try.checked os 20 .any (Rows.journalBeginsSpec.pre6 enc Try.prog Try.f20 Rows.journalBeginsRow.domain false) (Rows.journalBeginsSpec.post enc Try.prog Try.f20 false true false false) := by
  refine returnsInHanded_of_change (C := Try.checked) own started (by kernel_rfl) Try.func20
    (ChangeSpec.witness6 (enc := enc) (C := Try.checked) false ⟨#[], #[.slice none 0 0, .slice none 0 0], []⟩ 8 (by kernel_rfl) (by kernel_rfl) (by kernel_rfl) (by kernel_rfl)) ?_
  intro W base args ds gs before hval0 hW hcnd _
  have hval : ∀ (j : Nat) t v, Try.f20.params[j]? = some t → args[j]? = some v → Value.okWide Try.prog W .any base t v := hval0
  have hW' := hW
  obtain ⟨p, q, hA0, hV, rfl, hfz, hnd⟩ := hW
  have hA : DataW.TrodAll enc Try.prog W 0 (fun _ => true) true Try.f20.params.toList args.toList ds p := hA0
  rw [Try.params20] at hA hval
  obtain ⟨v0, vs0, d0, ds0, p0, q0, hargs, rfl, rfl, h0, r0⟩ := trodAll_cons hA
  obtain ⟨v1, vs1, d1, ds1, p1, q1, rfl, rfl, rfl, h1, r1⟩ := trodAll_cons r0
  obtain ⟨rfl, rfl, rfl⟩ := trodAll_nil r1
  obtain rfl : args = #[v0, v1] := by cases args; simp_all
  obtain ⟨rfl, rfl⟩ := trodVars_none hV
  have k0 := h0
  have lt0 : ∀ x ∈ p0, x.block < W.heap.size := by obtain ⟨m, hm⟩ := k0; exact DataW.trod_lt m _ _ _ hm
  obtain ⟨a0, n0, c0, rfl⟩ := okWide_slice Try.underlying84 (hval 0 84 v0 rfl rfl)
  obtain ⟨fu0, hf0⟩ := h0
  obtain ⟨l0, hl0, o0⟩ := open_jops (show DataW.trod enc Try.prog W 0 (fun _ => true) true fu0 84 [.slice a0 n0 c0] = some (d0, p0) from hf0)
  have k1 := h1
  have lt1 : ∀ x ∈ p1, x.block < W.heap.size := by obtain ⟨m, hm⟩ := k1; exact DataW.trod_lt m _ _ _ hm
  obtain ⟨a1, n1, c1, rfl⟩ := okWide_slice Try.underlying29 (hval 1 29 v1 rfl rfl)
  obtain ⟨fu1, hf1⟩ := h1
  obtain ⟨l1, hl1, o1⟩ := open_boolsAt (show DataW.trod enc Try.prog W 0 (fun _ => true) true fu1 29 [.slice a1 n1 c1] = some (d1, p1) from hf1)
  clear hA0 hval0
  refine (begins_any W a0 n0 c0 l0 hl0 o0 a1 n1 c1 l1 hl1 o1).mono fun e W' ⟨he, bel⟩ => ?_
  subst he
  exact ⟨_, rfl, _, _, _, [], _, [], hW', trodAll_mk1 (shut_bool Try.underlying4 _), (trodAll_cons_mk (Below.trod laidOut (by kernel_rfl) (of_decide_eq_true (by kernel_rfl)) k0 bel lt0) (trodAll_cons_mk (Below.trod laidOut (by kernel_rfl) (of_decide_eq_true (by kernel_rfl)) k1 bel lt1) trodAll_mk0)), rfl, bel.frame _, fun h => by cases h⟩

theorem journalBegins_fA : lightA Try.prog 20 Try.f20 Rows.journalBeginsSpec Rows.journalBeginsRow = true := by kernel_rfl
theorem journalBegins_fB : lightB Try.prog 20 Try.f20 Rows.journalBeginsSpec Rows.journalBeginsRow = true := by kernel_rfl
theorem journalBegins_f1 : (Rows.journalBeginsRow.inPlace == Try.prog.inPlace 20) = true := by kernel_rfl
theorem journalBegins_f2 : (Rows.journalBeginsRow.unfollowed == Try.prog.unfollowed 20) = true := by kernel_rfl
theorem journalBegins_f3 : (Rows.journalBeginsRow.recurses == Try.prog.recurses 20) = true := by kernel_rfl
theorem journalBegins_f4 : (Rows.journalBeginsRow.named == Try.prog.varsNamed 20) = true := by kernel_rfl
theorem journalBegins_facts : joinedFacts Try.prog 20 Try.f20 Rows.journalBeginsSpec Rows.journalBeginsRow = true := joined_of journalBegins_fA journalBegins_fB journalBegins_f1 journalBegins_f2 journalBegins_f3 journalBegins_f4 rfl rfl rfl
theorem journalBegins_no : Try.prog.funcNamed Rows.journalBeginsRow.func = some 20 := by kernel_rfl
theorem journalBegins_wrap : Try.f20.isWrapper Try.prog Rows.journalBeginsRow.wrapper Rows.journalBeginsRow.mainSum := by unfold Func.isWrapper; first | (rw [if_pos (by decide +kernel)]; kernel_rfl) | (rw [if_neg (by decide +kernel)]; exact ⟨rfl, rfl⟩)

theorem journalBegins_holds : Rows.JournalBeginsSaid :=
  OpenClaim.holds_of_wide 20 Try.f20 rfl rfl rfl rfl rfl rfl rfl ⟨rfl, rfl, rfl, rfl, rfl⟩ rfl rfl rfl rfl rfl journalBegins_no Try.func20 journalBegins_facts
    (of_decide_eq_true (by kernel_rfl)) journalBegins_wrap
    (fun os started H enc _ => journalBegins_lifted os started H enc)
end Go.Proofs.Ytnnhklembdaieaa
