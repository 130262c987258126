/- SuperTells: the statement. -/
import Derived.Test.YtnnhklembdaieaaSTellW
import Derived.Test.YtnnhklembdaieaaJoinA
import Derived.Test.YtnnhklembdaieaaJoinC
import Derived.Test.YtnnhklembdaieaaJoinD
namespace Go.Proofs.Ytnnhklembdaieaa
open Go.ChangeShapes Go.WideShapes Go.ChangeAt Go.RowKit Go.Deep
set_option linter.unusedVariables false

set_option maxRecDepth 100000 in
theorem superTells_lifted (os : Os) (started : os.Started) (H : Type) (enc : TypeId × Value → H) :
    ReturnsInHanded {} Try.checked os 14 .any (Rows.superTellsSpec.pre6 enc Try.prog Try.f14 Rows.superTellsRow.domain false) (Rows.superTellsSpec.post enc Try.prog Try.f14 false true false false) := by
  refine returnsInHanded_of_change (C := Try.checked) own started (by kernel_rfl) Try.func14
    (ChangeSpec.witness6 (enc := enc) (C := Try.checked) false ⟨#[], #[.agg #[.int .u64 0, .int .i64 0, .int .i64 0], .slice none 0 0], []⟩ 8 (by kernel_rfl) (by kernel_rfl) (by kernel_rfl) (by kernel_rfl)) ?_
  intro W base args ds gs before hval0 hW hcnd _
  have hval : ∀ (j : Nat) t v, Try.f14.params[j]? = some t → args[j]? = some v → Value.okWide Try.prog W .any base t v := hval0
  have hW' := hW
  obtain ⟨p, q, hA0, hV, rfl, hfz, hnd⟩ := hW
  have hA : DataW.TrodAll enc Try.prog W 0 (fun _ => true) true Try.f14.params.toList args.toList ds p := hA0
  rw [Try.params14] at hA hval
  obtain ⟨v0, vs0, d0, ds0, p0, q0, hargs, rfl, rfl, h0, r0⟩ := trodAll_cons hA
  obtain ⟨v1, vs1, d1, ds1, p1, q1, rfl, rfl, rfl, h1, r1⟩ := trodAll_cons r0
  obtain ⟨rfl, rfl, rfl⟩ := trodAll_nil r1
  obtain rfl : args = #[v0, v1] := by cases args; simp_all
  obtain ⟨rfl, rfl⟩ := trodVars_none hV
  have k0 := h0
  have lt0 : ∀ x ∈ p0, x.block < W.heap.size := by obtain ⟨m, hm⟩ := k0; exact DataW.trod_lt m _ _ _ hm
  obtain ⟨sg0, sa0, sl0, rfl, bs0⟩ := open_super (hval 0 115 v0 rfl rfl) h0
  have k1 := h1
  have lt1 : ∀ x ∈ p1, x.block < W.heap.size := by obtain ⟨m, hm⟩ := k1; exact DataW.trod_lt m _ _ _ hm
  obtain ⟨a1, n1, c1, rfl⟩ := okWide_slice Try.underlying28 (hval 1 28 v1 rfl rfl)
  obtain ⟨fu1, hf1⟩ := h1
  obtain ⟨l1, hl1, o1⟩ := open_bytesC (show DataW.trod enc Try.prog W 0 (fun _ => true) true fu1 28 [.slice a1 n1 c1] = some (d1, p1) from hf1)
  clear hA0 hval0
  refine (stell_any W sg0 sa0 sl0 bs0.1 a1 n1 c1 l1 hl1 o1).mono fun e W' ⟨he, bel⟩ => ?_
  subst he
  exact ⟨_, rfl, _, _, _, [], _, [], hW', trodAll_mk1 (shut_bool Try.underlying4 _), (trodAll_cons_mk (Below.trod laidOut (by kernel_rfl) (of_decide_eq_true (by kernel_rfl)) k0 bel lt0) (trodAll_cons_mk (Below.trod laidOut (by kernel_rfl) (of_decide_eq_true (by kernel_rfl)) k1 bel lt1) trodAll_mk0)), rfl, bel.frame _, fun h => by cases h⟩

theorem superTells_fA : lightA Try.prog 14 Try.f14 Rows.superTellsSpec Rows.superTellsRow = true := by kernel_rfl
theorem superTells_fB : lightB Try.prog 14 Try.f14 Rows.superTellsSpec Rows.superTellsRow = true := by kernel_rfl
theorem superTells_f1 : (Rows.superTellsRow.inPlace == Try.prog.inPlace 14) = true := by kernel_rfl
theorem superTells_f2 : (Rows.superTellsRow.unfollowed == Try.prog.unfollowed 14) = true := by kernel_rfl
theorem superTells_f3 : (Rows.superTellsRow.recurses == Try.prog.recurses 14) = true := by kernel_rfl
theorem superTells_f4 : (Rows.superTellsRow.named == Try.prog.varsNamed 14) = true := by kernel_rfl
theorem superTells_facts : joinedFacts Try.prog 14 Try.f14 Rows.superTellsSpec Rows.superTellsRow = true := joined_of superTells_fA superTells_fB superTells_f1 superTells_f2 superTells_f3 superTells_f4 rfl rfl rfl
theorem superTells_no : Try.prog.funcNamed Rows.superTellsRow.func = some 14 := by kernel_rfl
theorem superTells_wrap : Try.f14.isWrapper Try.prog Rows.superTellsRow.wrapper Rows.superTellsRow.mainSum := by unfold Func.isWrapper; first | (rw [if_pos (by decide +kernel)]; kernel_rfl) | (rw [if_neg (by decide +kernel)]; exact ⟨rfl, rfl⟩)

theorem superTells_holds : Rows.SuperTellsSaid :=
  OpenClaim.holds_of_wide 14 Try.f14 rfl rfl rfl rfl rfl rfl rfl ⟨rfl, rfl, rfl, rfl, rfl⟩ rfl rfl rfl rfl rfl superTells_no Try.func14 superTells_facts
    (of_decide_eq_true (by kernel_rfl)) superTells_wrap
    (fun os started H enc _ => superTells_lifted os started H enc)
end Go.Proofs.Ytnnhklembdaieaa
