/- AreaHalves: the statement. -/
import Derived.Test.YtnnhklembdaieaaHalvesW
import Derived.Test.YtnnhklembdaieaaJoinA
namespace Go.Proofs.Ytnnhklembdaieaa
open Go.ChangeShapes Go.WideShapes Go.ChangeAt Go.RowKit Go.Deep
set_option linter.unusedVariables false

set_option maxRecDepth 100000 in
theorem areaHalves_lifted (os : Os) (started : os.Started) (H : Type) (enc : TypeId × Value → H) :
    ReturnsInHanded {} Try.checked os 13 .any (Rows.areaHalvesSpec.pre6 enc Try.prog Try.f13 Rows.areaHalvesRow.domain false) (Rows.areaHalvesSpec.post enc Try.prog Try.f13 false true false false) := by
  refine returnsInHanded_of_change (C := Try.checked) own started (by kernel_rfl) Try.func13
    (ChangeSpec.witness6 (enc := enc) (C := Try.checked) false ⟨#[], #[.int .i64 0], []⟩ 8 (by kernel_rfl) (by kernel_rfl) (by kernel_rfl) (by kernel_rfl)) ?_
  intro W base args ds gs before hval0 hW hcnd _
  have hval : ∀ (j : Nat) t v, Try.f13.params[j]? = some t → args[j]? = some v → Value.okWide Try.prog W .any base t v := hval0
  have hW' := hW
  obtain ⟨p, q, hA0, hV, rfl, hfz, hnd⟩ := hW
  have hA : DataW.TrodAll enc Try.prog W 0 (fun _ => true) true Try.f13.params.toList args.toList ds p := hA0
  rw [Try.params13] at hA hval
  obtain ⟨v0, vs0, d0, ds0, p0, q0, hargs, rfl, rfl, h0, r0⟩ := trodAll_cons hA
  obtain ⟨rfl, rfl, rfl⟩ := trodAll_nil r0
  obtain rfl : args = #[v0] := by cases args; simp_all
  obtain ⟨rfl, rfl⟩ := trodVars_none hV
  have k0 := h0
  have lt0 : ∀ x ∈ p0, x.block < W.heap.size := by obtain ⟨m, hm⟩ := k0; exact DataW.trod_lt m _ _ _ hm
  obtain ⟨x0, rfl, rfl, rfl, w0⟩ := open_int Try.underlying3 (hval 0 3 v0 rfl rfl) h0
  have b0 := i64_bounds w0
  clear hA0 hval0
  refine (halves_any W x0).mono fun e W' ⟨he, bel⟩ => ?_
  subst he
  exact ⟨_, rfl, _, _, _, [], _, [], hW', trodAll_mk1 (shut_bool Try.underlying4 _), (trodAll_cons_mk (Below.trod laidOut (by kernel_rfl) (of_decide_eq_true (by kernel_rfl)) k0 bel lt0) trodAll_mk0), rfl, bel.frame _, fun h => by cases h⟩

theorem areaHalves_fA : lightA Try.prog 13 Try.f13 Rows.areaHalvesSpec Rows.areaHalvesRow = true := by kernel_rfl
theorem areaHalves_fB : lightB Try.prog 13 Try.f13 Rows.areaHalvesSpec Rows.areaHalvesRow = true := by kernel_rfl
theorem areaHalves_f1 : (Rows.areaHalvesRow.inPlace == Try.prog.inPlace 13) = true := by kernel_rfl
theorem areaHalves_f2 : (Rows.areaHalvesRow.unfollowed == Try.prog.unfollowed 13) = true := by kernel_rfl
theorem areaHalves_f3 : (Rows.areaHalvesRow.recurses == Try.prog.recurses 13) = true := by kernel_rfl
theorem areaHalves_f4 : (Rows.areaHalvesRow.named == Try.prog.varsNamed 13) = true := by kernel_rfl
theorem areaHalves_facts : joinedFacts Try.prog 13 Try.f13 Rows.areaHalvesSpec Rows.areaHalvesRow = true := joined_of areaHalves_fA areaHalves_fB areaHalves_f1 areaHalves_f2 areaHalves_f3 areaHalves_f4 rfl rfl rfl
theorem areaHalves_no : Try.prog.funcNamed Rows.areaHalvesRow.func = some 13 := by kernel_rfl
theorem areaHalves_wrap : Try.f13.isWrapper Try.prog Rows.areaHalvesRow.wrapper Rows.areaHalvesRow.mainSum := by unfold Func.isWrapper; first | (rw [if_pos (by decide +kernel)]; kernel_rfl) | (rw [if_neg (by decide +kernel)]; exact ⟨rfl, rfl⟩)

theorem areaHalves_holds : Rows.AreaHalvesSaid :=
  OpenClaim.holds_of_wide 13 Try.f13 rfl rfl rfl rfl rfl rfl rfl ⟨rfl, rfl, rfl, rfl, rfl⟩ rfl rfl rfl rfl rfl areaHalves_no Try.func13 areaHalves_facts
    (of_decide_eq_true (by kernel_rfl)) areaHalves_wrap
    (fun os started H enc _ => areaHalves_lifted os started H enc)
end Go.Proofs.Ytnnhklembdaieaa
