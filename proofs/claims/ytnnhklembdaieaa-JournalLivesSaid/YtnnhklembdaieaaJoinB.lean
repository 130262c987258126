/- A slice of texts, opened. -/
import Derived.Test.YtnnhklembdaieaaCountW
import Derived.Test.YtnnhklembdaieaaJoinA
namespace Go.Proofs.Ytnnhklembdaieaa
open Go.ChangeShapes Go.WideShapes Go.ChangeAt Go.RowKit Go.Deep
set_option linter.unusedSimpArgs false
set_option linter.unusedVariables false

theorem cells28 : Try.prog.cellsOf 28 = 1 := by kernel_rfl
section
variable {H : Type} {enc : TypeId × Value → H} {w : World} {base : Nat} {held : Bool}
theorem open_texts {fuel : Nat} {A : Option Addr} {len cap : Nat} {x : DataW H × List MemPlace} (hf : DataW.trod enc Try.prog w base (fun _ => true) held fuel 85 [.slice A len cap] = some x) :
    ∃ rows : List RowM, rows.length = len ∧ TextsAt w A rows := by
  have hmm : maxLen = 9223372036854775807 := by decide
  rcases open_slice1 Try.underlying85 cells28 hf with ⟨hcs, _⟩ | ⟨a, len', cap', m, n, V, D, Pl, hcs, _, hl, hm, hmm2, _, hi⟩
  · simp at hcs
    obtain ⟨rfl, rfl, rfl⟩ := hcs
    exact ⟨[], rfl, by simp, fun h => absurd h (by simp)⟩
  · simp at hcs
    obtain ⟨rfl, rfl, rfl⟩ := hcs
    simp only [if_true] at hmm2
    have key : ∀ i, i < len → ∃ r : RowM, w.cell? (a.add i) = some (.slice r.A r.l.length r.c) ∧ SlAt w r.A r.l.length (bvs r.l) ∧ r.l.length ≤ 9223372036854775807 := by
      intro i hil
      obtain ⟨c0, t0⟩ := hi i (by omega)
      obtain ⟨a3, n3, cp3, e3⟩ := Go.Joins.slice_form Try.underlying28 t0
      simp only [List.cons.injEq, and_true] at e3
      rw [e3] at t0 c0
      obtain ⟨l3, hl3, hm3, hs3⟩ := open_bytes t0
      subst hl3
      exact ⟨⟨a3, cp3, l3⟩, c0, hs3, hm3⟩
    obtain ⟨M, hM⟩ := Classical.axiomOfChoice (r := fun (i : Fin len) (r : RowM) => w.cell? (a.add i) = some (.slice r.A r.l.length r.c) ∧ SlAt w r.A r.l.length (bvs r.l) ∧ r.l.length ≤ 9223372036854775807) (fun i => key i i.2)
    refine ⟨(List.finRange len).map M, by simp, by simp; omega, fun h => ?_⟩
    simp at h
    obtain ⟨g, o, rfl⟩ := spot_at (hM ⟨0, h⟩).1
    refine ⟨g, o, rfl, ?_, fun k hk => ?_⟩
    · have := cell_lt' (hM ⟨0, h⟩).1
      simpa [Addr.add] using this
    · simp at hk
      have := hM ⟨k, hk⟩
      rw [Addr.add_mid] at this
      simpa using this
end
end Go.Proofs.Ytnnhklembdaieaa
