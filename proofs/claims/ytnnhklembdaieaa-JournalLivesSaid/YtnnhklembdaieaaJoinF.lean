/- More arguments opened: the calls of pigeonloftlaw14. -/
import Derived.Test.YtnnhklembdaieaaJouE
import Derived.Test.YtnnhklembdaieaaJoinA
import Derived.Test.YtnnhklembdaieaaJoinB
namespace Go.Proofs.Ytnnhklembdaieaa
open Go.ChangeShapes Go.WideShapes Go.ChangeAt Go.RowKit Go.Deep
set_option linter.unusedSimpArgs false
set_option linter.unusedVariables false
section
variable {H : Type} {enc : TypeId × Value → H} {w : World} {base : Nat} {held : Bool}
set_option maxRecDepth 100000 in
theorem open_jops {fuel : Nat} {A : Option Addr} {len cap : Nat} {x : DataW H × List MemPlace} (hf : DataW.trod enc Try.prog w base (fun _ => true) held fuel 84 [.slice A len cap] = some x) :
    ∃ ops : List JOpM, ops.length = len ∧ JOpsAt w A ops := by
  have hmm : maxLen = 9223372036854775807 := by decide
  rcases open_slice_fields Try.underlying84 Try.underlying91 (by kernel_rfl) (by kernel_rfl) hf with hcs | ⟨a, len', cap', hcs, hl, hm, hi⟩
  · simp at hcs
    obtain ⟨rfl, rfl, rfl⟩ := hcs
    exact ⟨[], rfl, by simp, fun h => absurd h (by simp)⟩
  · simp at hcs
    obtain ⟨rfl, rfl, rfl⟩ := hcs
    have key : ∀ i, i < len → ∃ m : JOpM, ∀ g o, a = ⟨g, o, none⟩ → JOpAt w g (o + i * 4) m := by
      intro i hil
      obtain ⟨n, hn⟩ := hi i hil
      obtain ⟨v0, y0, c0, t0⟩ := hn 0 _ rfl
      obtain ⟨v1, y1, c1, t1⟩ := hn 1 _ rfl
      obtain ⟨v2, y2, c2, t2⟩ := hn 2 _ rfl
      obtain ⟨v3, y3, c3, t3⟩ := hn 3 _ rfl
      obtain ⟨x0, e0, _, w0⟩ := DataW.trod_int Try.underlying3 t0
      obtain ⟨a1, n1, cp1, e1⟩ := Go.Joins.slice_form Try.underlying28 t1
      obtain ⟨a2, n2, cp2, e2⟩ := Go.Joins.slice_form Try.underlying85 t2
      obtain ⟨a3, n3, cp3, e3⟩ := Go.Joins.slice_form Try.underlying29 t3
      simp only [List.cons.injEq, and_true] at e0 e1 e2 e3
      subst e0 e1 e2 e3
      obtain ⟨l1, hl1, hm1, hs1⟩ := open_bytes t1
      obtain ⟨l2, hl2, hs2⟩ := open_texts t2
      obtain ⟨l3, hl3, hm3, hs3⟩ := open_boolsAt t3
      refine ⟨⟨x0, a1, cp1, l1, a2, cp2, l2, a3, cp3, l3⟩, ?_⟩
      rintro g o rfl
      rw [Addr.add_mid] at c0 c1 c2 c3
      subst hl1 hl2 hl3
      exact ⟨c0, c1, c2, c3, hs1, hs2, hs3, hm1, hm3, i64_bounds w0⟩
    obtain ⟨M, hM⟩ := Classical.axiomOfChoice (r := fun (i : Fin len) (m : JOpM) => ∀ g o, a = ⟨g, o, none⟩ → JOpAt w g (o + i * 4) m) (fun i => key i i.2)
    refine ⟨(List.finRange len).map M, by simp, by simp; omega, fun h => ?_⟩
    simp at h
    obtain ⟨n, hn⟩ := hi 0 h
    obtain ⟨v0, y0, c0, t0⟩ := hn 0 _ rfl
    obtain ⟨g, o, rfl⟩ := spot_at (by simpa using c0)
    refine ⟨g, o, rfl, ?_, fun k hk => ?_⟩
    · have := cell_lt' c0
      simpa [Addr.add] using this
    · simp at hk
      simpa using hM ⟨k, hk⟩ g o rfl
/-- a slice of texts; of nil nothing. -/
theorem open_textsN {fuel : Nat} {A : Option Addr} {len cap : Nat} {x : DataW H × List MemPlace} (hf : DataW.trod enc Try.prog w base (fun _ => true) held fuel 85 [.slice A len cap] = some x) :
    ∃ rows : List RowM, rows.length = len ∧ TextsAt w A rows ∧ (A = none → len = 0 ∧ cap = 0) := by
  obtain ⟨rows, h1, h2⟩ := open_texts hf
  refine ⟨rows, h1, h2, ?_⟩
  rintro rfl
  rcases open_slice1 Try.underlying85 cells28 hf with ⟨hcs, _⟩ | ⟨a, len', cap', m, n, V, D, Pl, hcs, _⟩
  · simp at hcs
    exact hcs
  · simp at hcs
end
end Go.Proofs.Ytnnhklembdaieaa
