/- More arguments opened: a slice of supers. -/
import Derived.Test.YtnnhklembdaieaaSNewW
import Derived.Test.YtnnhklembdaieaaJoinD
namespace Go.Proofs.Ytnnhklembdaieaa
open Go.ChangeShapes Go.WideShapes Go.ChangeAt Go.RowKit Go.Deep
set_option linter.unusedSimpArgs false
set_option linter.unusedVariables false
section
variable {H : Type} {enc : TypeId × Value → H} {w : World} {base : Nat} {held : Bool}
set_option maxRecDepth 100000 in
theorem open_supers {fuel : Nat} {A : Option Addr} {len cap : Nat} {x : DataW H × List MemPlace} (hf : DataW.trod enc Try.prog w base (fun _ => true) held fuel 142 [.slice A len cap] = some x) :
    ∃ ss : List SU, ss.length = len ∧ SupsAt w A ss := by
  have hmm : maxLen = 9223372036854775807 := by decide
  rcases open_slice_fields Try.underlying142 Try.underlying115 (by kernel_rfl) (by kernel_rfl) hf with hcs | ⟨a, len', cap', hcs, hl, hm, hi⟩
  · simp at hcs
    obtain ⟨rfl, rfl, rfl⟩ := hcs
    exact ⟨[], rfl, by simp, fun h => absurd h (by simp)⟩
  · simp at hcs
    obtain ⟨rfl, rfl, rfl⟩ := hcs
    have key : ∀ i, i < len → ∃ m : SU, ∀ g o, a = ⟨g, o, none⟩ → (w.cell? ⟨g, o + i * 3, none⟩ = some (.int .u64 (m.gen : Int)) ∧ w.cell? ⟨g, o + i * 3 + 1, none⟩ = some (.int .i64 m.area) ∧ w.cell? ⟨g, o + i * 3 + 2, none⟩ = some (.int .i64 m.len) ∧ m.gen < 18446744073709551616) := by
      intro i hil
      obtain ⟨n, hn⟩ := hi i hil
      obtain ⟨v0, y0, c0, t0⟩ := hn 0 _ rfl
      obtain ⟨v1, y1, c1, t1⟩ := hn 1 _ rfl
      obtain ⟨v2, y2, c2, t2⟩ := hn 2 _ rfl
      obtain ⟨x0, e0, _, w0⟩ := DataW.trod_int Try.underlying103 t0
      obtain ⟨x1, e1, _, w1⟩ := DataW.trod_int Try.underlying3 t1
      obtain ⟨x2, e2, _, w2⟩ := DataW.trod_int Try.underlying3 t2
      simp only [List.cons.injEq, and_true] at e0 e1 e2
      subst e0 e1 e2
      have hb := u64_bounds w0
      obtain ⟨g, rfl⟩ := Int.eq_ofNat_of_zero_le hb.1
      refine ⟨⟨g, x1, x2⟩, ?_⟩
      rintro gg o rfl
      rw [Addr.add_mid] at c0 c1 c2
      exact ⟨c0, c1, c2, show g < 18446744073709551616 by omega⟩
    obtain ⟨M, hM⟩ := Classical.axiomOfChoice (r := fun (i : Fin len) (m : SU) => ∀ g o, a = ⟨g, o, none⟩ → (w.cell? ⟨g, o + i * 3, none⟩ = some (.int .u64 (m.gen : Int)) ∧ w.cell? ⟨g, o + i * 3 + 1, none⟩ = some (.int .i64 m.area) ∧ w.cell? ⟨g, o + i * 3 + 2, none⟩ = some (.int .i64 m.len) ∧ m.gen < 18446744073709551616)) (fun i => key i i.2)
    refine ⟨(List.finRange len).map M, by simp, by simp; omega, fun h => ?_⟩
    simp at h
    obtain ⟨n, hn⟩ := hi 0 h
    obtain ⟨v0, y0, c0, t0⟩ := hn 0 _ rfl
    obtain ⟨g, o, rfl⟩ := spot_at (by simpa using c0)
    refine ⟨g, o, rfl, ?_, fun k hk => ?_⟩
    · have := cell_lt' c0
      simpa [Addr.add] using this
    · simp at hk
      simpa using hM ⟨k, hk⟩ g o rfl
end
end Go.Proofs.Ytnnhklembdaieaa
