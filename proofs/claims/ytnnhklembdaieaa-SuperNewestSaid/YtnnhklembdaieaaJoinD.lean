/- More arguments opened: a super by value. -/
import Derived.Test.YtnnhklembdaieaaJoinC
namespace Go.Proofs.Ytnnhklembdaieaa
open Go.ChangeShapes Go.WideShapes Go.ChangeAt Go.RowKit Go.Deep
set_option linter.unusedSimpArgs false
set_option linter.unusedVariables false
section
variable {H : Type} {enc : TypeId × Value → H} {w : World} {base : Nat} {held : Bool}
set_option maxRecDepth 100000 in
/-- A SUPER, by value. -/
theorem open_super {r : Reach} {b0 : Nat} {v : Value} {d : DataW H} {p : List MemPlace} (hv : Value.okWide Try.prog w r b0 115 v) (h : DataW.Trod enc Try.prog w base (fun _ => true) held 115 v d p) :
    ∃ (g : Nat) (a l : Int), v = .agg #[.int .u64 (g : Int), .int .i64 a, .int .i64 l] ∧ g < 18446744073709551616 ∧ (-9223372036854775808 ≤ a ∧ a ≤ 9223372036854775807) ∧ (-9223372036854775808 ≤ l ∧ l ≤ 9223372036854775807) := by
  obtain ⟨v0, v1, v2, y0, y1, y2, n, rfl, _, _, t0, t1, t2⟩ := Go.Joins.open_agg3 Try.underlying115 (by kernel_rfl) (by kernel_rfl) hv h
  obtain ⟨x0, e0, _, w0⟩ := DataW.trod_int Try.underlying103 t0
  obtain ⟨x1, e1, _, w1⟩ := DataW.trod_int Try.underlying3 t1
  obtain ⟨x2, e2, _, w2⟩ := DataW.trod_int Try.underlying3 t2
  simp only [List.cons.injEq, and_true] at e0 e1 e2
  subst e0 e1 e2
  have hb := u64_bounds w0
  obtain ⟨g, rfl⟩ := Int.eq_ofNat_of_zero_le hb.1
  exact ⟨g, x1, x2, rfl, by omega, i64_bounds w1, i64_bounds w2⟩
end
end Go.Proofs.Ytnnhklembdaieaa
