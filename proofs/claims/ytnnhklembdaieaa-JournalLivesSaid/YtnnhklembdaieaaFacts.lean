/- The closed facts on the whole program, once for all statements. -/
import Derived.Test.YtnnhklembdaieaaRows
import Derived.ProofKit
namespace Go.Proofs.Ytnnhklembdaieaa
open Go.RowKit
set_option linter.unusedSimpArgs false
set_option linter.unusedVariables false

theorem own : ownKnob Try.prog.godebug = none := by kernel_rfl
theorem laidOut : laidOutB Try.prog = true := by kernel_rfl
theorem mapsRowedIs : mapsRowed Try.prog = true := by kernel_rfl
theorem plainKeysIs : (Rows.diskLastRow.plainKeys == Try.prog.plainKeys) = true := by kernel_rfl
theorem stopsHeardIs : Try.prog.stopsHeard = true := by kernel_rfl
theorem mayEnterIs : Try.prog.mayEnter = true := by kernel_rfl
theorem liftedIs : (Rows.diskLastRow.lifted == Try.prog.liftsFinal) = true := by kernel_rfl
theorem makeIs : (Try.prog.make == some Rows.diskLastRow.make) = true := by kernel_rfl

end Go.Proofs.Ytnnhklembdaieaa
