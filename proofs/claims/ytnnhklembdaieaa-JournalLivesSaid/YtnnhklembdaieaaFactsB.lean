/- The closed facts of one statement, put together. -/
import Derived.Test.YtnnhklembdaieaaFacts
namespace Go.Proofs.Ytnnhklembdaieaa
open Go.RowKit
set_option linter.unusedSimpArgs false
set_option linter.unusedVariables false

/-- what is left for each statement. -/
def lightA (P : Program) (f : FuncId) (fn : Func) (s : ChangeSpec) (c : OpenClaim) : Bool :=
  c.wf (OpenSpec.ofChange s) &&
  fn.params.all (P.readableRec ·) && namedTie P c.named s.vars &&
  (c.stops == []) && (P.stops == []) && (c.knobs == []) && (P.stopKnobs == []) &&
  (c.maps == (fn.params.toList ++ s.plain.varTypes P).any (P.mapsRec ·)) && (c.ifaces == (fn.params.toList ++ s.plain.varTypes P).any (P.ifacesRec ·)) && (c.mapsOut == P.mapsAmong fn.resultTypes.toList) &&
  (c.loops == (fn.params.toList ++ s.plain.varTypes P).any (P.loopsFrom ·)) && (c.wideKeys == (fn.params.toList ++ s.plain.varTypes P ++ fn.resultTypes.toList).any (P.wideKeysFrom ·))
def lightB (P : Program) (f : FuncId) (fn : Func) (s : ChangeSpec) (c : OpenClaim) : Bool :=
  s.vars.all (P.varReadable ·) && fn.resultTypes.all (fun t => P.readableRec t && decide (t < P.types.size)) && (c.ifacesOut == fn.resultTypes.toList.any (P.ifacesRec ·)) && (c.loopsOut == fn.resultTypes.toList.any (P.loopsFrom ·)) && c.shortTexts.isNone && (c.kinds == (if c.domain.isEmpty then [] else fn.params.toList.map fun t => match P.underlying t with | some (.int k) => some k | _ => none)) && (c.pinned == c.pinnedBy) &&
  (c.veiled == (fn.params.toList ++ s.plain.varTypes P ++ fn.resultTypes.toList).any (P.veiledRec ·)) && c.veiledFits P fn.params.toList (fn.params.toList ++ s.plain.varTypes P ++ fn.resultTypes.toList)

/-- the light facts and the great ones together. -/
theorem joined_gen {P : Program} {f : FuncId} {fn : Func} {s : ChangeSpec} {c : OpenClaim} (hA : lightA P f fn s c = true) (hB : lightB P f fn s c = true)
    (h1 : (c.inPlace == P.inPlace f) = true) (h2 : (c.unfollowed == P.unfollowed f) = true) (h3 : (c.recurses == P.recurses f) = true) (h4 : (c.named == P.varsNamed f) = true)
    (q1 : laidOutB P = true) (q2 : mapsRowed P = true) (p1 : (c.plainKeys == P.plainKeys) = true) (q3 : P.stopsHeard = true) (q4 : P.mayEnter = true) (p2 : (c.lifted == P.liftsFinal) = true) (p3 : (P.make == some c.make) = true) : joinedFacts P f fn s c = true := by
  unfold lightA at hA
  unfold lightB at hB
  simp only [Bool.and_eq_true] at hA hB
  obtain ⟨⟨⟨⟨⟨⟨⟨⟨⟨⟨⟨a1, a2⟩, a3⟩, a4⟩, a5⟩, a6⟩, a7⟩, a8⟩, a9⟩, a10⟩, a11⟩, a12⟩ := hA
  obtain ⟨⟨⟨⟨⟨⟨⟨⟨b1, b2⟩, b3⟩, b4⟩, b5⟩, b6⟩, b7⟩, b8⟩, b9⟩ := hB
  unfold joinedFacts
  simp only [Bool.and_eq_true]
  exact ⟨⟨⟨⟨⟨⟨⟨⟨⟨⟨⟨⟨⟨⟨⟨⟨⟨⟨⟨⟨⟨⟨⟨⟨⟨⟨⟨⟨⟨⟨⟨a1, q1⟩, q2⟩, a2⟩, a3⟩, a4⟩, a5⟩, a6⟩, a7⟩, h1⟩, h2⟩, h3⟩, h4⟩, a8⟩, a9⟩, a10⟩, a11⟩, a12⟩, b1⟩, b2⟩, b3⟩, b4⟩, p1⟩, b5⟩, q3⟩, q4⟩, p2⟩, p3⟩, b6⟩, b7⟩, b8⟩, b9⟩
theorem joined_of {f : FuncId} {fn : Func} {s : ChangeSpec} {c : OpenClaim} (hA : lightA Try.prog f fn s c = true) (hB : lightB Try.prog f fn s c = true)
    (h1 : (c.inPlace == Try.prog.inPlace f) = true) (h2 : (c.unfollowed == Try.prog.unfollowed f) = true) (h3 : (c.recurses == Try.prog.recurses f) = true) (h4 : (c.named == Try.prog.varsNamed f) = true)
    (e1 : c.plainKeys = Rows.diskLastRow.plainKeys) (e2 : c.lifted = Rows.diskLastRow.lifted) (e3 : c.make = Rows.diskLastRow.make) : joinedFacts Try.prog f fn s c = true :=
  joined_gen hA hB h1 h2 h3 h4 laidOut mapsRowedIs (e1 ▸ plainKeysIs) stopsHeardIs mayEnterIs (e2 ▸ liftedIs) (e3 ▸ makeIs)
end Go.Proofs.Ytnnhklembdaieaa
