/- The arguments that come in, opened. -/
import Derived.Test.YtnnhklembdaieaaLawA
import Derived.Test.YtnnhklembdaieaaFactsB
import Derived.ProofKit
import Derived.OpenShut
import Derived.ChangeOld
import Derived.Below
import Derived.Deep.Slices
import Derived.Deep.Fields
import Derived.Deep.Grids
import Derived.ChangeSame
import Derived.SliceStrings
import Derived.Lib.SmallJoins
namespace Go.Proofs.Ytnnhklembdaieaa
open Go.ChangeShapes Go.WideShapes Go.ChangeAt Go.RowKit Go.Deep
set_option linter.unusedSimpArgs false
set_option linter.unusedVariables false

theorem cells5 : Try.prog.cellsOf 5 = 1 := by kernel_rfl
theorem cells4 : Try.prog.cellsOf 4 = 1 := by kernel_rfl
theorem cells32 : Try.prog.cellsOf 32 = 5 := by kernel_rfl

section
variable {H : Type} {enc : TypeId × Value → H} {w : World} {base : Nat} {held : Bool}

theorem spot_at {w : World} {a : Addr} {v : Value} (h : w.cell? (a.add 0) = some v) : ∃ g o, a = ⟨g, o, none⟩ := by
  obtain ⟨ab, ao, spot⟩ := a
  have hspot : spot = none := by simpa [Addr.add] using World.cell?_spot h
  subst hspot
  exact ⟨_, _, rfl⟩
theorem cell_lt' {w : World} {p : Addr} {v : Value} (h : w.cell? p = some v) : p.block < w.heap.size := block_lt_of_cell h
/-- a slice of one-celled elements. -/
theorem sl_of_cells {w : World} {a : Addr} {len : Nat} (V : Nat → Value) (h : ∀ i, i < len → w.cell? (a.add i) = some (V i)) : SlAt w (some a) len ((List.range len).map V) := by
  refine ⟨by simp, fun hn => ?_⟩
  obtain ⟨g, o, rfl⟩ := spot_at (h 0 hn)
  refine ⟨g, o, rfl, cell_lt' (h 0 hn), fun j v hv => ?_⟩
  rw [List.getElem?_map] at hv
  by_cases hj : j < len
  · rw [List.getElem?_range hj] at hv
    have := h j hj
    rw [Addr.add_mid] at this
    rw [this]
    simpa using hv
  · rw [List.getElem?_eq_none (by simpa using hj)] at hv
    simp at hv

/-- A SLICE OF BYTES. -/
theorem open_bytes {fuel : Nat} {A : Option Addr} {len cap : Nat} {x : DataW H × List MemPlace} (hf : DataW.trod enc Try.prog w base (fun _ => true) held fuel 28 [.slice A len cap] = some x) :
    ∃ l : List UInt8, l.length = len ∧ l.length ≤ 9223372036854775807 ∧ SlAt w A len (bvs l) := by
  rcases open_ints Try.underlying28 Try.underlying5 cells5 hf with ⟨hcs, hx⟩ | ⟨a, len', cap', zs, hcs, _, hl, hm, hz, hx, hcell, hwz⟩
  · simp at hcs
    obtain ⟨rfl, rfl, rfl⟩ := hcs
    exact ⟨[], rfl, by simp, SlAt.nil _ _⟩
  · simp at hcs
    obtain ⟨rfl, rfl, rfl⟩ := hcs
    simp only [if_true] at hz
    have hmm : maxLen = 9223372036854775807 := by decide
    refine ⟨(List.range len).map fun i => UInt8.ofNat (zs.getD i 0).toNat, by simp, by simp; omega, ?_⟩
    have := sl_of_cells (w := w) (a := a) (len := len) (fun i => .int .u8 (zs.getD i 0)) (fun i hi => hcell i (by omega))
    have e : bvs ((List.range len).map fun i => UInt8.ofNat (zs.getD i 0).toNat) = (List.range len).map (fun i => Value.int .u8 (zs.getD i 0)) := by
      simp only [bvs, List.map_map]
      refine List.map_congr_left fun i hi => ?_
      have hb := range_u8 hwz i
      rw [← List.getD_eq_getElem?_getD] at hb
      simp only [Function.comp, bv, UInt8.toNat_ofNat']
      congr 1
      omega
    rw [e]; exact this
/-- A SLICE OF BOOLS. -/
theorem open_boolsAt {fuel : Nat} {A : Option Addr} {len cap : Nat} {x : DataW H × List MemPlace} (hf : DataW.trod enc Try.prog w base (fun _ => true) held fuel 29 [.slice A len cap] = some x) :
    ∃ l : List Bool, l.length = len ∧ l.length ≤ 9223372036854775807 ∧ SlAt w A len (l.map .bool) := by
  rcases open_bools Try.underlying29 Try.underlying4 cells4 hf with ⟨hcs, hx⟩ | ⟨a, len', cap', B, hcs, _, hl, hm, hx, hcell⟩
  · simp at hcs
    obtain ⟨rfl, rfl, rfl⟩ := hcs
    exact ⟨[], rfl, by simp, SlAt.nil _ _⟩
  · simp at hcs
    obtain ⟨rfl, rfl, rfl⟩ := hcs
    have hmm : maxLen = 9223372036854775807 := by decide
    refine ⟨(List.range len).map B, by simp, by simp; omega, ?_⟩
    have := sl_of_cells (w := w) (a := a) (len := len) (fun i => .bool (B i)) (fun i hi => hcell i (by omega))
    rw [List.map_map]; exact this
end

section
variable {H : Type} {enc : TypeId × Value → H} {P : Program} {w : World} {base : Nat} {spare : Nat → Bool} {held : Bool}
/-- A SLICE OF STRUCTS of one-cell fields (turned from the guide's page on structs). -/
theorem open_slice_fields {t e : TypeId} {fs : Array Field} {fuel : Nat} {cs : List Value} {x : DataW H × List MemPlace} (ht : P.underlying t = some (.slice e)) (he : P.underlying e = some (.struct fs))
    (hone : oneCellFields P fs = true) (hC : P.cellsOf e = fs.size) (h : DataW.trod enc P w base spare held fuel t cs = some x) :
    cs = [.slice none 0 0] ∨
    ∃ (a : Addr) (len cap : Nat), cs = [.slice (some a) len cap] ∧ len ≤ cap ∧ cap ≤ maxLen ∧
      ∀ i, i < len → ∃ n : Nat, ∀ (j : Nat) (f : Field), fs[j]? = some f → ∃ (v : Value) (y : DataW H × List MemPlace), w.cell? (a.add (i * fs.size + j)) = some v ∧ DataW.trod enc P w base spare held n f.type [v] = some y := by
  rcases open_slice ht h with h0 | ⟨a, len, cap, m, n, D, Pl, hcs, hb, hl, hm, hmm, hx, hi⟩
  · exact .inl h0.1
  · refine .inr ⟨a, len, cap, hcs, hl, hm, fun i him => ?_⟩
    obtain ⟨cs', hc, ht'⟩ := hi i (by rw [hmm]; split <;> omega)
    rw [hC] at hc
    obtain ⟨ys, n', hn', hy, hlen, hyl, hf⟩ := DataW.trod_struct he ht'
    obtain ⟨_, hcl, hat⟩ := World.cells?_some hc
    refine ⟨n', fun j f hj => ?_⟩
    obtain ⟨ho, hk⟩ := hone_of hone j f hj
    have hjl : j < fs.size := (Array.getElem?_eq_some_iff.1 hj).1
    have hcell := hat j hjl
    have hv : cs'[j]? = some (cs'[j]'(by omega)) := List.getElem?_eq_getElem (by omega)
    have h1 := hf j f hj
    rw [ho, hk] at h1
    have hone' : (cs'.drop j).take 1 = [cs'[j]'(by omega)] := by
      rw [List.drop_eq_getElem_cons (by omega)]
      rfl
    rw [hone'] at h1
    have hys : ys[j]? = some (ys[j]'(by omega)) := List.getElem?_eq_getElem (by omega)
    refine ⟨_, _, ?_, h1.trans hys⟩
    rw [← Go.Deep.add_add, hcell, hv]
end
theorem i64_bounds {x : Int} (h : (Lit.int .i64 x).wf = true) : -9223372036854775808 ≤ x ∧ x ≤ 9223372036854775807 := by
  simp [Lit.wf, IntKind.min, IntKind.max, IntKind.signed, IntKind.bits] at h
  omega

section
variable {H : Type} {enc : TypeId × Value → H} {w : World} {base : Nat} {held : Bool}
/-- the calls of pigeonloftlaw11. -/
theorem open_ops {fuel : Nat} {A : Option Addr} {len cap : Nat} {x : DataW H × List MemPlace} (hf : DataW.trod enc Try.prog w base (fun _ => true) held fuel 22 [.slice A len cap] = some x) :
    ∃ ops : List OpM, ops.length = len ∧ OpsAt w A ops := by
  have hmm : maxLen = 9223372036854775807 := by decide
  rcases open_slice_fields Try.underlying22 Try.underlying32 (by kernel_rfl) (by kernel_rfl) hf with hcs | ⟨a, len', cap', hcs, hl, hm, hi⟩
  · simp at hcs
    obtain ⟨rfl, rfl, rfl⟩ := hcs
    exact ⟨[], rfl, by simp, fun h => absurd h (by simp)⟩
  · simp at hcs
    obtain ⟨rfl, rfl, rfl⟩ := hcs
    have key : ∀ i, i < len → ∃ m : OpM, ∀ g o, a = ⟨g, o, none⟩ → OpAt w g (o + i * 5) m := by
      intro i hil
      obtain ⟨n, hn⟩ := hi i hil
      obtain ⟨v0, y0, c0, t0⟩ := hn 0 _ rfl
      obtain ⟨v1, y1, c1, t1⟩ := hn 1 _ rfl
      obtain ⟨v2, y2, c2, t2⟩ := hn 2 _ rfl
      obtain ⟨v3, y3, c3, t3⟩ := hn 3 _ rfl
      obtain ⟨v4, y4, c4, t4⟩ := hn 4 _ rfl
      obtain ⟨x0, e0, _, w0⟩ := DataW.trod_int Try.underlying3 t0
      obtain ⟨x1, e1, _, w1⟩ := DataW.trod_int Try.underlying3 t1
      obtain ⟨x2, e2, _, w2⟩ := DataW.trod_int Try.underlying3 t2
      obtain ⟨a3, n3, cp3, e3⟩ := Go.Joins.slice_form Try.underlying28 t3
      obtain ⟨a4, n4, cp4, e4⟩ := Go.Joins.slice_form Try.underlying29 t4
      simp only [List.cons.injEq, and_true] at e0 e1 e2 e3 e4
      subst e0 e1 e2 e3 e4
      obtain ⟨l3, hl3, hm3, hs3⟩ := open_bytes t3
      obtain ⟨l4, hl4, hm4, hs4⟩ := open_boolsAt t4
      refine ⟨⟨x0, x1, x2, a3, cp3, l3, a4, cp4, l4⟩, ?_⟩
      rintro g o rfl
      rw [Addr.add_mid] at c0 c1 c2 c3 c4
      subst hl3 hl4
      exact ⟨c0, c1, c2, c3, c4, hs3, hs4, hm3, hm4, i64_bounds w1, i64_bounds w2, i64_bounds w0⟩
    obtain ⟨M, hM⟩ := Classical.axiomOfChoice (r := fun (i : Fin len) (m : OpM) => ∀ g o, a = ⟨g, o, none⟩ → OpAt w g (o + i * 5) m) (fun i => key i i.2)
    refine ⟨(List.finRange len).map M, by simp, by simp; omega, fun h => ?_⟩
    simp at h
    obtain ⟨n, hn⟩ := hi 0 h
    obtain ⟨v0, y0, c0, t0⟩ := hn 0 _ rfl
    obtain ⟨g, o, rfl⟩ := spot_at (by simpa using c0)
    refine ⟨g, o, rfl, ?_, fun k hk => ?_⟩
    · have := cell_lt' c0
      simpa [Addr.add] using this
    · simp at hk
      simpa using hM ⟨k, hk⟩ g o rfl
end
end Go.Proofs.Ytnnhklembdaieaa
