/- General words for memory: a block that is known whole, a frame with a footprint; laws for a variable that is made and stored into at once. No program in sight. -/
import Derived.WalkKit
import Derived.WalkSpells
import Derived.WalkLawsBesides
import Derived.Deep.MidRow
import Derived.Deep.Draws
import Derived.Deep.AppendLies
import Derived.BigQuiet
import Derived.Deep.RegionHeld3
import Derived.Deep.DrawnRows
namespace Go.Proofs.Ytnnhklembdaieaa
open Go.RowKit

/-- block g is just the cells cs of element type t, none frozen. -/
def Blk (w : World) (g : Nat) (t : TypeId) (cs : Array Value) : Prop := w.heap[g]? = some (.cells cs t (0, 0))

/-- w' is w but for the blocks of S and new ones. -/
structure Fr (S : Nat → Prop) (w w' : World) : Prop where
  os : w'.os = w.os
  tape : w'.tape = w.tape
  output : w'.output = w.output
  size : w.heap.size ≤ w'.heap.size
  block : ∀ k, k < w.heap.size → ¬ S k → w'.heap[k]? = w.heap[k]?

section
variable {w w' w1 w2 : World} {g : Nat} {t : TypeId} {cs : Array Value} {S T : Nat → Prop}

theorem Blk.lt (h : Blk w g t cs) : g < w.heap.size := by
  rcases Nat.lt_or_ge g w.heap.size with hlt | hge
  · exact hlt
  · unfold Blk at h; rw [Array.getElem?_eq_none hge] at h; cases h
theorem Blk.cell (h : Blk w g t cs) (i : Nat) : w.cell? ⟨g, i, none⟩ = cs[i]? := cell_of_row w g i cs t (0, 0) h
theorem Blk.frozen (h : Blk w g t cs) (i : Nat) : w.frozen? ⟨g, i, none⟩ = false := by
  unfold Blk at h
  simp [World.frozen?, h]
theorem Blk.new (w : World) (t : TypeId) (cs : Array Value) : Blk (w.alloc (.cells cs t)) w.heap.size t cs := heap_alloc_new w _
theorem Blk.drew (h : Blk w g t cs) : Blk w.drew g t cs := h
theorem Blk.drewN (h : Blk w g t cs) (n : Nat) : Blk (w.drewN n) g t cs := h
theorem Blk.alloc (h : Blk w g t cs) (o : Obj) : Blk (w.alloc o) g t cs := (Below.heap_alloc w o g h.lt).trans h
theorem Blk.set_ (h : Blk w g t cs) (i : Nat) (u : Value) : Blk (w.setCell ⟨g, i, none⟩ u) g t (cs.setIfInBounds i u) := by
  unfold Blk at h ⊢
  simp [World.setCell, Array.getElem?_modify, h]
theorem Blk.far (h : Blk w g t cs) {p : Addr} (hp : g ≠ p.block) (u : Value) : Blk (w.setCell p u) g t cs := (Below.heap_setCell w p u g hp).trans h
theorem Blk.below {B : Nat} (h : Blk w g t cs) (hb : Below B w w') (hg : g < B) : Blk w' g t cs := (hb.block g hg).trans h
theorem Blk.grown {row : Option Nat} (h : Blk w g t cs) (hb : w.grownBy w' row) (hg : some g ≠ row) : Blk w' g t cs := (hb.block g h.lt hg).trans h
theorem Blk.fr (h : Blk w g t cs) (hf : Fr S w w') (hg : ¬ S g) : Blk w' g t cs := (hf.block g h.lt hg).trans h
theorem Blk.ne_ {g' : Nat} {t' : TypeId} {cs' : Array Value} (h : Blk w g t cs) (h' : Blk w g' t' cs') (hne : t ≠ t') : g ≠ g' := by
  rintro rfl
  unfold Blk at h h'
  rw [h] at h'
  injection h' with h'
  injection h' with _ ht
  exact hne ht
theorem Blk.same_ {cs' : Array Value} {t' : TypeId} (h : Blk w g t cs) (h' : Blk w g t' cs') : cs = cs' ∧ t = t' := by
  unfold Blk at h h'
  rw [h] at h'
  injection h' with h'
  injection h' with h1 h2
  exact ⟨h1, h2⟩

/-- a row with other cells from o on. -/
def splice (cs : List Value) (o : Nat) (vs : List Value) : List Value := cs.take o ++ (vs ++ cs.drop (o + vs.length))
theorem splice_length (cs : List Value) (o : Nat) (vs : List Value) (h : o + vs.length ≤ cs.length) : (splice cs o vs).length = cs.length := by
  unfold splice; simp; omega
theorem splice_nil (cs : List Value) (o : Nat) : splice cs o [] = cs := by simp [splice]
theorem splice_cons (cs : List Value) (o : Nat) (v : Value) (r : List Value) (h : o < cs.length) : splice (cs.set o v) (o + 1) r = splice cs o (v :: r) := by
  unfold splice
  have e1 : (cs.set o v).take (o + 1) = cs.take o ++ [v] := by
    rw [List.take_succ_eq_append_getElem (by simpa using h), List.take_set_of_le (Nat.le_refl _)]; simp
  have e2 : (cs.set o v).drop (o + 1 + r.length) = cs.drop (o + (v :: r).length) := by
    rw [List.drop_set_of_lt (by omega), List.length_cons]; congr 1; omega
  rw [e1, e2]; simp
theorem splice_all (cs vs : List Value) (h : vs.length = cs.length) : splice cs 0 vs = vs := by
  unfold splice; simp [h]

/-- several cells stored into a block that is known whole. -/
theorem Blk.sets (g : Nat) (t : TypeId) : ∀ (vs : List Value) (o : Nat) (w : World) (cs : List Value), Blk w g t cs.toArray → o + vs.length ≤ cs.length →
    Blk (w.setCells g o vs) g t (splice cs o vs).toArray
  | [], o, w, cs, h, _ => by simpa [World.setCells, splice_nil] using h
  | v :: r, o, w, cs, h, hl => by
    simp only [List.length_cons] at hl
    have h1 := Blk.sets g t r (o + 1) (w.setCell ⟨g, o, none⟩ v) (cs.set o v) (by simpa using h.set_ o v) (by simp; omega)
    rw [World.setCells, ← splice_cons cs o v r (by omega)]
    exact h1

theorem setCells_heap_far (g : Nat) : ∀ (vs : List Value) (o : Nat) (w : World) (k : Nat), k ≠ g → (w.setCells g o vs).heap[k]? = w.heap[k]?
  | [], _, _, _, _ => rfl
  | v :: r, o, w, k, hk => by
    rw [World.setCells, setCells_heap_far g r _ _ k hk]
    exact Below.heap_setCell w ⟨g, o, none⟩ v k hk
theorem setCells_size (g : Nat) : ∀ (vs : List Value) (o : Nat) (w : World), (w.setCells g o vs).heap.size = w.heap.size
  | [], _, _ => rfl
  | v :: r, o, w => by rw [World.setCells, setCells_size g r]; simp
theorem setCells_os (g : Nat) : ∀ (vs : List Value) (o : Nat) (w : World), (w.setCells g o vs).os = w.os ∧ (w.setCells g o vs).tape = w.tape ∧ (w.setCells g o vs).output = w.output
  | [], _, _ => ⟨rfl, rfl, rfl⟩
  | v :: r, o, w => by rw [World.setCells]; exact setCells_os g r _ _
theorem Blk.farSets (h : Blk w g t cs) {g' : Nat} (hp : g ≠ g') (o : Nat) (vs : List Value) : Blk (w.setCells g' o vs) g t cs :=
  (setCells_heap_far g' vs o w g hp).trans h

/-- the cells of a block from o on lie there. -/
theorem Blk.range {l : List Value} (h : Blk w g t l.toArray) (o n : Nat) (_hn : o + n ≤ l.length) : w.rangeAt g o ((l.drop o).take n) := fun j v hv => by
  rw [h.cell]
  have hj : j < n := by
    have := (List.getElem?_eq_some_iff.1 hv).1
    simp at this; omega
  rw [List.getElem?_take_of_lt hj, List.getElem?_drop] at hv
  simpa using hv
theorem Blk.rangeAll {l : List Value} (h : Blk w g t l.toArray) : w.rangeAt g 0 l := fun j v hv => by
  rw [h.cell]; simpa using hv
theorem Blk.there_ (h : Blk w g t cs) (o n : Nat) (hn : o + n ≤ cs.size) : w.there g o n := fun j hj => by
  rw [h.cell, h.frozen]
  simp only [and_true]
  rw [Array.getElem?_eq_getElem (by omega)]; rfl

/-! ### the frame -/
theorem Fr.refl (S : Nat → Prop) (w : World) : Fr S w w := ⟨rfl, rfl, rfl, Nat.le_refl _, fun _ _ _ => rfl⟩
theorem Fr.trans {w0 : World} (h : Fr S w0 w) (h' : Fr T w w') (hs : ∀ k, T k → S k ∨ w0.heap.size ≤ k) : Fr S w0 w' :=
  ⟨h'.os.trans h.os, h'.tape.trans h.tape, h'.output.trans h.output, Nat.le_trans h.size h'.size, fun k hk hS =>
    (h'.block k (Nat.lt_of_lt_of_le hk h.size) (fun hT => by rcases hs k hT with h1 | h1; exact hS h1; omega)).trans (h.block k hk hS)⟩
theorem Fr.mono (h : Fr S w w') (hs : ∀ k, S k → T k) : Fr T w w' := ⟨h.os, h.tape, h.output, h.size, fun k hk hT => h.block k hk (fun hS => hT (hs k hS))⟩
theorem Fr.monoNew (h : Fr S w w') (hs : ∀ k, S k → T k ∨ w.heap.size ≤ k) : Fr T w w' :=
  ⟨h.os, h.tape, h.output, h.size, fun k hk hT => h.block k hk (fun hS => by rcases hs k hS with h1 | h1; exact hT h1; omega)⟩
theorem Fr.alloc (h : Fr S w w') (o : Obj) : Fr S w (w'.alloc o) :=
  ⟨h.os, h.tape, h.output, Nat.le_trans h.size (by simp), fun k hk hS => (Below.heap_alloc w' o k (Nat.lt_of_lt_of_le hk h.size)).trans (h.block k hk hS)⟩
theorem Fr.drew (h : Fr S w w') : Fr S w w'.drew := ⟨h.os, h.tape, h.output, h.size, h.block⟩
theorem Fr.drewN (h : Fr S w w') (n : Nat) : Fr S w (w'.drewN n) := ⟨h.os, h.tape, h.output, h.size, h.block⟩
theorem Fr.setCell (h : Fr S w w') {p : Addr} (hp : S p.block ∨ w.heap.size ≤ p.block) (u : Value) : Fr S w (w'.setCell p u) :=
  ⟨h.os, h.tape, h.output, by simpa using h.size, fun k hk hS => (Below.heap_setCell w' p u k (by
    rintro rfl
    rcases hp with hp | hp
    · exact hS hp
    · omega)).trans (h.block k hk hS)⟩
theorem Fr.setCells (h : Fr S w w') {b : Nat} (hp : S b ∨ w.heap.size ≤ b) (o : Nat) (vs : List Value) : Fr S w (w'.setCells b o vs) := by
  obtain ⟨e1, e2, e3⟩ := setCells_os b vs o w'
  exact ⟨e1.trans h.os, e2.trans h.tape, e3.trans h.output, by rw [setCells_size]; exact h.size, fun k hk hS => (setCells_heap_far b vs o w' k (by
    rintro rfl
    rcases hp with hp | hp
    · exact hS hp
    · omega)).trans (h.block k hk hS)⟩
theorem Fr.grown (h : Fr S w w') {row : Option Nat} (hg : w'.grownBy w2 row) (hr : ∀ k, row = some k → S k ∨ w.heap.size ≤ k) : Fr S w w2 :=
  ⟨hg.os.trans h.os, hg.tape.trans h.tape, hg.output.trans h.output, Nat.le_trans h.size hg.size, fun k hk hS =>
    (hg.block k (Nat.lt_of_lt_of_le hk h.size) (fun e => by rcases hr k e.symm with h1 | h1; exact hS h1; omega)).trans (h.block k hk hS)⟩
theorem Fr.ofBelow {B : Nat} (h : Below B w w') : Fr (fun k => B ≤ k) w w' := ⟨h.os, h.tape, h.output, h.size, fun k _ hS => h.block k (by omega)⟩
theorem Fr.below (h : Fr S w w') {B : Nat} (hB : B ≤ w.heap.size) (hs : ∀ k, S k → B ≤ k) : Below B w w' :=
  ⟨h.os, h.tape, h.output, h.size, fun k hk => h.block k (by omega) (fun hS => by have := hs k hS; omega)⟩
theorem Fr.belowThis (h : Fr S w w') (hs : ∀ k, ¬ S k) : Below w.heap.size w w' := h.below (Nat.le_refl _) (fun k hS => absurd hS (hs k))
/-- nothing that was there turned. -/
def nob : Nat → Prop := fun _ => False
theorem Fr.cell (h : Fr S w w') {p : Addr} (hp : p.block < w.heap.size) (hS : ¬ S p.block) : w'.cell? p = w.cell? p := World.cell?_of_block (w := w) (h.block _ hp hS)
theorem Fr.own {base : Nat} {e : TypeId} {size n : Nat} {v : Value} {xs : List Value} (h : w.ownsRow base e size v n xs) (hf : Fr S w w') (hS : ∀ k, v.ownBlock = some k → ¬ S k) : w'.ownsRow base e size v n xs := by
  refine ⟨h.1, ?_⟩
  rcases h.2 with h2 | ⟨g, cap, cur, hv, hb, hh, r⟩
  · exact .inl h2
  · refine .inr ⟨g, cap, cur, hv, hb, ?_, r⟩
    have hlt := (h.lt g (by rw [hv]; rfl)).2
    rw [hf.block g hlt (hS g (by rw [hv]; rfl))]; exact hh
theorem own_ne {base : Nat} {e : TypeId} {size n : Nat} {v : Value} {xs : List Value} (h : w.ownsRow base e size v n xs) (hg : Blk w g t cs) (hne : e ≠ t) : v.ownBlock ≠ some g := by
  rcases h.2 with ⟨rfl, _⟩ | ⟨g', cap, cur, rfl, _, hh, _⟩
  · simp [Value.ownBlock]
  · intro he
    have : g' = g := by simpa [Value.ownBlock] using he
    subst this
    exact Blk.ne_ (t := e) hh hg hne rfl
end

theorem hide {p : Prop} (h : p) : Hid p := h
theorem quiet_left {P : Program} {f : FuncId} {args : Array Value} {w : World} {n : Nat} {v : Value}
    (h : Calls P f args (w.drewN n) fun e w' => e = .returned v ∧ w.drewN n = w') : Calls P f args (w.drewN n) fun e w'' => e = .returned v ∧ ∃ m, w'' = w.drewN m :=
  h.mono fun _ _ ⟨he, hm⟩ => ⟨he, n, hm.symm⟩
theorem quiet_add_left {P : Program} {f : FuncId} {args : Array Value} {w : World} {a n : Nat} {v : Value}
    (h : Calls P f args (w.drewN (a + n)) fun e w' => e = .returned v ∧ w.drewN (a + n) = w') :
    Calls P f args (w.drewN (a + n)) fun e w'' => e = .returned v ∧ ∃ m, w'' = w.drewN (a + m) :=
  h.mono fun _ _ ⟨he, hm⟩ => ⟨he, n, hm.symm⟩

/-! ### a variable of several cells: made, and stored into -/
theorem alloc_setCells (w : World) (t : TypeId) (zs vs : List Value) (h : vs.length = zs.length) :
    (w.alloc (.cells zs.toArray t)).setCells w.heap.size 0 vs = w.alloc (.cells vs.toArray t) := by
  have h1 := Blk.sets w.heap.size t vs 0 _ zs (Blk.new w t zs.toArray) (by omega)
  rw [splice_all zs vs h] at h1
  have h2 := setCells_heap_far w.heap.size vs 0 (w.alloc (.cells zs.toArray t))
  have h3 := setCells_os w.heap.size vs 0 (w.alloc (.cells zs.toArray t))
  have h4 := setCells_size w.heap.size vs 0 (w.alloc (.cells zs.toArray t))
  have h5 : ((w.alloc (.cells zs.toArray t)).setCells w.heap.size 0 vs).drawn = w.drawn := by
    have : ∀ (vs : List Value) (o : Nat) (w : World) (g : Nat), (w.setCells g o vs).drawn = w.drawn := by
      intro vs
      induction vs with
      | nil => intro o w g; rfl
      | cons v r ih => intro o w g; rw [World.setCells, ih]; rfl
    rw [this]; rfl
  generalize (w.alloc (.cells zs.toArray t)).setCells w.heap.size 0 vs = W at *
  have hh : W.heap = (w.alloc (.cells vs.toArray t)).heap := by
    apply Array.ext_getElem?
    intro k
    by_cases hk : k = w.heap.size
    · subst hk
      rw [show W.heap[w.heap.size]? = _ from h1, heap_alloc_new]
    · rw [h2 k hk]
      by_cases hl : k < w.heap.size
      · rw [Below.heap_alloc _ _ _ hl, Below.heap_alloc _ _ _ hl]
      · rw [Array.getElem?_eq_none (by simp; omega), Array.getElem?_eq_none (by simp; omega)]
  cases W
  simp only [World.alloc] at *
  simp only [World.mk.injEq]
  exact ⟨hh, h3.2.1, h5, h3.1, h3.2.2⟩

section
variable {P : Program} {ops : Array Oper} {rest : List Oper} {o : Oper} {a : Act} {w : World} {Q : Exit → Act → World → Prop}
theorem run_alloc_row (ty : TypeId) (n : Nat) (hz : (P.info? ty).map (fun i => i.zero.map (·.cells.size)) = some (some n)) :
    ∃ zs : List Value, zs.length = n ∧ ∀ w : World, (Instr.alloc ty true (.tuple #[])).run P w = .ok (.pointer (some ⟨w.heap.size, 0, none⟩)) (w.alloc (.cells zs.toArray ty)) := by
  obtain ⟨i, hi, h2⟩ := Option.map_eq_some_iff.1 hz
  obtain ⟨z, hz1, h3⟩ := Option.map_eq_some_iff.1 h2
  refine ⟨z.cells.toList, by simpa using h3, fun w => ?_⟩
  simp [Instr.alloc, zeroValue, typeInfo, hi, hz1, newVar, newRow]
theorem wpList_alloc_row (hgd : o.guard = none) (ty : TypeId) (ho : o.op = .alloc ty) (n : Nat) (hz : (P.info? ty).map (fun i => i.zero.map (·.cells.size)) = some (some n))
    (h : ∀ zs : List Value, zs.length = n → wpList P ops Q rest (a.put o.dst (.pointer (some ⟨w.heap.size, 0, none⟩))) (w.alloc (.cells zs.toArray ty))) : wpList P ops Q (o :: rest) a w :=
  wpList_plain hgd fun K hK => by
    obtain ⟨zs, hn, hr⟩ := run_alloc_row (P := P) ty n hz
    unfold Oper.wp execOp
    simp only [ho, Sem.run_bind, Sem.run_pure, Result.andThen_ok, hr w]
    exact hK _ _ (h zs hn)
theorem wpList_store_new (hgd : o.guard = none) (ty : TypeId) (x y : Operand) (ho : o.op = .store ty x y) (zs vs : List Value)
    (hx : a.eval x = .pointer (some ⟨w.heap.size, 0, none⟩)) (hy : a.eval y = .agg vs.toArray) (hl : vs.length = zs.length)
    (hi : (P.info? ty).map (·.size) = some vs.length) (h1 : ∀ v ∈ vs, v.oneCell' = true)
    (h : wpList P ops Q rest (a.put o.dst undef) (w.alloc (.cells vs.toArray ty))) : wpList P ops Q (o :: rest) a (w.alloc (.cells zs.toArray ty)) := by
  have ht : (w.alloc (.cells zs.toArray ty)).there w.heap.size 0 vs.toArray.size := (Blk.new w ty zs.toArray).there_ 0 _ (by simp; omega)
  refine wpList_store_mid hgd ty x y ho w.heap.size 0 vs.toArray hx hy ht (by simpa using hi) (all_oneCell_toArray h1) ?_
  rw [alloc_setCells w ty zs vs hl]
  exact h
end
theorem own_shape {w : World} {base : Nat} {e : TypeId} {size n : Nat} {v : Value} {xs : List Value} (h : w.ownsRow base e size v n xs) :
    ∃ A cap, v = .slice A n cap ∧ n ≤ cap ∧ cap ≤ maxLen ∧ (0 < n → ∃ g, A = some ⟨g, 0, none⟩ ∧ base ≤ g ∧ g < w.heap.size ∧ w.rangeAt g 0 xs) := by
  rcases h.2 with ⟨rfl, rfl⟩ | ⟨g, cap, cur, hv, hb, hh, hn, hc, hsz, ht⟩
  · exact ⟨none, 0, rfl, Nat.le_refl _, by simp [maxLen], fun h => absurd h (by omega)⟩
  · refine ⟨_, cap, hv, hn, hc, fun _ => ⟨g, rfl, hb, Blk.lt hh, fun j v hv' => ?_⟩⟩
    have := h.cells (g := g) (by rw [hv]; rfl) j v hv'
    rw [Addr.add_mid] at this
    exact this
theorem range_sub {w : World} {g o : Nat} {xs : List Value} (h : w.rangeAt g o xs) (k m : Nat) (ys : List Value) (hys : (xs.drop k).take m = ys) : w.rangeAt g (o + k) ys := fun j v hv => by
  subst hys
  have hj : j < m := by
    have := (List.getElem?_eq_some_iff.1 hv).1
    simp at this; omega
  rw [List.getElem?_take_of_lt hj, List.getElem?_drop] at hv
  rw [Nat.add_assoc]
  exact h _ _ hv
theorem flat_at {α : Type} (f : α → List Value) (m : Nat) : ∀ (l : List α), (∀ x ∈ l, (f x).length = m) → ∀ (k : Nat) (hk : k < l.length), ((l.flatMap f).drop (k * m)).take m = f l[k]
  | x :: r, h, 0, _ => by
    have hx := h x (by simp)
    simp [← hx]
  | x :: r, h, k + 1, hk => by
    have hx := h x (by simp)
    have ih := flat_at f m r (fun y hy => h y (by simp [hy])) k (by simpa using hk)
    simp only [List.flatMap_cons, List.getElem_cons_succ]
    rw [List.drop_append, hx, List.drop_eq_nil_of_le (by rw [hx, Nat.succ_mul]; omega), List.nil_append, Nat.succ_mul, Nat.add_sub_cancel]
    exact ih
theorem news_one (w : World) (o : Obj) (x : Value) (t : TypeId) : ∀ j u, [x][j]? = some u → ((w.alloc o).alloc (.cells #[x] t)).cell? ((⟨w.heap.size + 1, 0, none⟩ : Addr).add j) = some u := by
  have := cell_one_new (w.alloc o) x t
  simpa using this

theorem take_snoc {α : Type} (l : List α) (k : Nat) (h : k < l.length) : l.take (k + 1) = l.take k ++ [l[k]] := List.take_succ_eq_append_getElem h
theorem infoN {P : Program} {e : TypeId} {l : List Value} {size bytes : Nat} (h : (P.info? e).map (fun i => (i.size, i.bytes, i.zero.map (·.cells.toList))) = some (size, bytes, some l)) :
    ∃ i z, P.info? e = some i ∧ i.zero = some z ∧ z.cells.toList = l ∧ i.size = size ∧ i.bytes = bytes := by
  obtain ⟨i, hi, h2⟩ := Option.map_eq_some_iff.1 h
  simp only [Prod.mk.injEq] at h2
  obtain ⟨h3, h4, h5⟩ := h2
  obtain ⟨z, hz, h6⟩ := Option.map_eq_some_iff.1 h5
  exact ⟨i, z, hi, hz, h6, h3, h4⟩
theorem madeCells_replicate (z : Array Value) (v : Value) (m k : Nat) (hm : 0 < m) (h : z.toList = List.replicate m v) : madeCells z k = (List.replicate k v).toArray := by
  have hz : z = (List.replicate m v).toArray := by rw [← h]
  subst hz
  apply Array.ext
  · simp [madeCells]
  · intro i h1 h2
    have : i % m < m := Nat.mod_lt _ hm
    simp [madeCells, this]

theorem fold_set (off : Nat) : ∀ (vs : List Value) (n : Nat) (cells : Array Value), off + n + vs.length ≤ cells.size →
    (vs.zipIdx n).foldl (fun cs p => cs.setIfInBounds (off + p.2) p.1) cells = (splice cells.toList (off + n) vs).toArray
  | [], n, cells, _ => by simp [splice_nil]
  | v :: r, n, cells, h => by
    simp only [List.length_cons] at h
    rw [List.zipIdx_cons, List.foldl_cons, fold_set off r (n + 1) _ (by simp; omega)]
    simp only [Array.toList_setIfInBounds]
    rw [← Nat.add_assoc, splice_cons _ _ _ _ (by simp; omega)]

theorem fill_one (place : Nat → Option (Nat × Nat)) (cells : Array Value) (i off size : Nat) (v : Value) (rest : List (Nat × Value)) (hp : place i = some (off, size)) (hs : v.cells.size = size) (hl : off + size ≤ cells.size) :
    Instr.fill place cells ((i, v) :: rest) = Instr.fill place (splice cells.toList off v.cells.toList).toArray rest := by
  have hf := fold_set off v.cells.toList 0 cells (by simp; omega)
  simp only [Instr.fill, hp]
  rw [if_neg (by simp; omega)]
  congr 1
  rw [← Array.foldl_toList]
  simpa using hf

theorem run_arrayAt {P : Program} {arr e : TypeId} {n : Nat} (hu : P.underlying arr = some (.array n e)) (A : Option Addr) (m c : Nat) (h : n ≤ m) (W : World) : (Instr.arrayAt arr (.slice A m c)).run P W = .ok (.pointer A) W := by
  have : ¬ m < n := by omega
  simp [Instr.arrayAt, run_underlying hu, this]

theorem run_buildSlice_one {P : Program} (t e : TypeId) (l : List Value) (size bytes : Nat) (ht : P.underlying t = some (.slice e)) (hin : (P.info? e).map (fun i => (i.size, i.bytes, i.zero.map (·.cells.toList))) = some (size, bytes, some l))
    (_hl : l.length = size) (hsz : 0 < size) (hsm : size ≤ 1000) (v : Value) (hv : v.cells.size = size) (W : World) :
    (Instr.buildSlice t 1 #[(0, v)]).run P W = .ok (.slice (some ⟨W.heap.size, 0, none⟩) 1 1) (W.alloc (.cells v.cells e)) := by
  obtain ⟨i0, z, hi, hz, hzl, hs, hb⟩ := infoN hin
  have h2 : Instr.fill (fun i => some (i * size, size)) ((Array.range size).map (z.cells[· % z.cells.size]!)) [(0, v)] = some v.cells := by
    rw [fill_one _ _ 0 0 size _ _ (by simp) hv (by simp)]
    simp only [Instr.fill]
    congr 1
    rw [splice_all _ _ (by simp [hv])]
  have h3 : ¬ 16777216 < size := by omega
  have h4 : ¬ size = 0 := by omega
  simp [Instr.buildSlice, run_underlying ht, sizeOf, typeInfo, hi, hs, h3, h4, zeroValue, hz, h2, newRow]
end Go.Proofs.Ytnnhklembdaieaa
