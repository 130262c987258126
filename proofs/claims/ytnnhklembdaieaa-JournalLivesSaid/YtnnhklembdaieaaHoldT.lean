/- A region that draws its order, two of whose chains of loud operations are free of each other: a tree of walks. No program in sight. -/
import Derived.Test.YtnnhklembdaieaaHold
namespace Go.Proofs.Ytnnhklembdaieaa
open Go Go.RowKit
set_option linter.unusedSimpArgs false
set_option linter.unusedVariables false

inductive HT where
  | leaf : HT
  | op : Nat → HT → HT
  | alt : Nat → HT → Nat → HT → HT

namespace HT
def set : HT → List Nat
  | leaf => []
  | op i t => i :: set t
  | alt i t _ _ => i :: set t
def take (i : Nat) : HT → HT
  | leaf => leaf
  | op k t => if k = i then t else op k (take i t)
  | alt j t k u => if j = i then t else if k = i then u else alt j (take i t) k (take i u)
end HT

section
variable {P : Program} {ops : Array Oper} {S : World → Prop} {loud : Nat → Bool}

def wB (A : Array Nat) (i k : Nat) : Bool := (A.getD i 0).testBit k
def freeB (ops : Array Oper) (loud : Nat → Bool) (k i : Nat) : Bool := match ops[k]?, ops[i]? with
  | some ok, some oi => ok.apart ops oi && !(loud k && loud i)
  | _, _ => false
theorem freeB_spec {k i : Nat} (h : freeB ops loud k i = true) : ∃ ok oi, ops[k]? = some ok ∧ ops[i]? = some oi ∧ ok.apart ops oi = true ∧ ¬ (loud k = true ∧ loud i = true) := by
  unfold freeB at h
  split at h
  · rename_i oj oi e1 e2
    simp only [Bool.and_eq_true, Bool.not_eq_true', Bool.and_eq_false_iff] at h
    exact ⟨oj, oi, e1, e2, h.1, fun ⟨x, y⟩ => by rcases h.2 with h3 | h3 <;> simp_all⟩
  · cases h

def goodB (ops : Array Oper) (loud : Nat → Bool) (A : Array Nat) : HT → Bool
  | .leaf => true
  | .op k t => !(t.set.contains k) && t.set.all (fun i => wB A i k || freeB ops loud k i) && goodB ops loud A t
  | .alt j t k u => decide (j ≠ k) && !(t.set.contains j) && !(u.set.contains k) && loud j && loud k && t.set.contains k && u.set.contains j &&
      t.set.all (fun x => decide (x = k) || u.set.contains x) && u.set.all (fun x => decide (x = j) || t.set.contains x) &&
      t.set.all (fun i => decide (i = k) || wB A i j || wB A i k || (freeB ops loud j i && freeB ops loud k i)) && goodB ops loud A t && goodB ops loud A u

def Good (ops : Array Oper) (loud : Nat → Bool) (A : Array Nat) : HT → Prop
  | .leaf => True
  | .op k t => k ∉ t.set ∧ (∀ i ∈ t.set, wB A i k = true ∨ freeB ops loud k i = true) ∧ Good ops loud A t
  | .alt j t k u => j ≠ k ∧ j ∉ t.set ∧ k ∉ u.set ∧ loud j = true ∧ loud k = true ∧ k ∈ t.set ∧ j ∈ u.set ∧ (∀ x ∈ t.set, x = k ∨ x ∈ u.set) ∧ (∀ x ∈ u.set, x = j ∨ x ∈ t.set) ∧
      (∀ i ∈ t.set, i = k ∨ wB A i j = true ∨ wB A i k = true ∨ (freeB ops loud j i = true ∧ freeB ops loud k i = true)) ∧ Good ops loud A t ∧ Good ops loud A u
theorem good_of {A : Array Nat} : ∀ (t : HT), goodB ops loud A t = true → Good ops loud A t
  | .leaf, _ => trivial
  | .op k t, h => by
    simp only [goodB, Bool.and_eq_true, Bool.not_eq_true', List.all_eq_true, Bool.or_eq_true] at h
    exact ⟨by simpa using h.1.1, h.1.2, good_of t h.2⟩
  | .alt j t k u, h => by
    simp only [goodB, Bool.and_eq_true, Bool.not_eq_true', List.all_eq_true, Bool.or_eq_true, decide_eq_true_eq] at h
    obtain ⟨⟨⟨⟨⟨⟨⟨⟨⟨⟨⟨h1, h2⟩, h3⟩, h4⟩, h5⟩, h6⟩, h7⟩, h8⟩, h9⟩, h10⟩, h11⟩, h12⟩ := h
    refine ⟨h1, by simpa using h2, by simpa using h3, h4, h5, by simpa using h6, by simpa using h7, fun x hx => by simpa using h8 x hx, fun x hx => by simpa using h9 x hx, fun i hi => ?_, good_of t h11, good_of u h12⟩
    rcases h10 i hi with ((h | h) | h) | h
    · exact .inl h
    · exact .inr (.inl h)
    · exact .inr (.inr (.inl h))
    · exact .inr (.inr (.inr h))

theorem mem_take {A : Array Nat} {i : Nat} : ∀ (t : HT), Good ops loud A t → ∀ x, x ∈ (t.take i).set ↔ x ∈ t.set ∧ x ≠ i
  | .leaf, _, x => by simp [HT.take, HT.set]
  | .op k t, h, x => by
    obtain ⟨h1, h2, h3⟩ := h
    unfold HT.take
    by_cases hk : k = i
    · subst hk
      simp only [if_true, HT.set, List.mem_cons]
      constructor
      · exact fun hx => ⟨.inr hx, fun e => h1 (e ▸ hx)⟩
      · rintro ⟨hx | hx, hn⟩
        · exact absurd hx hn
        · exact hx
    · simp only [hk, if_false, HT.set, List.mem_cons, mem_take t h3 x]
      constructor
      · rintro (rfl | hx)
        · exact ⟨.inl rfl, hk⟩
        · exact ⟨.inr hx.1, hx.2⟩
      · rintro ⟨rfl | hx, hn⟩
        · exact .inl rfl
        · exact .inr ⟨hx, hn⟩
  | .alt j t k u, h, x => by
    obtain ⟨h1, h2, h3, _, _, h6, h7, h8, h9, _, h11, h12⟩ := h
    unfold HT.take
    by_cases hj : j = i
    · subst hj
      simp only [if_true, HT.set, List.mem_cons]
      constructor
      · exact fun hx => ⟨.inr hx, fun e => h2 (e ▸ hx)⟩
      · rintro ⟨hx | hx, hn⟩
        · exact absurd hx hn
        · exact hx
    · by_cases hk : k = i
      · subst hk
        simp only [hj, if_false, if_true, HT.set, List.mem_cons]
        constructor
        · exact fun hx => ⟨h9 x hx, fun e => h3 (e ▸ hx)⟩
        · rintro ⟨rfl | hx, hn⟩
          · exact h7
          · exact (h8 x hx).resolve_left hn
      · simp only [hj, hk, if_false, HT.set, List.mem_cons, mem_take t h11 x]
        constructor
        · rintro (rfl | hx)
          · exact ⟨.inl rfl, hj⟩
          · exact ⟨.inr hx.1, hx.2⟩
        · rintro ⟨rfl | hx, hn⟩
          · exact .inl rfl
          · exact .inr ⟨hx, hn⟩

theorem good_take {A : Array Nat} {i : Nat} : ∀ (t : HT), Good ops loud A t → Good ops loud A (t.take i)
  | .leaf, _ => trivial
  | .op k t, h => by
    have h' := h
    obtain ⟨h1, h2, h3⟩ := h
    unfold HT.take
    by_cases hk : k = i
    · simp only [hk, if_true]; exact h3
    · simp only [hk, if_false]
      exact ⟨fun hx => h1 ((mem_take t h3 k).1 hx).1, fun x hx => h2 x ((mem_take t h3 x).1 hx).1, good_take t h3⟩
  | .alt j t k u, h => by
    obtain ⟨h1, h2, h3, h4, h5, h6, h7, h8, h9, h10, h11, h12⟩ := h
    unfold HT.take
    by_cases hj : j = i
    · simp only [hj, if_true]; exact h11
    · by_cases hk : k = i
      · simp only [hj, if_false, hk, if_true]; exact h12
      · simp only [hj, hk, if_false]
        refine ⟨h1, fun hx => h2 ((mem_take t h11 j).1 hx).1, fun hx => h3 ((mem_take u h12 k).1 hx).1, h4, h5, (mem_take t h11 k).2 ⟨h6, hk⟩, (mem_take u h12 j).2 ⟨h7, hj⟩, fun x hx => ?_, fun x hx => ?_,
          fun x hx => h10 x ((mem_take t h11 x).1 hx).1, good_take t h11, good_take u h12⟩
        · have := (mem_take t h11 x).1 hx
          rcases h8 x this.1 with e | e
          · exact .inl e
          · exact .inr ((mem_take u h12 x).2 ⟨e, this.2⟩)
        · have := (mem_take u h12 x).1 hx
          rcases h9 x this.1 with e | e
          · exact .inl e
          · exact .inr ((mem_take t h11 x).2 ⟨e, this.2⟩)

def wpT (P : Program) (ops : Array Oper) (S : World → Prop) (loud : Nat → Bool) (F : Act → World → Prop) : HT → Act → World → Prop
  | .leaf => F
  | .op i t => hOp P ops S loud i (wpT P ops S loud F t)
  | .alt i t j u => fun a w => hOp P ops S loud i (wpT P ops S loud F t) a w ∧ hOp P ops S loud j (wpT P ops S loud F u) a w

theorem hOp_and {i : Nat} {oi : Oper} (hi : ops[i]? = some oi) (hl : loud i = false) {K K' : Act → World → Prop} {a : Act} {w : World} (hS : S w) (h : hOp P ops S loud i K a w) (h' : hOp P ops S loud i K' a w) :
    hOp P ops S loud i (fun a w => K a w ∧ K' a w) a w := by
  unfold hOp at *
  simp only [hi, hl, Bool.false_eq_true, if_false] at *
  obtain ⟨v, h1, h2⟩ := h
  obtain ⟨v', h1', h2'⟩ := h'
  have := YS.one hS h1 h1'
  subst this
  exact ⟨v, h1, h2, h2'⟩

theorem frontT (hsel : Region.noSelect ops = true) {A : Array Nat} {F : Act → World → Prop} {i : Nat} : ∀ (t : HT), Good ops loud A t → i ∈ t.set → (∀ k ∈ t.set, wB A i k = false) →
    ∀ (a : Act) (w : World), S w → wpT P ops S loud F t a w → hOp P ops S loud i (wpT P ops S loud F (t.take i)) a w
  | .leaf, _, hi, _, _, _, _, _ => by cases hi
  | .op k t, hg, hi, hr, a, w, hS, h => by
    obtain ⟨h1, h2, h3⟩ := hg
    unfold HT.take
    by_cases hk : k = i
    · subst hk; simp only [if_true]; exact h
    · simp only [hk, if_false]
      have hit : i ∈ t.set := by
        rcases List.mem_cons.1 hi with e | e
        · exact absurd e.symm hk
        · exact e
      obtain ⟨ok, oi, e1, e2, e3, e4⟩ := freeB_spec ((h2 i hit).resolve_left (by rw [hr k (List.mem_cons_self ..)]; simp))
      have h5 : hOp P ops S loud k (hOp P ops S loud i (wpT P ops S loud F (t.take i))) a w :=
        hOp_mono hS (fun a w hS h => frontT hsel t h3 hit (fun x hx => hr x (List.mem_cons_of_mem _ hx)) a w hS h) h
      exact swap e2 e1 e3 e4 (fun cs b => Region.noSelect_spec hsel i oi cs b e2) (fun cs b => Region.noSelect_spec hsel k ok cs b e1) hS h5
  | .alt j t k u, hg, hi, hr, a, w, hS, h => by
    obtain ⟨h1, h2, h3, h4, h5, h6, h7, h8, h9, h10, h11, h12⟩ := hg
    unfold HT.take
    by_cases hj : j = i
    · subst hj; simp only [if_true]; exact h.1
    · by_cases hk : k = i
      · subst hk; simp only [hj, if_false, if_true]; exact h.2
      · simp only [hj, hk, if_false]
        have hit : i ∈ t.set := by
          rcases List.mem_cons.1 hi with e | e
          · exact absurd e.symm hj
          · exact e
        have hiu : i ∈ u.set := (h8 i hit).resolve_left (Ne.symm hk)
        have hrt : ∀ x ∈ t.set, wB A i x = false := fun x hx => hr x (List.mem_cons_of_mem _ hx)
        have hrj : wB A i j = false := hr j (List.mem_cons_self ..)
        have hrk : wB A i k = false := hrt k h6
        have hru : ∀ x ∈ u.set, wB A i x = false := fun x hx => by
          rcases h9 x hx with e | e
          · rw [e]; exact hrj
          · exact hrt x e
        have hf : freeB ops loud j i = true ∧ freeB ops loud k i = true := by
          rcases h10 i hit with e | e | e | e
          · exact absurd e (Ne.symm hk)
          · rw [hrj] at e; cases e
          · rw [hrk] at e; cases e
          · exact e
        obtain ⟨oj, oi, e1, e2, e3, e4⟩ := freeB_spec hf.1
        obtain ⟨ok, oi', f1, f2, f3, f4⟩ := freeB_spec hf.2
        rw [e2] at f2
        obtain rfl : oi = oi' := Option.some.inj f2
        have hli : loud i = false := by
          cases hh : loud i with
          | false => rfl
          | true => exact absurd ⟨h4, hh⟩ e4
        have g1 : hOp P ops S loud j (hOp P ops S loud i (wpT P ops S loud F (t.take i))) a w :=
          hOp_mono hS (fun a w hS h => frontT hsel t h11 hit hrt a w hS h) h.1
        have g2 : hOp P ops S loud k (hOp P ops S loud i (wpT P ops S loud F (u.take i))) a w :=
          hOp_mono hS (fun a w hS h => frontT hsel u h12 hiu hru a w hS h) h.2
        have s1 := swap e2 e1 e3 e4 (fun cs b => Region.noSelect_spec hsel i oi cs b e2) (fun cs b => Region.noSelect_spec hsel j oj cs b e1) hS g1
        have s2 := swap e2 f1 f3 f4 (fun cs b => Region.noSelect_spec hsel i oi cs b e2) (fun cs b => Region.noSelect_spec hsel k ok cs b f1) hS g2
        exact hOp_and e2 hli hS s1 s2

def treeB (ops : Array Oper) (n : Nat) (loud : Nat → Bool) (t : HT) (done : List Nat) : Bool :=
  Region.noSelect ops && decide (n ≤ ops.size) && (List.range ops.size).all (fun j => decide (j < n) || t.set.all (fun i => wB (ancArr ops) j i)) && (goodB ops loud (ancArr ops) t && (List.range n).all (fun k => t.set.contains k || done.contains k) && t.set.all (fun k => decide (k < n) && !done.contains k)) && edgesB ops && Region.seqB .any ops (ops.size - n) n (canon ops n)

theorem holdT_any {Q : Exit → Act → World → Prop} {n : Nat} {F : Act → World → Prop} {t0 : HT} {done : List Nat} (hB : treeB ops n loud t0 done = true) :
    ∀ (f : Nat) (t : HT) (listed : Array Bool) (a : Act) (w : World), (todo n listed).length = f → HeadInv .any ops n listed → Good ops loud (ancArr ops) t → (∀ k, k ∈ t.set ↔ k < n ∧ listed.getD k true = false) → (∀ k ∈ t.set, k ∈ t0.set) → S w → wpT P ops S loud F t a w →
    wpAnyW P ops Q (fun listed a w => listed = canon ops n ∧ F a w) f listed a w := by
  simp only [treeB, Bool.and_eq_true, decide_eq_true_eq, Bool.or_eq_true, List.all_eq_true] at hB
  obtain ⟨⟨⟨⟨⟨hsel, hn⟩, ht⟩, _⟩, he⟩, _⟩ := hB
  intro f
  induction f with
  | zero =>
    intro t listed a w hlen inv hg hset hsub hS h
    have h0 : todo n listed = [] := List.eq_nil_of_length_eq_zero hlen
    have hmem : ∀ k, k ∈ todo n listed ↔ k < n ∧ listed.getD k true = false := fun k => by
      unfold todo; rw [List.mem_filter, List.mem_range]; simp
    have hno : ∀ k, k ∉ t.set := fun k hk => by
      have := (hmem k).2 ((hset k).1 hk)
      rw [h0] at this
      cases this
    have hleaf : t = .leaf := by
      cases t with
      | leaf => rfl
      | op k t => exact absurd (List.mem_cons_self ..) (hno k)
      | alt j t k u => exact absurd (List.mem_cons_self ..) (hno j)
    subst hleaf
    refine ⟨?_, h⟩
    apply Array.ext
    · rw [inv.size]; simp [canon]
    · intro i h1 h2
      have hi : i < ops.size := by rw [inv.size] at h1; exact h1
      have e2 : (canon ops n)[i] = decide (i < n) := by simp [canon]
      rw [e2]
      by_cases hin : i < n
      · have : i ∉ todo n listed := by rw [h0]; simp
        unfold todo at this
        rw [List.mem_filter] at this
        have h3 : ¬ (!listed.getD i true) = true := fun hh => this ⟨List.mem_range.2 hin, hh⟩
        simp [h1] at h3
        simp [h3, hin]
      · have := inv.tail i (by omega) hi
        simp [h1] at this
        simp [this, hin]
  | succ f ih =>
    intro t listed a w hlen inv hg hset hsub hS h
    have hne : todo n listed ≠ [] := fun e => by rw [e] at hlen; cases hlen
    obtain ⟨m, rest, hm⟩ : ∃ m rest, todo n listed = m :: rest := by
      cases hh : todo n listed with
      | nil => exact absurd hh hne
      | cons m rest => exact ⟨m, rest, rfl⟩
    have hmem : ∀ k, k ∈ todo n listed ↔ k < n ∧ listed.getD k true = false := fun k => by
      unfold todo; rw [List.mem_filter, List.mem_range]; simp
    have hm1 := (hmem m).1 (by rw [hm]; simp)
    have hsort : (todo n listed).Pairwise (· < ·) := List.Pairwise.filter _ List.pairwise_lt_range
    have hmr : m ∈ Region.ready .any ops listed := by
      rw [mem_ready]
      have hms : m < ops.size := by omega
      refine ⟨hm1.2, ops[m], Array.getElem?_eq_getElem hms, fun e hee hb => ?_⟩
      unfold edgesB at he
      have h1 := List.all_eq_true.1 he m (List.mem_range.2 hms)
      rw [Array.getElem?_eq_getElem hms] at h1
      have h2 := Array.all_eq_true_iff_forall_mem.1 h1 e hee
      simp only [hb, Bool.not_true, Bool.false_or, decide_eq_true_eq] at h2
      have h3 : e.on ∉ todo n listed := fun hin => by
        rw [hm] at hin hsort
        rcases List.mem_cons.1 hin with h4 | h4
        · omega
        · have := (List.pairwise_cons.1 hsort).1 _ h4
          omega
      have h4 : ¬ listed.getD e.on true = false := fun hh => h3 ((hmem e.on).2 ⟨by omega, hh⟩)
      have hes : e.on < listed.size := by rw [inv.size]; omega
      simp [hes] at h4 ⊢
      exact h4
    refine ⟨fun e => (by rw [e] at hmr; cases hmr), fun i hi => ?_⟩
    have hiu := (mem_ready.1 hi).1
    have hin : i < n := by
      obtain ⟨_, oi, hoi, _⟩ := mem_ready.1 hi
      have his := (Array.getElem?_eq_some_iff.1 hoi).1
      rcases ht i (List.mem_range.2 his) with hh | hh
      · exact hh
      · have h3 := ancArr_spec inv.closed hi (hh m (hsub m ((hset m).2 hm1)))
        rw [getD_both hm1.2] at h3
        cases h3
    have hit : i ∈ t.set := (hset i).2 ⟨hin, hiu⟩
    have hr : ∀ k ∈ t.set, wB (ancArr ops) i k = false := fun k hk => by
      cases hh : wB (ancArr ops) i k with
      | false => rfl
      | true =>
        have h3 := ancArr_spec inv.closed hi hh
        rw [getD_both ((hset k).1 hk).2] at h3
        cases h3
    have h1 := frontT hsel t hg hit hr a w hS h
    refine wpOp_of_hOp hS (fun a' w' hS' hk => ?_) h1
    obtain ⟨l1, l2, hl⟩ := List.append_of_mem ((hmem i).2 ⟨hin, hiu⟩)
    have ht' := todo_set (n := n) (listed := listed) (i := i) (by rw [inv.size]; exact hn) hl
    refine ih (t.take i) (listed.setIfInBounds i true) a' w' (by rw [ht']; rw [hl] at hlen; simp at hlen ⊢; omega) (inv.set hi hin) (good_take t hg) (fun k => ?_) (fun k hk => hsub k ((mem_take t hg k).1 hk).1) hS' hk
    rw [mem_take t hg k, hset k]
    have hls : i < listed.size := by rw [inv.size]; omega
    by_cases hki : k = i
    · subst hki
      simp [hls]
    · rw [getD_set_ne true (Ne.symm hki)]
      exact ⟨fun hh => hh.1, fun hh => ⟨hh, hki⟩⟩

/-- THE THEOREM. -/
theorem wpAny_holdT {Q : Exit → Act → World → Prop} {a : Act} {w : World} {l : List Oper} (n : Nat) (S : World → Prop) (loud : Nat → Bool) (t : HT) (done : List Nat) (hB : treeB l.toArray n loud t done = true) (listed : Array Bool)
    (inv0 : HeadInv .any l.toArray n listed) (hd : ∀ k, k < n → (listed.getD k true = true ↔ k ∈ done)) (hlen : (todo n listed).length = n - done.length) (hdn : done.length ≤ n)
    (hS : S w) (h : wpT P l.toArray S loud (fun a' w' => wpList P l.toArray Q (l.drop n) a' w') t a w) : wpAny P .any l.toArray Q (l.toArray.size - done.length) listed a w := by
  have hB' := hB
  simp only [treeB, Bool.and_eq_true, decide_eq_true_eq, List.all_eq_true, Bool.or_eq_true, Bool.not_eq_true'] at hB'
  obtain ⟨⟨⟨⟨⟨_, hn⟩, _⟩, ⟨⟨hg, hc1⟩, hc2⟩⟩, _⟩, hseq⟩ := hB'
  have H := holdT_any (Q := Q) (F := fun a' w' => wpList P l.toArray Q (l.drop n) a' w') hB (n - done.length) t listed a w hlen inv0 (good_of t hg) (fun k => by
    constructor
    · intro hk
      have hkn := hc2 k hk
      refine ⟨hkn.1, ?_⟩
      cases hh : listed.getD k true with
      | false => rfl
      | true =>
        have := (hd k hkn.1).1 hh
        have h2 := hkn.2
        rw [List.contains_iff_mem.2 this] at h2
        cases h2
    · intro hk
      rcases hc1 k (List.mem_range.2 hk.1) with hh | hh
      · simpa using hh
      · have := (hd k hk.1).2 (List.contains_iff_mem.1 hh)
        rw [hk.2] at this
        cases this) (fun k hk => hk) hS h
  have hdl : (l.drop n).length = l.toArray.size - n := by simp
  have := wpAny_of_W (Q := Q) (g := l.toArray.size - n) (fun listed a' w' hL => by
    obtain ⟨rfl, hL⟩ := hL
    have := wpAny_of_seq (md := .any) (Q' := Q) (l.drop n) n (canon l.toArray n) a' w' (fun j => by simp [List.getElem?_drop]) (by rw [hdl]; exact hseq) hL
    rwa [hdl] at this) _ _ _ _ H
  rwa [show n - done.length + (l.toArray.size - n) = l.toArray.size - done.length by omega] at this

/-! ### the walk, over the operations themselves -/
theorem hOp_of_held {F F' : Act → World → Prop} {i : Nat} {o : Oper} (hi : ops[i]? = some o) {a : Act} {w : World} (hS : S w) (hF : ∀ a w, S w → F a w → F' a w) (h : wpHeld P ops S (fun _ => loud i) F 0 [o] a w) : hOp P ops S loud i F' a w := by
  unfold hOp
  simp only [hi]
  unfold wpHeld at h
  split at h
  · rename_i hl
    simp only [hl, if_true]
    split at h
    · rename_i hw
      simp only [hw, if_true]
      exact Oper.wp_mono (fun a w hk => ⟨hk.1, hF _ _ hk.1 hk.2⟩) h
    · rename_i hw
      simp only [hw]
      exact hF _ _ hS h
  · rename_i hl
    simp only [hl]
    obtain ⟨v, h1, h2⟩ := h
    exact ⟨v, h1, hF _ _ hS h2⟩
/-- the tree's goals. -/
def wpHT (P : Program) (ops : Array Oper) (S : World → Prop) (loud : Nat → Bool) (F : Act → World → Prop) (l : List Oper) : HT → Act → World → Prop
  | .leaf => F
  | .op i t => fun a w => ∃ o, l[i]? = some o ∧ wpHeld P ops S (fun _ => loud i) (wpHT P ops S loud F l t) 0 [o] a w
  | .alt i t j u => fun a w => (∃ o, l[i]? = some o ∧ wpHeld P ops S (fun _ => loud i) (wpHT P ops S loud F l t) 0 [o] a w) ∧ ∃ o, l[j]? = some o ∧ wpHeld P ops S (fun _ => loud j) (wpHT P ops S loud F l u) 0 [o] a w
theorem wpT_of_HT {F : Act → World → Prop} {l : List Oper} (hl : ops = l.toArray) : ∀ (t : HT) (a : Act) (w : World), S w → wpHT P ops S loud F l t a w → wpT P ops S loud F t a w
  | .leaf, _, _, _, h => h
  | .op i t, a, w, hS, ⟨o, ho, h⟩ => hOp_of_held (by rw [hl]; simpa using ho) hS (fun a w hS h => wpT_of_HT hl t a w hS h) h
  | .alt i t j u, a, w, hS, ⟨⟨o, ho, h⟩, ⟨o', ho', h'⟩⟩ => ⟨hOp_of_held (by rw [hl]; simpa using ho) hS (fun a w hS h => wpT_of_HT hl t a w hS h) h, hOp_of_held (by rw [hl]; simpa using ho') hS (fun a w hS h => wpT_of_HT hl u a w hS h) h'⟩

theorem todo_none (ops : Array Oper) (n : Nat) (hn : n ≤ ops.size) : todo n (Array.replicate ops.size false) = List.range n := by
  unfold todo
  rw [List.filter_eq_self]
  intro k hk
  have : k < ops.size := by have := List.mem_range.1 hk; omega
  simp [this]
/-- THE THEOREM, as it is used. -/
theorem wp_region_tree {id : Nat} {Q : Exit → Act → World → Prop} {a : Act} {w : World} {l : List Oper} (n : Nat) (S : World → Prop) (loud : Nat → Bool) (t : HT) (hm : P.follows .mixedOrders = true) (hB : treeB l.toArray n loud t [] = true)
    (hS : S w.drew) (h0 : ∀ ops : Array Oper, ops = l.toArray → ∀ F : Act → World → Prop, (∀ a' w', wpList P ops Q (l.drop n) a' w' → F a' w') → wpHT P ops S loud F l t a w.drew) : (Code.region id l.toArray true).wp P Q a w := by
  have hB' := hB
  simp only [treeB, Bool.and_eq_true, decide_eq_true_eq] at hB'
  have hn : n ≤ l.toArray.size := hB'.1.1.1.1.2
  refine wp_region_any hm ?_
  have hd : ∀ k, k < n → ((Array.replicate l.toArray.size false).getD k true = true ↔ k ∈ ([] : List Nat)) := fun k hk => by
    have : k < l.length := by simp at hn; omega
    simp [this]
  exact wpAny_holdT n S loud t [] hB _ ⟨by simp, fun j oj _ hl => (by rw [getD_replicate_false] at hl; cases hl), fun t _ ht => getD_in (by simpa using ht) (getD_replicate_false _ _)⟩ hd
    (by rw [todo_none _ _ hn]; simp) (by simp) hS (wpT_of_HT rfl t a w.drew hS (h0 _ rfl _ (fun _ _ h => h)))
/-- the same, where one operation that hangs on no world floats: it is taken first. -/
theorem wp_region_tree1 {id : Nat} {Q : Exit → Act → World → Prop} {a : Act} {w : World} {l : List Oper} (i0 : Nat) (o0 : Oper) (v0 : Value) (n : Nat) (S : World → Prop) (loud : Nat → Bool) (t : HT) (hm : P.follows .mixedOrders = true) (hB : treeB l.toArray n loud t [i0] = true)
    (hi0 : l[i0]? = some o0) (hf : Region.free .any l.toArray (Array.replicate l.toArray.size false) i0 = true) (hr : (Region.ready .any l.toArray (Array.replicate l.toArray.size false)).contains i0 = true) (hin : i0 < n)
    (hQ : ∀ c a w, Q (.panic c) (a.put o0.dst v0) w → Q (.panic c) a w) (hy : Yields P l.toArray o0 v0 a)
    (hS : S w.drew) (h0 : ∀ ops : Array Oper, ops = l.toArray → ∀ F : Act → World → Prop, (∀ a' w', wpList P ops Q (l.drop n) a' w' → F a' w') → wpHT P ops S loud F l t (a.put o0.dst v0) w.drew) : (Code.region id l.toArray true).wp P Q a w := by
  have hB' := hB
  simp only [treeB, Bool.and_eq_true, decide_eq_true_eq] at hB'
  have hn : n ≤ l.toArray.size := hB'.1.1.1.1.2
  have hsel := hB'.1.1.1.1.1
  refine wp_region_any hm ?_
  have hi1 : l.toArray[i0]? = some o0 := by simpa using hi0
  have hsz : i0 < l.toArray.size := by omega
  have inv0 : HeadInv .any l.toArray n (Array.replicate l.toArray.size false) := ⟨by simp, fun j oj _ hl => (by rw [getD_replicate_false] at hl; cases hl), fun t _ ht => getD_in (by simpa using ht) (getD_replicate_false _ _)⟩
  have hri : i0 ∈ Region.ready .any l.toArray (Array.replicate l.toArray.size false) := by simpa using hr
  have inv1 := inv0.set hri hin
  have hd : ∀ k, k < n → (((Array.replicate l.toArray.size false).setIfInBounds i0 true).getD k true = true ↔ k ∈ [i0]) := fun k hk => by
    have hkl : k < l.toArray.size := by omega
    by_cases hki : k = i0
    · subst hki; simp at hkl; simp [hkl]
    · rw [getD_set_ne true (Ne.symm hki)]
      simp at hkl
      simp [hkl, hki]
  have ht1 : (todo n ((Array.replicate l.toArray.size false).setIfInBounds i0 true)).length = n - 1 := by
    obtain ⟨l1, l2, hl⟩ := List.append_of_mem (a := i0) (l := todo n (Array.replicate l.toArray.size false)) (by rw [todo_none _ _ hn]; exact List.mem_range.2 hin)
    rw [todo_set (n := n) (listed := Array.replicate l.toArray.size false) (by simpa using hn) hl]
    have := congrArg List.length hl
    rw [todo_none _ _ hn] at this
    simp at this ⊢
    omega
  have h := wpAny_holdT (Q := Q) n S loud t [i0] hB _ inv1 hd (by rw [ht1]; rfl) (by simp; omega) hS (wpT_of_HT rfl t (a.put o0.dst v0) w.drew hS (h0 _ rfl _ (fun _ _ h => h)))
  have h2 := wpAny_take (Q := Q) hi1 hsel hf hr hQ hy h
  rwa [show l.toArray.size - [i0].length + 1 = l.toArray.size by simp only [List.length_cons, List.length_nil]; omega] at h2
theorem tree_op {F : Act → World → Prop} {l : List Oper} {i : Nat} {t : HT} {a : Act} {w : World} {o : Oper} (ho : l[i]? = some o) (h : wpHeld P ops S (fun _ => loud i) (wpHT P ops S loud F l t) 0 [o] a w) : wpHT P ops S loud F l (.op i t) a w := ⟨o, ho, h⟩
theorem tree_alt {F : Act → World → Prop} {l : List Oper} {i j : Nat} {t u : HT} {a : Act} {w : World} {o o' : Oper} (ho : l[i]? = some o) (ho' : l[j]? = some o') (h : wpHeld P ops S (fun _ => loud i) (wpHT P ops S loud F l t) 0 [o] a w)
    (h' : wpHeld P ops S (fun _ => loud j) (wpHT P ops S loud F l u) 0 [o'] a w) : wpHT P ops S loud F l (.alt i t j u) a w := ⟨⟨o, ho, h⟩, o', ho', h'⟩
theorem tree_leaf {F : Act → World → Prop} {l : List Oper} {a : Act} {w : World} (h : F a w) : wpHT P ops S loud F l .leaf a w := h

/-- the quiet ones first; then two chains of two, free of each other but for their ends. -/
def pre : List Nat → HT → HT
  | [], t => t
  | i :: l, t => .op i (pre l t)
def forks (a b c d : Nat) : HT := .alt a (.alt b (.op c (.op d .leaf)) c (.op b (.op d .leaf))) c (.op a (.op b (.op d .leaf)))
end
end Go.Proofs.Ytnnhklembdaieaa
