/- Words for the statements on disks: strings, the calls that come in. -/
import Derived.Test.YtnnhklembdaieaaAlive11
namespace Go.Proofs.Ytnnhklembdaieaa
open Go.RowKit
set_option linter.unusedSimpArgs false
set_option linter.unusedVariables false

theorem beqNat (a b : Nat) : ((a : Int) == (b : Int)) = decide (a = b) := by
  by_cases h : a = b
  · subst h; simp
  · have h2 : ¬ ((a : Int) = (b : Int)) := by omega
    rw [beq_eq_false_iff_ne.2 h2, decide_eq_false h]
/-- a text. -/
def bs (l : List UInt8) : ByteArray := ⟨l.toArray⟩
theorem bs_size (l : List UInt8) : (bs l).size = l.length := by simp [bs, ByteArray.size]
theorem bs_list (l : List UInt8) : (bs l).data.toList = l := by simp [bs]
theorem bs_toList (l : List UInt8) : (bs l).toList = l := by
  have := ByteArray.toList_eq (bs l)
  rw [this, bs_list]

theorem run_str (w : World) (A : Option Addr) (n c : Nat) (xs : List UInt8) (h : SlAt w A n (bvs xs)) : (convert 28 9 (.slice A n c)).run Try.prog w = .ok (.string (bs xs)) w := by
  rw [run_convert_bytes_string w 28 9 5 A n c Try.underlying28 Try.underlying5 Try.underlying9]
  have hl : xs.length = n := by have := h.1; rwa [bvs_length] at this
  rcases A with _ | a
  · have hn : n = 0 := by
      rcases Nat.eq_zero_or_pos n with h0 | h0
      · exact h0
      · obtain ⟨_, _, e, _⟩ := h.2 h0; cases e
    have : xs = [] := List.eq_nil_of_length_eq_zero (by omega)
    subst this
    rfl
  · have hfold : ∀ (l : List UInt8) (acc : List UInt8), (l.map fun x => (x.toNat : Int)).foldl (fun r n => r.push (UInt8.ofNat n.toNat)) (bs acc) = bs (acc ++ l) := by
      intro l
      induction l with
      | nil => intro acc; simp
      | cons x l ih =>
        intro acc
        simp only [List.map_cons, List.foldl_cons, Int.toNat_natCast, UInt8.ofNat_toNat]
        have : (bs acc).push x = bs (acc ++ [x]) := by simp [bs, ByteArray.push]
        rw [this, ih]
        simp
    have hload : (loadCells a n).run Try.prog w = .ok ((xs.map fun x => (x.toNat : Int)).map (Value.int .u8)).toArray w := by
      have e : (xs.map fun x => (x.toNat : Int)).map (Value.int .u8) = bvs xs := by simp [bvs, bv]
      rw [e]
      rcases Nat.eq_zero_or_pos n with h0 | h0
      · subst h0
        have : xs = [] := List.eq_nil_of_length_eq_zero (by omega)
        subst this
        rfl
      · obtain ⟨gb, ob, e, _, hr⟩ := h.2 h0
        injection e with e
        subst e
        rw [← hl, ← bvs_length]
        exact run_loadCells_list (P := Try.prog) w ⟨gb, ob, none⟩ (bvs xs) (fun j v hv => by rw [Addr.add_mid]; exact hr j v hv)
    rw [run_bytesToString w a n c _ hload]
    have h1 := hfold xs []
    have e : bs [] = ByteArray.empty := rfl
    rw [e] at h1
    rw [h1]
    simp

theorem SlAt.ofBlk {w : World} {g t n : Nat} {xs : List Value} (h : Blk w g t xs.toArray) (hn : xs.length = n) : SlAt w (some ⟨g, 0, none⟩) n xs :=
  ⟨hn, fun _ => ⟨g, 0, rfl, h.lt, h.rangeAll⟩⟩

/-- a call that comes in. -/
structure OpM where
  kind : Int
  i : Int
  extra : Int
  bA : Option Addr
  bc : Nat
  b : List UInt8
  kA : Option Addr
  kc : Nat
  keep : List Bool

structure OpAt (w : World) (g o : Nat) (m : OpM) : Prop where
  c0 : w.cell? ⟨g, o, none⟩ = some (.int .i64 m.kind)
  c1 : w.cell? ⟨g, o + 1, none⟩ = some (.int .i64 m.i)
  c2 : w.cell? ⟨g, o + 2, none⟩ = some (.int .i64 m.extra)
  c3 : w.cell? ⟨g, o + 3, none⟩ = some (.slice m.bA m.b.length m.bc)
  c4 : w.cell? ⟨g, o + 4, none⟩ = some (.slice m.kA m.keep.length m.kc)
  hb : SlAt w m.bA m.b.length (bvs m.b)
  hk : SlAt w m.kA m.keep.length (m.keep.map .bool)
  mb : m.b.length ≤ 9223372036854775807
  mkp : m.keep.length ≤ 9223372036854775807
  ki : -9223372036854775808 ≤ m.i ∧ m.i ≤ 9223372036854775807
  ke : -9223372036854775808 ≤ m.extra ∧ m.extra ≤ 9223372036854775807
  kk : -9223372036854775808 ≤ m.kind ∧ m.kind ≤ 9223372036854775807

def OpsAt (w : World) (A : Option Addr) (ops : List OpM) : Prop := ops.length ≤ 9223372036854775807 ∧ (0 < ops.length → ∃ g o, A = some ⟨g, o, none⟩ ∧ g < w.heap.size ∧ ∀ (k : Nat) (hk : k < ops.length), OpAt w g (o + k * 5) ops[k])

theorem SlAt.lt {w : World} {A : Option Addr} {n : Nat} {xs : List Value} (h : SlAt w A n xs) (a : Addr) (ha : A = some a) (hn : 0 < n) : a.block < w.heap.size := by
  obtain ⟨gb, ob, e, hl, _⟩ := h.2 hn
  rw [ha] at e
  injection e with e
  rw [e]; exact hl
theorem SlAt.below {w w' : World} {B : Nat} {A : Option Addr} {n : Nat} {xs : List Value} (h : SlAt w A n xs) (hb : Below B w w') (hB : w.heap.size ≤ B) : SlAt w' A n xs :=
  h.fr (Fr.ofBelow hb) (fun a ha hn => by have := h.lt a ha hn; omega)
theorem OpAt.below {w w' : World} {g o : Nat} {m : OpM} (h : OpAt w g o m) (hb : Below w.heap.size w w') (hg : g < w.heap.size) : OpAt w' g o m :=
  ⟨(hb.cell (p := ⟨g, o, none⟩) hg).trans h.c0, (hb.cell (p := ⟨g, o + 1, none⟩) hg).trans h.c1, (hb.cell (p := ⟨g, o + 2, none⟩) hg).trans h.c2, (hb.cell (p := ⟨g, o + 3, none⟩) hg).trans h.c3, (hb.cell (p := ⟨g, o + 4, none⟩) hg).trans h.c4,
   h.hb.below hb (Nat.le_refl _), h.hk.below hb (Nat.le_refl _), h.mb, h.mkp, h.ki, h.ke, h.kk⟩

theorem own_blk {w : World} {base : Nat} {e : TypeId} {size n : Nat} {v : Value} {xs : List Value} (h : w.ownsRow base e size v n xs) {k : Nat} (hk : v.ownBlock = some k) : ∃ cs, Blk w k e cs := by
  rcases h.2 with ⟨rfl, _⟩ | ⟨g, cap, cur, rfl, _, hh, _⟩
  · simp [Value.ownBlock] at hk
  · have : g = k := by simpa [Value.ownBlock] using hk
    subst this
    exact ⟨cur, hh⟩
/-- a row of another type is none of the disk's. -/
theorem DiskAt.offOwn {w : World} {base d bl : Nat} {wv : Value} {s : DSt} (h : DiskAt w base d bl wv s) {b2 : Nat} {e : TypeId} {size n : Nat} {v : Value} {xs : List Value} (ho : w.ownsRow b2 e size v n xs) (h1 : e ≠ 61) (h2 : e ≠ 153) (h3 : e ≠ 151) :
    ∀ k, v.ownBlock = some k → ¬ dfoot d bl wv k := fun k hk hd => by
  obtain ⟨cs, hb⟩ := own_blk ho hk
  exact h.off hb h1 h2 (.inl h3) hd
/-- behind an append to such a row. -/
theorem DiskAt.app {w w' : World} {base d bl : Nat} {wv : Value} {s : DSt} (h : DiskAt w base d bl wv s) {b2 : Nat} {e : TypeId} {size n : Nat} {v : Value} {xs : List Value} (ho : w.ownsRow b2 e size v n xs) (h1 : e ≠ 61) (h2 : e ≠ 153) (h3 : e ≠ 151)
    {o : Obj} (hg : (w.alloc o).grownBy w' v.ownBlock) : DiskAt w' base d bl wv s :=
  h.fr (((Fr.refl (fun k => v.ownBlock = some k) w).alloc o).grown hg (fun k hk => .inl hk)) (fun k hk hS => h.offOwn ho h1 h2 h3 k hS hk)
theorem Blk.app {w w' : World} {g : Nat} {t : TypeId} {cs : Array Value} (h : Blk w g t cs) {b2 : Nat} {e : TypeId} {size n : Nat} {v : Value} {xs : List Value} (ho : w.ownsRow b2 e size v n xs) (hne : e ≠ t) {o : Obj} (hg : (w.alloc o).grownBy w' v.ownBlock) : Blk w' g t cs :=
  (h.alloc o).grown hg (fun e' => own_ne ho h hne e'.symm)
theorem below_app {w0 w w' : World} {B : Nat} (hb : Below B w0 w) (hB : B ≤ w.heap.size) {e : TypeId} {size n : Nat} {v : Value} {xs : List Value} (ho : w.ownsRow B e size v n xs) {o : Obj} (hg : (w.alloc o).grownBy w' v.ownBlock) : Below B w0 w' :=
  (hb.alloc hB o).grown hg (by simp; omega) (fun k hk => (ho.lt k hk).1)

/-! ### plain laws on the disk's lists -/
theorem doneAll_getD : ∀ (ws : List (Nat × List UInt8)) (l : List (List UInt8)) (i : Nat) (d : List UInt8), (∀ p ∈ ws, p.1 < l.length) → (doneAll l ws).getD i d = readAt ws i (l.getD i d)
  | [], l, i, d, _ => rfl
  | p :: ws, l, i, d, h => by
    have hp := h p (by simp)
    have ih := doneAll_getD ws (l.set p.1 p.2) i d (fun q hq => by rw [List.length_set]; exact h q (by simp [hq]))
    simp only [doneAll, readAt, List.foldl_cons] at ih ⊢
    rw [ih]
    congr 1
    rw [List.getD_eq_getElem?_getD, List.getElem?_set]
    by_cases hpi : p.1 = i
    · subst hpi; simp [hp]
    · simp [hpi]
theorem doneKeep_fold_all (ks : List Bool) : ∀ (ws : List (Nat × List UInt8)) (k : Nat) (l : List (List UInt8)), (∀ j, k ≤ j → j < k + ws.length → ks.getD j false = true) →
    (ws.zipIdx k).foldl (fun l p => if ks.getD p.2 false then l.set p.1.1 p.1.2 else l) l = doneAll l ws
  | [], _, _, _ => rfl
  | p :: ws, k, l, h => by
    have h0 := h k (Nat.le_refl _) (by simp)
    rw [List.zipIdx_cons, List.foldl_cons]
    simp only [h0, if_true]
    rw [doneKeep_fold_all ks ws (k + 1) _ (fun j hj hj2 => h j (by omega) (by simp; omega))]
    simp [doneAll]
theorem doneKeep_all (l : List (List UInt8)) (ws : List (Nat × List UInt8)) : doneKeep l ws (List.replicate ws.length true) = doneAll l ws :=
  doneKeep_fold_all _ ws 0 l (fun j _ hj => by simp at hj; simp [hj])
theorem readAt_nil (i : Nat) (d : List UInt8) : readAt [] i d = d := rfl
end Go.Proofs.Ytnnhklembdaieaa
