/- The journal's plain law: what stands on the disk, whatever is appended, stepped, written anew and crashed. No walk. The journal's plain law: what a journal and its disk hold, kept by each call. No walk. The journal's plain law: the records that were appended, and of how many it is sure. No walk. -/
import Derived.Test.YtnnhklembdaieaaJouB
import Derived.Test.YtnnhklembdaieaaFollL
import Derived.Test.YtnnhklembdaieaaBackL
namespace Go.Proofs.Ytnnhklembdaieaa
open Go.RowKit
set_option linter.unusedSimpArgs false
set_option linter.unusedVariables false

/-- a sector that has a property, whatever becomes of the writes that wait. -/
def Keeps (D : DSt) (i : Nat) (P : List UInt8 → Prop) : Prop := P (D.l.getD i []) ∧ ∀ p ∈ D.waits, p.1 = i → P p.2
/-- a byte that is on the disk for good. -/
def Stab (D : DSt) (q : Nat) (v : UInt8) : Prop := Keeps D (q / 128) (fun x => x.getD (q % 128) 0 = v)
theorem Keeps.mono {D : DSt} {i : Nat} {P Q : List UInt8 → Prop} (h : Keeps D i P) (hq : ∀ x, P x → Q x) : Keeps D i Q := ⟨hq _ h.1, fun p hp e => hq _ (h.2 p hp e)⟩
theorem Keeps.write {D : DSt} {i : Nat} {P : List UInt8 → Prop} (h : Keeps D i P) (k : Nat) (x : List UInt8) (hx : k = i → P x) : Keeps (D.write k x) i P :=
  ⟨h.1, fun p hp e => by
    simp only [DSt.write, List.mem_append, List.mem_singleton] at hp
    rcases hp with hp | rfl
    · exact h.2 p hp e
    · exact hx e⟩
theorem set_getD_P {P : List UInt8 → Prop} (l : List (List UInt8)) (a i : Nat) (x : List UInt8) (h : P (l.getD i [])) (hx : a = i → P x) : P ((l.set a x).getD i []) := by
  by_cases ha : a = i
  · subst ha
    by_cases hl : a < l.length
    · rw [List.getD_eq_getElem?_getD, List.getElem?_set_self hl]; exact hx rfl
    · rw [List.set_eq_of_length_le (by omega)]; exact h
  · rw [List.getD_eq_getElem?_getD, List.getElem?_set_ne ha, ← List.getD_eq_getElem?_getD]; exact h
theorem doneAll_P {P : List UInt8 → Prop} (i : Nat) : ∀ (ws : List (Nat × List UInt8)) (l : List (List UInt8)), P (l.getD i []) → (∀ p ∈ ws, p.1 = i → P p.2) → P ((doneAll l ws).getD i [])
  | [], l, h, _ => h
  | p :: ws, l, h, hw => by
    have := doneAll_P i ws (l.set p.1 p.2) (set_getD_P l _ _ _ h (hw p (by simp))) (fun q hq => hw q (by simp [hq]))
    simpa [doneAll] using this
theorem Keeps.sync {D : DSt} {i : Nat} {P : List UInt8 → Prop} (h : Keeps D i P) : Keeps D.sync i P :=
  ⟨doneAll_P i _ _ h.1 h.2, fun p hp => by simp [DSt.sync] at hp⟩
theorem doneKeep_P {P : List UInt8 → Prop} (ks : List Bool) (i : Nat) : ∀ (ws : List ((Nat × List UInt8) × Nat)) (l : List (List UInt8)), P (l.getD i []) → (∀ p ∈ ws, p.1.1 = i → P p.1.2) →
    P ((ws.foldl (fun l p => if ks.getD p.2 false then l.set p.1.1 p.1.2 else l) l).getD i [])
  | [], l, h, _ => h
  | p :: ws, l, h, hw => by
    rw [List.foldl_cons]
    refine doneKeep_P ks i ws _ ?_ (fun q hq => hw q (by simp [hq]))
    split
    · exact set_getD_P l _ _ _ h (hw p (by simp))
    · exact h
theorem Keeps.crash {D : DSt} {i : Nat} {P : List UInt8 → Prop} (h : Keeps D i P) (ks : List Bool) : Keeps (D.crash ks) i P :=
  ⟨doneKeep_P ks i _ _ h.1 (fun p hp e => h.2 p.1 (by
    have := List.mem_zipIdx hp
    rw [this.2.2]; exact List.getElem_mem _) e), fun p hp => by simp [DSt.crash] at hp⟩
theorem readAt_P {P : List UInt8 → Prop} (i : Nat) : ∀ (ws : List (Nat × List UInt8)) (d : List UInt8), P d → (∀ p ∈ ws, p.1 = i → P p.2) → P (readAt ws i d)
  | [], d, h, _ => h
  | p :: ws, d, h, hw => by
    have := readAt_P i ws (if p.1 = i then p.2 else d) (by split; exact hw p (by simp) (by assumption); exact h) (fun q hq => hw q (by simp [hq]))
    simpa [readAt] using this
theorem Keeps.read {D : DSt} {i : Nat} {P : List UInt8 → Prop} (h : Keeps D i P) : P (D.read i) := readAt_P i _ _ h.1 h.2
theorem doneAll_getDi (i : Nat) : ∀ (ws : List (Nat × List UInt8)) (l : List (List UInt8)), i < l.length → (doneAll l ws).getD i [] = readAt ws i (l.getD i [])
  | [], l, _ => rfl
  | p :: ws, l, h => by
    have := doneAll_getDi i ws (l.set p.1 p.2) (by simpa using h)
    simp only [doneAll, readAt, List.foldl_cons] at this ⊢
    rw [this]
    congr 1
    by_cases hp : p.1 = i
    · rw [if_pos hp, List.getD_eq_getElem?_getD, hp, List.getElem?_set_self h]; rfl
    · rw [if_neg hp, List.getD_eq_getElem?_getD, List.getElem?_set_ne hp, ← List.getD_eq_getElem?_getD]
theorem sync_read (D : DSt) (i : Nat) (h : i < D.l.length) : D.sync.read i = D.read i := by
  show readAt [] i ((doneAll D.l D.waits).getD i []) = _
  rw [doneAll_getDi i _ _ h]; rfl
/-- what is read behind a Sync is there for good. -/
theorem Keeps.ofSync {D : DSt} {i : Nat} {P : List UInt8 → Prop} (hi : i < D.l.length) (h : P (D.read i)) : Keeps D.sync i P :=
  ⟨by rw [← sync_read D i hi] at h; exact h, fun p hp => by simp [DSt.sync] at hp⟩
theorem Keeps.ofCrash {D : DSt} {i : Nat} {P : List UInt8 → Prop} (ks : List Bool) (h : P ((D.crash ks).read i)) : Keeps (D.crash ks) i P := ⟨h, fun p hp => by simp [DSt.crash] at hp⟩
theorem Stab.byte {D : DSt} {q : Nat} {v : UInt8} (h : Stab D q v) : D.byteAt q = v := Keeps.read h
theorem Stab.ofSync {D : DSt} {q : Nat} {v : UInt8} (hq : q / 128 < D.l.length) (h : D.byteAt q = v) : Stab D.sync q v := Keeps.ofSync hq h

/-- a put, step by step. -/
theorem put_rule {s : DSt} (hok : s.Ok) (q : Nat) (b : List UInt8) (hq : q + b.length ≤ s.l.length * 128) (hc : s.waits.length + b.length ≤ 1000000000 ∧ s.writes + b.length ≤ 1000000000000)
    (I : DSt → Prop) (h0 : I s) (step : ∀ s' q' b', s'.Ok → s'.l = s.l → q ≤ q' → q' + b'.length = q + b.length → 0 < b'.length → q' / 128 < s'.l.length → I s' → I (s'.put1 q' b')) : I (s.put q b) := by
  have h := put_ind (fun s' q' b' => s'.Ok ∧ s'.l = s.l ∧ q' + b'.length = q + b.length ∧ s'.waits.length + b'.length ≤ s.waits.length + b.length ∧ s'.writes + b'.length ≤ s.writes + b.length ∧ q ≤ q' ∧ I s') (fun s' q' b' h0 ⟨h1, h2, h3, h4, h5, h6, h8⟩ => by
    have hm : q' % 128 < 128 := Nat.mod_lt _ (by omega)
    have hi : q' / 128 < s'.l.length := by rw [h2]; omega
    refine ⟨put1_Ok h1 _ _ hi (by omega), h2, ?_, ?_, ?_, by omega, ?_⟩
    · rw [List.length_drop]; omega
    · simp only [DSt.put1, DSt.write, List.length_append, List.length_cons, List.length_nil, List.length_drop]; omega
    · simp only [DSt.put1, DSt.write, List.length_drop]; omega
    · exact step s' q' b' h1 h2 h6 h3 h0 hi h8) _ s q b (Nat.le_refl _) ⟨hok, rfl, rfl, Nat.le_refl _, Nat.le_refl _, Nat.le_refl _, h0⟩
  exact h.choose_spec.2.2.2.2.2.2.2
/-- a put leaves each byte outside. -/
theorem Stab.put {s : DSt} (hok : s.Ok) (q : Nat) (b : List UInt8) (hq : q + b.length ≤ s.l.length * 128) (hc : s.waits.length + b.length ≤ 1000000000 ∧ s.writes + b.length ≤ 1000000000000)
    {p : Nat} {v : UInt8} (h : Stab s p v) (hp : p < q ∨ q + b.length ≤ p) : Stab (s.put q b) p v := by
  refine put_rule hok q b hq hc (fun s' => Stab s' p v) h (fun s' q' b' h1 h2 h3 h4 h5 hi hs => ?_)
  refine Keeps.write hs _ _ (fun e => ?_)
  have hm : q' % 128 < 128 := Nat.mod_lt _ (by omega)
  have hl := DSt.read_length h1 hi
  have htl : (b'.take (128 - q' % 128)).length = min b'.length (128 - q' % 128) := by rw [List.length_take, Nat.min_comm]
  have hdm := Nat.div_add_mod q' 128
  have hdp := Nat.div_add_mod p 128
  show (over (s'.read (q' / 128)) (q' % 128) (b'.take (128 - q' % 128))).getD (p % 128) 0 = v
  rw [over_getD _ _ _ (by rw [htl, hl]; omega), htl, if_neg (by omega), e]
  exact hs.read
/-- a put leaves each sector ahead of it. -/
theorem Keeps.put {s : DSt} (hok : s.Ok) (q : Nat) (b : List UInt8) (hq : q + b.length ≤ s.l.length * 128) (hc : s.waits.length + b.length ≤ 1000000000 ∧ s.writes + b.length ≤ 1000000000000)
    {i : Nat} {P : List UInt8 → Prop} (h : Keeps s i P) (hp : i * 128 + 128 ≤ q) : Keeps (s.put q b) i P := by
  refine put_rule hok q b hq hc (fun s' => Keeps s' i P) h (fun s' q' b' h1 h2 h3 h4 h5 hi hs => ?_)
  exact Keeps.write hs _ _ (fun e => by omega)
/-- a byte that was read, and is not written, is read. -/
theorem put_byte_out {s : DSt} (hok : s.Ok) (q : Nat) (b : List UInt8) (hq : q + b.length ≤ s.l.length * 128) (hc : s.waits.length + b.length ≤ 1000000000 ∧ s.writes + b.length ≤ 1000000000000) (p : Nat) (hp : p < q ∨ q + b.length ≤ p) : (s.put q b).byteAt p = s.byteAt p := by
  rw [put_byteAt hok q b hq hc, if_neg (by omega)]
theorem put_byte_in {s : DSt} (hok : s.Ok) (q : Nat) (b : List UInt8) (hq : q + b.length ≤ s.l.length * 128) (hc : s.waits.length + b.length ≤ 1000000000 ∧ s.writes + b.length ≤ 1000000000000) (k : Nat) (hk : k < b.length) : (s.put q b).byteAt (q + k) = b.getD k 0 := by
  rw [put_byteAt hok q b hq hc, if_pos (by omega)]; congr 1; omega
theorem sync_byteAt (D : DSt) (q : Nat) (h : q / 128 < D.l.length) : D.sync.byteAt q = D.byteAt q := by unfold DSt.byteAt; rw [sync_read D _ h]
theorem sync_Ok {D : DSt} (h : D.Ok) (hs : D.syncs < 1000000000000) : D.sync.Ok :=
  ⟨doneAll_sec _ _ h.sec (fun p hp => (h.wat p hp).2), fun p hp => by simp [DSt.sync] at hp, by rw [DSt.sync_l]; exact h.num, by have := h.cnt; simp only [DSt.sync, List.length_nil]; omega⟩
theorem crash_l (D : DSt) (ks : List Bool) : (D.crash ks).l.length = D.l.length := doneKeep_length _ _ _
theorem crash_Ok {D : DSt} (h : D.Ok) (ks : List Bool) : (D.crash ks).Ok :=
  ⟨doneKeep_sec _ _ _ h.sec (fun p hp => (h.wat p hp).2), fun p hp => by simp [DSt.crash] at hp, by rw [crash_l]; exact h.num, by have := h.cnt; simp only [DSt.crash, List.length_nil]; omega⟩
/-- of a disk on which nothing waits a crash leaves all. -/
theorem crash_still (D : DSt) (ks ks' : List Bool) : (D.crash ks).crash ks' = D.crash ks := rfl

/-- a sector that says nothing newer. -/
def Old (g k : Nat) (x : List UInt8) : Prop := ∀ t, slotS k x = some t → t.gen < g
theorem Old.mono {g g' k : Nat} {x : List UInt8} (h : Old g k x) (hg : g ≤ g') : Old g' k x := fun t ht => by have := h t ht; omega
theorem newest_old {s : SU} (hs : s.right = true) (D : DSt) (h1 : D.read (s.gen % 2) = superBytes s) (h2 : Old s.gen ((s.gen + 1) % 2) (D.read ((s.gen + 1) % 2))) : newestS (D.read 0) (D.read 1) = some s := by
  rcases (show s.gen % 2 = 0 ∨ s.gen % 2 = 1 by omega) with h | h
  · have h' : (s.gen + 1) % 2 = 1 := by omega
    rw [h] at h1
    rw [h'] at h2
    rw [h1]
    unfold newestS
    rw [slotS_super hs 0 h]
    cases ht : slotS 1 (D.read 1) with
    | none => rfl
    | some t => have := h2 t ht; show (if s.gen < t.gen then some t else some s) = some s; rw [if_neg (by omega)]
  · have h' : (s.gen + 1) % 2 = 0 := by omega
    rw [h] at h1
    rw [h'] at h2
    rw [h1]
    unfold newestS
    rw [slotS_super hs 1 h]
    cases ht : slotS 0 (D.read 0) with
    | none => rfl
    | some t => have := h2 t ht; show (if t.gen < s.gen then some s else some t) = some s; rw [if_pos this]
end Go.Proofs.Ytnnhklembdaieaa
namespace Go.Proofs.Ytnnhklembdaieaa
open Go.RowKit
set_option linter.unusedSimpArgs false
set_option linter.unusedVariables false

def allRec (l : List (List UInt8)) : Prop := ∀ r ∈ l, isRec r.length = true
theorem allRec.nil : allRec [] := fun r h => by simp at h
theorem allRec.append {a b : List (List UInt8)} (ha : allRec a) (hb : allRec b) : allRec (a ++ b) := fun r h => by
  rcases List.mem_append.1 h with h | h
  · exact ha r h
  · exact hb r h
theorem encL_append (a b : List (List UInt8)) : encL (a ++ b) = encL a ++ encL b := by simp [encL]
/-- a half's first place. -/
def pl (c h : Nat) : Nat := (2 + h * c) * 128
theorem pl_bounds {c h k n : Nat} (hh : h ≤ 1) (hk : k ≤ c * 128) (hn : 2 + 2 * c ≤ n) : pl c h + k ≤ n * 128 ∧ 256 ≤ pl c h := by
  unfold pl
  rcases (show h = 0 ∨ h = 1 by omega) with rfl | rfl <;> omega
theorem pl_apart {c h h' k k' : Nat} (hh : h ≤ 1) (hh' : h' ≤ 1) (hne : h ≠ h') (hk : k < c * 128) (hk' : k' ≤ c * 128) : pl c h + k < pl c h' ∨ pl c h' + k' ≤ pl c h + k := by
  unfold pl
  rcases (show (h = 0 ∧ h' = 1) ∨ (h = 1 ∧ h' = 0) by omega) with ⟨rfl, rfl⟩ | ⟨rfl, rfl⟩ <;> omega

structure JInv (c : Nat) (D : DSt) (J : JSt) (Rs Rp Rn : List (List UInt8)) : Prop where
  ok : D.Ok
  jk : JOk c J
  dl : 2 + 2 * c ≤ D.l.length
  g1 : 1 ≤ J.gen
  rs : allRec Rs
  rn : allRec Rn
  rp : J.stage ≠ 0 → allRec Rp
  ls : (encL Rs).length = J.len
  nx : J.next = encL Rn
  ss : ∀ k, k < J.len → Stab D (pl c J.area + k) ((encL Rs).getD k 0)
  lp : J.stage ≠ 0 → (encL Rp).length = J.length
  p1 : J.stage ≠ 0 → ∀ k, k < J.length → D.byteAt (pl c J.half + k) = (encL Rp).getD k 0
  p2 : J.stage = 2 ∨ J.stage = 3 → ∀ k, k < J.length → Stab D (pl c J.half + k) ((encL Rp).getD k 0)
  sl : Keeps D (J.gen % 2) (fun x => x = superBytes J.s)
  so : J.stage ≠ 3 → Keeps D ((J.gen + 1) % 2) (Old J.gen ((J.gen + 1) % 2))
  s3 : J.stage = 3 → Keeps D ((J.gen + 1) % 2) (fun x => Old J.gen ((J.gen + 1) % 2) x ∨ x = superBytes J.nexts) ∧ D.read ((J.gen + 1) % 2) = superBytes J.nexts

section
variable {c : Nat} {D : DSt} {J : JSt} {Rs Rp Rn : List (List UInt8)}
theorem JInv.sright (h : JInv c D J Rs Rp Rn) : J.s.right = true := by
  rw [SU.right_iff]
  have := h.g1; have := h.jk.gn; have := h.jk.a1; have := h.jk.le; have := h.jk.c2
  simp only [JSt.s]; omega
theorem JInv.nright (h : JInv c D J Rs Rp Rn) : J.nexts.right = true := by
  rw [SU.right_iff]
  have := h.g1; have := h.jk.gn; have := h.jk.h1; have := h.jk.lg; have := h.jk.c2
  simp only [JSt.nexts]; omega

/-- what is appended. -/
theorem JInv.app (h : JInv c D J Rs Rp Rn) (r : List UInt8) (hr : isRec r.length = true) (hf : jfits c J (r.length : Int) = true) (ha : J.all < 1000000000000) : JInv c D (J.app r) Rs Rp (Rn ++ [r]) := by
  have hf' : (1 : Int) ≤ r.length ∧ (r.length : Int) ≤ 2000 ∧ (r.length : Int) + 2 ≤ (c : Int) * 128 - (J.tl.2 : Int) := by simpa [jfits] using hf
  have hn : (J.app r).next.length = J.next.length + (r.length + 2) := by simp [JSt.app, frameL_length]
  have htl : (J.stage = 0 ∧ J.tl.2 = J.len + J.next.length) ∨ (J.stage ≠ 0 ∧ J.tl.2 = J.length + J.next.length) := by
    unfold JSt.tl; split
    · exact .inl ⟨by assumption, rfl⟩
    · exact .inr ⟨by assumption, rfl⟩
  have k := h.jk
  have := k.l1; have := k.l2
  refine ⟨h.ok, ⟨k.c1, k.c2, k.a1, k.h1, ?_, ?_, k.le, ?_, k.lg, k.st, ?_, k.dn, k.pd, k.gn⟩, h.dl, h.g1, h.rs, h.rn.append (fun x hx => by rw [List.mem_singleton.1 hx]; exact hr), h.rp, h.ls, ?_, h.ss, h.lp, h.p1, h.p2, h.sl, h.so, h.s3⟩
  · rw [hn]; show J.len + _ ≤ _ ∨ J.stage ≠ 0; omega
  · rw [hn]; show J.length + _ ≤ _ ∨ J.stage = 0; omega
  · rw [hn]; omega
  · show J.all + 1 ≤ _; omega
  · show J.next ++ frameL r = _
    rw [h.nx, encL_snoc]

/-- a plan is begun. -/
theorem JInv.begun (h : JInv c D J Rs Rp Rn) (h3 : J.stage ≠ 3) (half at_ : Nat) (b : List UInt8) (R : List (List UInt8)) (hR : allRec R) (hb : encL R = (encL Rs).take at_ ++ b) (hat : (half = J.area ∧ at_ = J.len) ∨ (half = 1 - J.area ∧ at_ = 0))
    (hfit : at_ + b.length ≤ c * 128) (hc : D.waits.length + b.length ≤ 1000000000 ∧ D.writes + b.length ≤ 1000000000000) :
    JInv c (D.put (pl c half + at_) b) (J.begun half at_ b.length) Rs R [] := by
  have k := h.jk
  have ha1 := k.a1
  have hh : half ≤ 1 := by omega
  have hle := k.le
  have hbd := pl_bounds hh hfit h.dl
  have hq : pl c half + at_ + b.length ≤ D.l.length * 128 := by omega
  have hlen : (encL R).length = at_ + b.length := by
    rw [hb, List.length_append, List.length_take, h.ls]; omega
  have hss : ∀ k, k < J.len → Stab (D.put (pl c half + at_) b) (pl c J.area + k) ((encL Rs).getD k 0) := fun k hk => by
    refine (h.ss k hk).put h.ok _ _ hq hc ?_
    rcases hat with ⟨rfl, rfl⟩ | ⟨rfl, rfl⟩
    · left; omega
    · have := pl_apart (c := c) (h := J.area) (h' := 1 - J.area) (k := k) (k' := b.length) ha1 (by omega) (by omega) (by omega) (by omega)
      omega
  have hgm : J.gen % 2 < 2 := Nat.mod_lt _ (by omega)
  have hgm2 : (J.gen + 1) % 2 < 2 := Nat.mod_lt _ (by omega)
  refine ⟨(put_Ok h.ok _ _ hq hc).1, ⟨k.c1, k.c2, k.a1, hh, .inr (by simp [JSt.begun]), .inl (by simp only [JSt.begun, List.length_nil]; omega), k.le, by simp [JSt.begun], hfit, by simp [JSt.begun], k.all, k.dn, k.all, k.gn⟩, by rw [put_l]; exact h.dl, h.g1, h.rs, allRec.nil, fun _ => hR, h.ls, rfl, hss, fun _ => hlen, fun _ => ?_, fun h' => ?_, ?_, fun _ => ?_, fun h' => ?_⟩
  · intro j hj
    have hj' : j < at_ + b.length := hj
    show (D.put (pl c half + at_) b).byteAt (pl c half + j) = _
    by_cases hja : j < at_
    · rcases hat with ⟨rfl, rfl⟩ | ⟨rfl, rfl⟩
      · rw [(hss j hja).byte, hb, List.getD_eq_getElem?_getD, List.getD_eq_getElem?_getD, List.getElem?_append_left (by rw [List.length_take, h.ls]; omega), List.getElem?_take_of_lt hja]
      · omega
    · have e := put_byte_in h.ok (pl c half + at_) b hq hc (j - at_) (by omega)
      rw [show pl c half + at_ + (j - at_) = pl c half + j by omega] at e
      rw [e, hb, List.getD_eq_getElem?_getD, List.getD_eq_getElem?_getD, List.getElem?_append_right (by rw [List.length_take, h.ls]; omega), List.length_take, h.ls]
      congr 2
      omega
  · simp [JSt.begun] at h'
  · exact h.sl.put h.ok _ _ hq hc (by show J.gen % 2 * 128 + 128 ≤ _; omega)
  · exact (h.so h3).put h.ok _ _ hq hc (by show (J.gen + 1) % 2 * 128 + 128 ≤ _; omega)
  · simp [JSt.begun] at h'
theorem place_lt {c h k n : Nat} (hh : h ≤ 1) (hk : k < c * 128) (hn : 2 + 2 * c ≤ n) : (pl c h + k) / 128 < n := by
  unfold pl
  rcases (show h = 0 ∨ h = 1 by omega) with rfl | rfl <;> omega
theorem JInv.synced (h : JInv c D J Rs Rp Rn) (hs : J.stage = 1) (hsy : D.syncs < 1000000000000) : JInv c D.sync { J with stage := 2 } Rs Rp Rn := by
  have k := h.jk
  refine ⟨sync_Ok h.ok hsy, ⟨k.c1, k.c2, k.a1, k.h1, .inr (by simp), .inl (by have := k.l2; show J.length + J.next.length ≤ _; omega), k.le, k.ln, k.lg, by simp, k.all, k.dn, k.pd, k.gn⟩, by rw [DSt.sync_l]; exact h.dl, h.g1, h.rs, h.rn, fun _ => h.rp (by omega), h.ls, h.nx, fun k hk => (h.ss k hk).sync, fun _ => h.lp (by omega), fun _ j hj => ?_, fun _ j hj => ?_, h.sl.sync, fun _ => (h.so (by omega)).sync, fun h' => by simp at h'⟩
  · have hj' : j < J.length := hj
    show D.sync.byteAt (pl c J.half + j) = _
    rw [sync_byteAt _ _ (place_lt k.h1 (by have := k.lg; omega) h.dl)]
    exact h.p1 (by omega) j hj
  · have hj' : j < J.length := hj
    exact Stab.ofSync (place_lt k.h1 (by have := k.lg; omega) h.dl) (h.p1 (by omega) j hj)
theorem JInv.said (h : JInv c D J Rs Rp Rn) (hs : J.stage = 2) (hc : D.waits.length < 1000000000 ∧ D.writes < 1000000000000) : JInv c (D.write ((J.gen + 1) % 2) (superBytes J.nexts)) { J with stage := 3 } Rs Rp Rn := by
  have k := h.jk
  have hgm2 : (J.gen + 1) % 2 < 2 := Nat.mod_lt _ (by omega)
  have hst : ∀ {q v}, 256 ≤ q → Stab D q v → Stab (D.write ((J.gen + 1) % 2) (superBytes J.nexts)) q v := fun hq h' => Keeps.write h' _ _ (fun e => by omega)
  have hb := fun (hf : Nat) (hh : hf ≤ 1) => (pl_bounds (c := c) (k := 0) hh (by omega) h.dl).2
  have hp2 : ∀ j, j < J.length → Stab (D.write ((J.gen + 1) % 2) (superBytes J.nexts)) (pl c J.half + j) ((encL Rp).getD j 0) := fun j hj => hst (by have := hb _ k.h1; omega) (h.p2 (.inl hs) j hj)
  refine ⟨write_Ok h.ok _ _ (by have := h.dl; omega) (superBytes_length _) hc, ⟨k.c1, k.c2, k.a1, k.h1, .inr (by simp), .inl (by have := k.l2; show J.length + J.next.length ≤ _; omega), k.le, k.ln, k.lg, by simp, k.all, k.dn, k.pd, k.gn⟩, h.dl, h.g1, h.rs, h.rn, fun _ => h.rp (by omega), h.ls, h.nx, fun j hj => hst (by have := hb _ k.a1; show 256 ≤ pl c J.area + j; omega) (h.ss j hj), fun _ => h.lp (by omega), fun _ j hj => (hp2 j hj).byte, fun _ => hp2, ?_, fun h' => absurd rfl h', fun _ => ⟨?_, ?_⟩⟩
  · exact h.sl.write _ _ (fun e => by omega)
  · exact ((h.so (by omega)).mono (fun x hx => Or.inl hx)).write _ _ (fun _ => .inr rfl)
  · show readAt (D.waits ++ [((J.gen + 1) % 2, superBytes J.nexts)]) _ _ = _
    rw [readAt_snoc, if_pos rfl]; rfl
theorem JInv.sured (h : JInv c D J Rs Rp Rn) (hs : J.stage = 3) (hg : J.gen < 1000000000000) (hsy : D.syncs < 1000000000000) : JInv c D.sync J.sured Rp [] Rn := by
  have k := h.jk
  have hgm2 : (J.gen + 1) % 2 < 2 := Nat.mod_lt _ (by omega)
  have e2 : (J.gen + 1 + 1) % 2 = J.gen % 2 := by omega
  have hr := h.sright
  refine ⟨sync_Ok h.ok hsy, k.sured hs hg, by rw [DSt.sync_l]; exact h.dl, by show 1 ≤ J.gen + 1; omega, h.rp (by omega), h.rn, fun h' => absurd rfl h', h.lp (by omega), h.nx, fun j hj => ?_, fun h' => absurd rfl h', fun h' => absurd rfl h', fun h' => ?_, ?_, fun _ => ?_, fun h' => ?_⟩
  · exact (h.p2 (.inr hs) j hj).sync
  · simp [JSt.sured] at h'
  · exact Keeps.ofSync (D := D) (i := (J.gen + 1) % 2) (P := fun x => x = superBytes J.nexts) (by have := h.dl; omega) (h.s3 hs).2
  · show Keeps D.sync ((J.gen + 1 + 1) % 2) (Old (J.gen + 1) ((J.gen + 1 + 1) % 2))
    rw [e2]
    refine h.sl.sync.mono (fun x hx t ht => ?_)
    rw [hx, slotS_super hr (J.gen % 2) rfl] at ht
    cases ht
    show J.gen < J.gen + 1
    omega
  · simp [JSt.sured] at h'
/-- a journal that was opened. -/
theorem JInv.opened {g a l : Nat} {R : List (List UInt8)} (h : JInv c D J Rs Rp Rn) (ks : List Bool) (hg : 1 ≤ g ∧ g ≤ 1000000000000) (ha : a ≤ 1) (hl : l ≤ c * 128) (hR : allRec R) (hlen : (encL R).length = l) (hb : ∀ k, k < l → (D.crash ks).byteAt (pl c a + k) = (encL R).getD k 0)
    (h1 : (D.crash ks).read (g % 2) = superBytes ⟨g, a, l⟩) (h2 : Old g ((g + 1) % 2) ((D.crash ks).read ((g + 1) % 2))) : JInv c (D.crash ks) (JSt.new g a l) R [] [] := by
  have k := h.jk
  refine ⟨crash_Ok h.ok ks, ⟨k.c1, k.c2, ha, by simp [JSt.new], .inl (by simpa [JSt.new] using hl), .inr rfl, hl, by simp [JSt.new], by simp [JSt.new], by simp [JSt.new], by simp [JSt.new], by simp [JSt.new], by simp [JSt.new], hg.2⟩, by rw [crash_l]; exact h.dl, hg.1, hR, allRec.nil, fun h' => absurd rfl h', hlen, rfl, fun j hj => Keeps.ofCrash ks (hb j hj), fun h' => absurd rfl h', fun h' => absurd rfl h', fun h' => ?_, Keeps.ofCrash ks h1, fun _ => Keeps.ofCrash ks h2, fun h' => ?_⟩
  · simp [JSt.new] at h'
  · simp [JSt.new] at h'
/-- what Open finds. -/
structure Found (c : Nat) (D : DSt) (g a l : Nat) (R : List (List UInt8)) : Prop where
  new : newestS (D.read 0) (D.read 1) = some ⟨g, a, l⟩
  a1 : a ≤ 1
  ll : l ≤ c * 128
  rec_ : allRec R
  seg : D.seg (pl c a) l = encL R
  inv : JInv c D (JSt.new g a l) R [] []
theorem seg_of {D : DSt} {q l : Nat} {b : List UInt8} (hl : b.length = l) (h : ∀ k, k < l → D.byteAt (q + k) = b.getD k 0) : D.seg q l = b :=
  ext_getD (by rw [seg_length, hl]) (fun j hj => by rw [seg_length] at hj; rw [seg_getD _ _ _ _ hj, h j hj])
theorem JInv.crashed (h : JInv c D J Rs Rp Rn) (hg : J.gen < 1000000000000) (ks : List Bool) : ∃ g a l R, Found c (D.crash ks) g a l R ∧ (R = Rs ∨ (J.stage = 3 ∧ R = Rp)) := by
  have k := h.jk
  have e2 : (J.gen + 1 + 1) % 2 = J.gen % 2 := by omega
  have hold : Old J.gen ((J.gen + 1) % 2) ((D.crash ks).read ((J.gen + 1) % 2)) → ∃ g a l R, Found c (D.crash ks) g a l R ∧ (R = Rs ∨ (J.stage = 3 ∧ R = Rp)) := fun ho => by
    have hr : (D.crash ks).read (J.gen % 2) = superBytes J.s := (h.sl.crash ks).read
    have hby : ∀ k, k < J.len → (D.crash ks).byteAt (pl c J.area + k) = (encL Rs).getD k 0 := fun k hk => Keeps.read ((h.ss k hk).crash ks)
    exact ⟨J.gen, J.area, J.len, Rs, ⟨newest_old h.sright _ hr ho, k.a1, k.le, h.rs, seg_of h.ls hby, h.opened ks ⟨h.g1, k.gn⟩ k.a1 k.le h.rs h.ls hby hr ho⟩, .inl rfl⟩
  by_cases h3 : J.stage = 3
  · rcases ((h.s3 h3).1.crash ks).read with ho | hn
    · exact hold ho
    · have hr : (D.crash ks).read (J.gen % 2) = superBytes J.s := (h.sl.crash ks).read
      have hby : ∀ k, k < J.length → (D.crash ks).byteAt (pl c J.half + k) = (encL Rp).getD k 0 := fun k hk => Keeps.read ((h.p2 (.inr h3) k hk).crash ks)
      refine ⟨J.gen + 1, J.half, J.length, Rp, ⟨newest_both h.sright h.nright rfl _ hr hn, k.h1, k.lg, h.rp (by omega), seg_of (h.lp (by omega)) hby, h.opened ks ⟨by omega, by omega⟩ k.h1 k.lg (h.rp (by omega)) (h.lp (by omega)) hby hn ?_⟩, .inr ⟨h3, rfl⟩⟩
      rw [e2, hr]
      intro t ht
      rw [slotS_super h.sright (J.gen % 2) rfl] at ht
      cases ht
      show J.gen < J.gen + 1
      omega
  · exact hold ((h.so h3).crash ks).read
/-- a journal without records. -/
theorem JInv.format (n : Nat) (h4 : 4 ≤ n) (hn : n ≤ 4096) : JInv ((n - 2) / 2) ((DSt.new n).write 1 (superBytes ⟨1, 0, 0⟩)).sync (JSt.new 1 0 0) [] [] [] := by
  have hl : ((DSt.new n).write 1 (superBytes ⟨1, 0, 0⟩)).sync.l.length = n := by rw [DSt.sync_l]; simp [DSt.write, DSt.new]
  have hw : ((DSt.new n).write 1 (superBytes ⟨1, 0, 0⟩)).l.length = n := by simp [DSt.write, DSt.new]
  have hr0 : ((DSt.new n).write 1 (superBytes ⟨1, 0, 0⟩)).read 0 = zsec := by
    show readAt ([] ++ [(1, _)]) 0 _ = _
    rw [readAt_snoc, if_neg (by decide)]
    exact new_read n 0 (by omega)
  have hr1 : ((DSt.new n).write 1 (superBytes ⟨1, 0, 0⟩)).read 1 = superBytes ⟨1, 0, 0⟩ := by
    show readAt ([] ++ [(1, _)]) 1 _ = _
    rw [readAt_snoc, if_pos rfl]
  refine ⟨sync_Ok (write_Ok (DSt.new_ok n hn) _ _ (by simp [DSt.new]; omega) (superBytes_length _) (by simp [DSt.new])) (by simp [DSt.new, DSt.write]), ⟨by omega, by omega, by simp [JSt.new], by simp [JSt.new], .inl (by simp [JSt.new]), .inr rfl, by simp [JSt.new], by simp [JSt.new], by simp [JSt.new], by simp [JSt.new], by simp [JSt.new], by simp [JSt.new], by simp [JSt.new], by simp [JSt.new]⟩, by omega, by simp [JSt.new], allRec.nil, allRec.nil, fun h' => absurd rfl h', rfl, rfl, fun k hk => by simp [JSt.new] at hk, fun h' => absurd rfl h', fun h' => absurd rfl h', fun h' => ?_, ?_, fun _ => ?_, fun h' => ?_⟩
  · simp [JSt.new] at h'
  · exact Keeps.ofSync (i := 1) (P := fun x => x = superBytes ⟨1, 0, 0⟩) (by omega) hr1
  · exact Keeps.ofSync (i := 0) (P := Old 1 0) (by omega) (by rw [hr0]; intro t ht; rw [slotS_zero] at ht; cases ht)
  · simp [JSt.new] at h'
end
end Go.Proofs.Ytnnhklembdaieaa
namespace Go.Proofs.Ytnnhklembdaieaa
open Go.RowKit
set_option linter.unusedSimpArgs false
set_option linter.unusedVariables false
set_option maxRecDepth 100000

/-- bounds, behind k calls. -/
structure Bud (k : Nat) (D : DSt) (J : JSt) : Prop where
  w : D.waits.length ≤ 600000 * k
  r : D.writes ≤ 600000 * k
  s : D.syncs ≤ k * 2
  g : J.gen ≤ k * 2
  a : J.all ≤ k
theorem Bud.more {k k' : Nat} {D : DSt} {J : JSt} (h : Bud k D J) (hk : k ≤ k') : Bud k' D J :=
  ⟨by have := h.w; omega, by have := h.r; omega, by have := h.s; omega, by have := h.g; omega, by have := h.a; omega⟩
/-- what it holds in the end: A. -/
structure JCont (J : JSt) (Rs Rp Rn A : List (List UInt8)) : Prop where
  c0 : J.stage = 0 → A = Rs ++ Rn ∧ J.all = J.done + Rn.length
  c1 : J.stage ≠ 0 → A = Rp ++ Rn ∧ J.all = J.pdone + Rn.length ∧ J.done ≤ J.pdone
structure JAll (c k : Nat) (D : DSt) (J : JSt) (Rs Rp Rn A : List (List UInt8)) : Prop where
  inv : JInv c D J Rs Rp Rn
  cont : JCont J Rs Rp Rn A
  bud : Bud k D J
  hk : k ≤ 1000
/-- the counts are those of the records. -/
def JPre (J : JSt) (Rs A : List (List UInt8)) : Prop := A.length = J.all ∧ Rs = A.take J.done
/-- a plan has something new. -/
def JStrict (J : JSt) : Prop := J.stage ≠ 0 → J.done < J.pdone
/-- how many steps are left. -/
def meas (J : JSt) : Nat := (if J.stage = 0 then 0 else 4 - J.stage) + (if J.next.length = 0 then 0 else 4)
theorem encL_nil_iff {l : List (List UInt8)} : (encL l).length = 0 ↔ l = [] := by
  constructor
  · intro h
    cases l with
    | nil => rfl
    | cons a t => simp [encL, frameL] at h
  · rintro rfl; rfl
section
variable {c k : Nat} {D : DSt} {J : JSt} {Rs Rp Rn A : List (List UInt8)}
theorem JAll.done_le (h : JAll c k D J Rs Rp Rn A) : J.done ≤ J.all := by
  by_cases hs : J.stage = 0
  · have := (h.cont.c0 hs).2; omega
  · have := (h.cont.c1 hs).2; omega
theorem JAll.next_nil (h : JAll c k D J Rs Rp Rn A) : J.next.length = 0 ↔ Rn = [] := by rw [h.inv.nx]; exact encL_nil_iff
theorem JAll.all_rec (h : JAll c k D J Rs Rp Rn A) : allRec A := by
  by_cases hs : J.stage = 0
  · rw [(h.cont.c0 hs).1]; exact h.inv.rs.append h.inv.rn
  · rw [(h.cont.c1 hs).1]; exact (h.inv.rp hs).append h.inv.rn
theorem JAll.app (h : JAll c k D J Rs Rp Rn A) (hk : k < 1000) (r : List UInt8) (hr : isRec r.length = true) (hf : jfits c J (r.length : Int) = true) :
    JAll c (k + 1) D (J.app r) Rs Rp (Rn ++ [r]) (A ++ [r]) ∧ (JPre J Rs A → JPre (J.app r) Rs (A ++ [r])) ∧ (JStrict J → JStrict (J.app r)) := by
  have b := h.bud
  have hd := h.done_le
  refine ⟨⟨h.inv.app r hr hf (by have := b.a; omega), ⟨fun hs => ?_, fun hs => ?_⟩, ⟨by have := b.w; omega, by have := b.r; omega, by have := b.s; omega, by have := b.g; show J.gen ≤ _; omega, by have := b.a; show J.all + 1 ≤ _; omega⟩, by omega⟩, fun hp => ⟨?_, ?_⟩, fun hs => hs⟩
  · obtain ⟨h1, h2⟩ := h.cont.c0 hs
    exact ⟨by rw [h1, List.append_assoc], by show J.all + 1 = J.done + _; rw [h2, List.length_append]; rfl⟩
  · obtain ⟨h1, h2, h3⟩ := h.cont.c1 hs
    exact ⟨by rw [h1, List.append_assoc], by show J.all + 1 = J.pdone + _; rw [h2, List.length_append]; rfl, h3⟩
  · show (A ++ [r]).length = J.all + 1
    rw [List.length_append, hp.1]; rfl
  · show Rs = (A ++ [r]).take J.done
    rw [List.take_append_of_le_length (by rw [hp.1]; exact hd)]; exact hp.2
theorem JAll.bounds (h : JAll c k D J Rs Rp Rn A) : D.waits.length + c * 128 ≤ 1000000000 ∧ D.writes + c * 128 ≤ 1000000000000 ∧ D.syncs < 1000000000000 ∧ J.gen < 1000000000000 := by
  have := h.bud.w; have := h.bud.r; have := h.bud.s; have := h.bud.g; have := h.hk; have := h.inv.jk.c2
  omega
/-- nothing is to be done. -/
theorem JAll.none_ (h : JAll c k D J Rs Rp Rn A) (hm : J.stage = 0 ∧ J.next.length = 0) : jstep c D J = (D, J, 4) := by
  unfold jstep; rw [if_pos hm.1, if_pos hm.2]
theorem JAll.step (h : JAll c k D J Rs Rp Rn A) (hk : k < 1000) (hm : ¬ (J.stage = 0 ∧ J.next.length = 0)) : (jstep c D J).2.2 = 0 ∧ meas (jstep c D J).2.1 + 1 = meas J ∧ (jstep c D J).1.l.length = D.l.length ∧ ∃ Rs' Rp' Rn', JAll c (k + 1) (jstep c D J).1 (jstep c D J).2.1 Rs' Rp' Rn' A ∧
    (JPre J Rs A → JPre (jstep c D J).2.1 Rs' A) ∧ (JStrict J → JStrict (jstep c D J).2.1) ∧ (jstep c D J).2.1.all = J.all ∧ (J.stage = 0 → (jstep c D J).2.1.stage = 1) ∧ (J.stage ≠ 3 → Rs' = Rs) := by
  have b := h.bud
  have hb := h.bounds
  have hk' := h.inv.jk
  have hst := hk'.st
  by_cases h0 : J.stage = 0
  · have hn : J.next.length ≠ 0 := fun e => hm ⟨h0, e⟩
    have e : jstep c D J = (D.put (pl c J.area + J.len) J.next, J.begun J.area J.len J.next.length, 0) := by
      unfold jstep; rw [if_pos h0, if_neg hn]; rfl
    obtain ⟨hA, hall⟩ := h.cont.c0 h0
    have hfit : J.len + J.next.length ≤ c * 128 := by have := hk'.l1; omega
    have hpb := pl_bounds (c := c) hk'.a1 hfit h.inv.dl
    have hput := put_Ok h.inv.ok (pl c J.area + J.len) J.next (by omega) (by omega)
    have hi := h.inv.begun (by omega) J.area J.len J.next (Rs ++ Rn) (h.inv.rs.append h.inv.rn) (by rw [encL_append, List.take_of_length_le (by rw [h.inv.ls]; exact Nat.le_refl _), h.inv.nx]) (.inl ⟨rfl, rfl⟩) hfit (by omega)
    rw [e]
    refine ⟨rfl, ?_, by rw [put_l], Rs, Rs ++ Rn, [], ⟨hi, ⟨fun h' => ?_, fun _ => ⟨?_, ?_, ?_⟩⟩, ⟨?_, ?_, ?_, ?_, ?_⟩, by omega⟩, fun hp => hp, fun _ _ => ?_, rfl, fun _ => rfl, fun _ => rfl⟩
    · simp [meas, JSt.begun, h0, hn]
    · simp [JSt.begun] at h'
    · rw [List.append_nil]; exact hA
    · rfl
    · exact h.done_le
    · have := hput.2.1; have := b.w; have := hk'.ln; have := hk'.c2; show (D.put _ _).waits.length ≤ _; omega
    · have := hput.2.2; have := b.r; have := hk'.ln; have := hk'.c2; show (D.put _ _).writes ≤ _; omega
    · have := b.s; show (D.put _ _).syncs ≤ _; rw [put_syncs]; omega
    · have := b.g; show J.gen ≤ _; omega
    · have := b.a; show J.all ≤ _; omega
    · show J.done < J.all
      have : Rn ≠ [] := fun e => hn (h.next_nil.2 e)
      have := List.length_pos_iff.2 this
      omega
  · obtain ⟨hA, hall, hdp⟩ := h.cont.c1 h0
    by_cases h1 : J.stage = 1
    · have e : jstep c D J = (D.sync, { J with stage := 2 }, 0) := by unfold jstep; rw [if_neg h0, if_pos h1]
      rw [e]
      refine ⟨rfl, ?_, DSt.sync_l D, Rs, Rp, Rn, ⟨h.inv.synced h1 (by omega), ⟨fun h' => by simp at h', fun _ => ⟨hA, hall, hdp⟩⟩, ⟨?_, ?_, ?_, ?_, ?_⟩, by omega⟩, fun hp => hp, fun hp h' => hp (by omega), rfl, fun h' => absurd h' h0, fun _ => rfl⟩
      · simp [meas, h1]; omega
      · simp [DSt.sync]
      · have := b.r; show D.writes ≤ _; omega
      · have := b.s; show D.syncs + 1 ≤ _; omega
      · have := b.g; show J.gen ≤ _; omega
      · have := b.a; show J.all ≤ _; omega
    · by_cases h2 : J.stage = 2
      · have e : jstep c D J = (D.write ((J.gen + 1) % 2) (superBytes J.nexts), { J with stage := 3 }, 0) := by unfold jstep; rw [if_neg h0, if_neg h1, if_pos h2]
        rw [e]
        refine ⟨rfl, ?_, rfl, Rs, Rp, Rn, ⟨h.inv.said h2 (by have := hk'.c1; omega), ⟨fun h' => by simp at h', fun _ => ⟨hA, hall, hdp⟩⟩, ⟨?_, ?_, ?_, ?_, ?_⟩, by omega⟩, fun hp => hp, fun hp h' => hp (by omega), rfl, fun h' => absurd h' h0, fun _ => rfl⟩
        · simp [meas, h2]; omega
        · have := b.w; simp only [DSt.write, List.length_append, List.length_cons, List.length_nil]; omega
        · have := b.r; show D.writes + 1 ≤ _; omega
        · have := b.s; show D.syncs ≤ _; omega
        · have := b.g; show J.gen ≤ _; omega
        · have := b.a; show J.all ≤ _; omega
      · have h3 : J.stage = 3 := by omega
        have e : jstep c D J = (D.sync, J.sured, 0) := by unfold jstep; rw [if_neg h0, if_neg h1, if_neg h2]
        rw [e]
        refine ⟨rfl, ?_, DSt.sync_l D, Rp, [], Rn, ⟨h.inv.sured h3 (by omega) (by omega), ⟨fun _ => ⟨hA, hall⟩, fun h' => absurd rfl h'⟩, ⟨?_, ?_, ?_, ?_, ?_⟩, by omega⟩, fun hp => ⟨hp.1, ?_⟩, fun _ h' => absurd rfl h', rfl, fun h' => absurd h' h0, fun h' => absurd h3 h'⟩
        · simp [meas, h3, JSt.sured]; omega
        · simp [DSt.sync]
        · have := b.r; show D.writes ≤ _; omega
        · have := b.s; show D.syncs + 1 ≤ _; omega
        · have := b.g; show J.gen + 1 ≤ _; omega
        · have := b.a; show J.all ≤ _; omega
        · show Rp = A.take J.pdone
          have hl : A.length = J.all := hp.1
          rw [hA, List.length_append] at hl
          rw [hA, List.take_append_of_le_length (by omega), List.take_of_length_le (by omega)]
/-- written anew. -/
theorem JAll.anew (h : JAll c k D J Rs Rp Rn A) (hk : k < 1000) (l : List (List UInt8)) (hl : allRec l) (hfit : (encL l).length ≤ c * 128) : (janew c D J l).2.2 = 0 ∧ (janew c D J l).1.l.length = D.l.length ∧ ∃ Rs', JAll c (k + 1) (janew c D J l).1 (janew c D J l).2.1 Rs' l [] l ∧
    (janew c D J l).2.1.stage = 1 ∧ (janew c D J l).2.1.next.length = 0 ∧ (JPre J Rs A → l = A → JPre (janew c D J l).2.1 Rs' l) := by
  have b := h.bud
  have hb := h.bounds
  have hk' := h.inv.jk
  have hst := hk'.st
  have hd := h.done_le
  have hall : l.all (fun r => isRec r.length) = true := List.all_eq_true.2 hl
  by_cases h3 : J.stage = 3
  · have e : janew c D J l = (D.sync.put (pl c (1 - J.half) + 0) (encL l), J.sured.begun (1 - J.half) 0 (encL l).length, 0) := by unfold janew; rw [if_pos hall, if_pos hfit, if_pos h3]; rfl
    rw [e]
    obtain ⟨hA, hall, hdp⟩ := h.cont.c1 (by omega)
    have hs := h.inv.sured h3 (by omega) (by omega)
    have hc : D.sync.waits.length + (encL l).length ≤ 1000000000 ∧ D.sync.writes + (encL l).length ≤ 1000000000000 := by simp only [DSt.sync, List.length_nil]; omega
    have hpb := pl_bounds (c := c) (h := 1 - J.half) (k := (encL l).length) (by omega) hfit hs.dl
    have hput := put_Ok hs.ok (pl c (1 - J.half) + 0) (encL l) (by omega) hc
    have hi := hs.begun (by simp [JSt.sured]) (1 - J.half) 0 (encL l) l hl (by simp) (.inr ⟨rfl, rfl⟩) (by omega) hc
    refine ⟨rfl, by rw [put_l, DSt.sync_l], Rp, ⟨hi, ⟨fun h' => by simp [JSt.begun] at h', fun _ => ⟨by simp, rfl, ?_⟩⟩, ⟨?_, ?_, ?_, ?_, ?_⟩, by omega⟩, rfl, rfl, fun hp hlA => ⟨?_, ?_⟩⟩
    · show J.pdone ≤ J.all; omega
    · have := hput.2.1; simp only [DSt.sync, List.length_nil] at this; have := hk'.c2; show (D.sync.put _ _).waits.length ≤ _; simp only [DSt.sync]; omega
    · have := hput.2.2; simp only [DSt.sync] at this; have := b.r; have := hk'.c2; show (D.sync.put _ _).writes ≤ _; simp only [DSt.sync]; omega
    · have := b.s; show (D.sync.put _ _).syncs ≤ _; rw [put_syncs]; simp only [DSt.sync]; omega
    · have := b.g; show J.gen + 1 ≤ _; omega
    · have := b.a; show J.all ≤ _; omega
    · rw [hlA]; exact hp.1
    · show Rp = l.take J.pdone
      have hl : A.length = J.all := hp.1
      rw [hlA]
      rw [hA, List.length_append] at hl
      rw [hA, List.take_append_of_le_length (by omega), List.take_of_length_le (by omega)]
  · have e : janew c D J l = (D.put (pl c (1 - J.area) + 0) (encL l), J.begun (1 - J.area) 0 (encL l).length, 0) := by unfold janew; rw [if_pos hall, if_pos hfit, if_neg h3]; rfl
    rw [e]
    have hpb := pl_bounds (c := c) (h := 1 - J.area) (k := (encL l).length) (by omega) hfit h.inv.dl
    have hput := put_Ok h.inv.ok (pl c (1 - J.area) + 0) (encL l) (by omega) (by omega)
    have hi := h.inv.begun h3 (1 - J.area) 0 (encL l) l hl (by simp) (.inr ⟨rfl, rfl⟩) (by omega) (by omega)
    refine ⟨rfl, by rw [put_l], Rs, ⟨hi, ⟨fun h' => by simp [JSt.begun] at h', fun _ => ⟨by simp, rfl, hd⟩⟩, ⟨?_, ?_, ?_, ?_, ?_⟩, by omega⟩, rfl, rfl, fun hp hlA => ⟨?_, ?_⟩⟩
    · have := hput.2.1; have := b.w; have := hk'.c2; show (D.put _ _).waits.length ≤ _; omega
    · have := hput.2.2; have := b.r; have := hk'.c2; show (D.put _ _).writes ≤ _; omega
    · have := b.s; show (D.put _ _).syncs ≤ _; rw [put_syncs]; omega
    · have := b.g; show J.gen ≤ _; omega
    · have := b.a; show J.all ≤ _; omega
    · rw [hlA]; exact hp.1
    · show Rs = l.take J.done
      rw [hlA]; exact hp.2
theorem JAll.format (n : Nat) (h4 : 4 ≤ n) (hn : n ≤ 4096) : JAll ((n - 2) / 2) 1 ((DSt.new n).write 1 (superBytes ⟨1, 0, 0⟩)).sync (JSt.new 1 0 0) [] [] [] [] ∧ JPre (JSt.new 1 0 0) [] [] ∧ JStrict (JSt.new 1 0 0) :=
  ⟨⟨JInv.format n h4 hn, ⟨fun _ => ⟨rfl, rfl⟩, fun h' => absurd rfl h'⟩, ⟨by simp [DSt.sync], by simp [DSt.sync, DSt.write, DSt.new], by simp [DSt.sync, DSt.write, DSt.new], by simp [JSt.new], by simp [JSt.new]⟩, by omega⟩, ⟨rfl, rfl⟩, fun h' => absurd rfl h'⟩
/-- it is sure of all: nothing waits. -/
theorem JAll.sure_all (h : JAll c k D J Rs Rp Rn A) (hd : ¬ J.done < J.all) : Rn = [] := by
  by_cases hs : J.stage = 0
  · have := (h.cont.c0 hs).2
    exact List.eq_nil_of_length_eq_zero (by omega)
  · have := (h.cont.c1 hs).2
    exact List.eq_nil_of_length_eq_zero (by omega)
theorem JAll.some_left (h : JAll c k D J Rs Rp Rn A) (hd : J.done < J.all) : ¬ (J.stage = 0 ∧ J.next.length = 0) := by
  rintro ⟨h0, hn⟩
  have := (h.cont.c0 h0).2
  rw [h.next_nil] at hn
  subst hn
  simp at this
  omega
theorem meas_le (J : JSt) : meas J ≤ 7 := by unfold meas; split <;> split <;> omega
theorem meas_none {J : JSt} (hs : J.stage ≤ 3) (h : meas J = 0) : J.stage = 0 ∧ J.next.length = 0 := by
  unfold meas at h
  split at h <;> split at h <;> omega
end
end Go.Proofs.Ytnnhklembdaieaa
