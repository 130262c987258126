/- DiskKeeps: the walk. -/
import Derived.Test.YtnnhklembdaieaaLastW
import Derived.Test.YtnnhklembdaieaaRefB
import Derived.Deep.CutRange
import Derived.Deep.DeepCutAuto
import Derived.Deep.CutBlock
import Derived.Test.YtnnhklembdaieaaKeepsA
namespace Go.Proofs.Ytnnhklembdaieaa
open Go.RowKit
set_option linter.unusedSimpArgs false
set_option linter.unusedVariables false

/-- the disk alone. -/
structure OneI (w0 w : World) (d bl : Nat) (wv : Value) (s : DSt) (k z : Nat) : Prop where
  hd : DiskAt w w0.heap.size d bl wv s
  hn : s.l.length = 8
  h1 : s.waits.length ≤ k
  h2 : s.writes ≤ k
  h3 : s.syncs ≤ z
  low : Below w0.heap.size w0 w
theorem OneI.below {w0 w w' : World} {B d bl k z : Nat} {wv : Value} {s : DSt} (h : OneI w0 w d bl wv s k z) (hb : Below B w w') (hB : w.heap.size ≤ B) : OneI w0 w' d bl wv s k z :=
  ⟨h.hd.below hb hB, h.hn, h.h1, h.h2, h.h3, h.low.trans (hb.mono (Nat.le_trans h.low.size hB))⟩
theorem OneI.fr {w0 w w' : World} {d bl k z : Nat} {wv wv' : Value} {s s' : DSt} (h : OneI w0 w d bl wv s k z) (hf : Fr (dfoot d bl wv) w w') (hd : DiskAt w' w0.heap.size d bl wv' s') (hn : s'.l.length = 8) {k' z' : Nat} (h1 : s'.waits.length ≤ k') (h2 : s'.writes ≤ k') (h3 : s'.syncs ≤ z') : OneI w0 w' d bl wv' s' k' z' :=
  ⟨hd, hn, h1, h2, h3, h.low.trans (hf.below h.low.size (fun k hk => (h.hd.low k hk).1))⟩

/-- a write of a sector's text, wherever. -/
theorem write_any (base d bl : Nat) (wv : Value) (s : DSt) (hpos : 4 ≤ s.l.length) (i : Int) (g : Nat) (p : List UInt8) (hp : p.length = 128) (hcnt : s.waits.length < 1000000000 ∧ s.writes < 1000000000000) (w : World) (h : DiskAt w base d bl wv s) (hg : Blk w g 5 (bvs p).toArray) :
    Calls Try.prog 24 #[.pointer (some ⟨d, 0, none⟩), .int .i64 i, .slice (some ⟨g, 0, none⟩) 128 128] w fun e w' => ∃ (r : Int) (s' : DSt) (wv' : Value), e = .returned (.int .i64 r) ∧ s'.l.length = s.l.length ∧ s'.waits.length ≤ s.waits.length + 1 ∧ s'.writes ≤ s.writes + 1 ∧ s'.syncs = s.syncs ∧ DiskAt w' base d bl wv' s' ∧ Fr (dfoot d bl wv) w w' := by
  by_cases hi : 0 ≤ i ∧ i < s.l.length
  · obtain ⟨j, rfl⟩ := Int.eq_ofNat_of_zero_le hi.1
    refine (writeE w base d bl wv s h j (by omega) g 5 128 p hp hg (by decide) hcnt).mono ?_
    rintro e w' ⟨rfl, wv', h', f'⟩
    exact ⟨0, s.write j p, wv', rfl, rfl, by simp [DSt.write], by simp [DSt.write], rfl, h', f'⟩
  · refine (writeBad w base d bl wv s h i hi (by omega) _).mono ?_
    rintro e w' ⟨rfl, rfl⟩
    exact ⟨1, s, wv, rfl, rfl, by omega, by omega, rfl, h, Fr.refl _ _⟩

/-- two rows that grow. -/
structure R3 (S : Nat → Prop) (w0 w : World) (base gb ob : Nat) (bytes : List Value) (va vt : Value) (na nt : Nat) (xa xt : List Value) : Prop where
  fr : Fr S w0 w
  ha : w.ownsRow base 3 1 va na xa
  ht : w.ownsRow base 9 1 vt nt xt
  fa : ∀ k, va.ownBlock = some k → S k ∨ w0.heap.size ≤ k
  ft : ∀ k, vt.ownBlock = some k → S k ∨ w0.heap.size ≤ k
  hr : w.rangeAt gb ob bytes
  hg : gb < w.heap.size
  ga : va.ownBlock ≠ some gb
  gt : vt.ownBlock ≠ some gb
section
variable {S : Nat → Prop} {w0 w w' : World} {base gb ob : Nat} {bytes : List Value} {va vt : Value} {na nt : Nat} {xa xt : List Value}
theorem R3.alloc (h : R3 S w0 w base gb ob bytes va vt na nt xa xt) (o : Obj) : R3 S w0 (w.alloc o) base gb ob bytes va vt na nt xa xt :=
  ⟨h.fr.alloc o, h.ha.alloc o, h.ht.alloc o, h.fa, h.ft, World.rangeAt_alloc h.hr o, by have := h.hg; simp; omega, h.ga, h.gt⟩
theorem R3.appA (h : R3 S w0 w base gb ob bytes va vt na nt xa xt) {g cap m : Nat} {xs : List Value} (hown : w'.ownsRow base 3 1 (.slice (some ⟨g, 0, none⟩) m cap) m xs) (hgr : w.grownBy w' va.ownBlock) (hat : va.ownBlock = some g ∨ g = w.heap.size) :
    R3 S w0 w' base gb ob bytes (.slice (some ⟨g, 0, none⟩) m cap) vt m nt xs xt := by
  have hsz := h.fr.size
  refine ⟨h.fr.grown hgr h.fa, hown, h.ht.kept hgr (own_own h.ht h.ha (by decide)), ?_, h.ft, ?_, ?_, ?_, h.gt⟩
  · intro k hk
    simp [Value.ownBlock] at hk
    subst hk
    rcases hat with h1 | h1
    · exact h.fa _ h1
    · right; omega
  · intro j v hv
    have := h.hr j v hv
    exact (World.cell?_of_block (w := w) (hgr.block gb h.hg (fun e => h.ga e.symm))).trans this
  · have := hgr.size; have := h.hg; omega
  · simp only [Value.ownBlock, ne_eq, Option.some.injEq]
    rintro rfl
    rcases hat with h1 | h1
    · exact h.ga h1
    · have := h.hg; omega
theorem R3.appT (h : R3 S w0 w base gb ob bytes va vt na nt xa xt) {g cap m : Nat} {xs : List Value} (hown : w'.ownsRow base 9 1 (.slice (some ⟨g, 0, none⟩) m cap) m xs) (hgr : w.grownBy w' vt.ownBlock) (hat : vt.ownBlock = some g ∨ g = w.heap.size) :
    R3 S w0 w' base gb ob bytes va (.slice (some ⟨g, 0, none⟩) m cap) na m xa xs := by
  have hsz := h.fr.size
  refine ⟨h.fr.grown hgr h.ft, h.ha.kept hgr (own_own h.ha h.ht (by decide)), hown, h.fa, ?_, ?_, ?_, h.ga, ?_⟩
  · intro k hk
    simp [Value.ownBlock] at hk
    subst hk
    rcases hat with h1 | h1
    · exact h.ft _ h1
    · right; omega
  · intro j v hv
    have := h.hr j v hv
    exact (World.cell?_of_block (w := w) (hgr.block gb h.hg (fun e => h.gt e.symm))).trans this
  · have := hgr.size; have := h.hg; omega
  · simp only [Value.ownBlock, ne_eq, Option.some.injEq]
    rintro rfl
    rcases hat with h1 | h1
    · exact h.gt h1
    · have := h.hg; omega
end
/-- the rows of what was written. -/
structure RowsI (w : World) (base : Nat) (va vt : Value) (s : DSt) : Prop where
  ha : w.ownsRow base 3 1 va s.waits.length (s.waits.map fun p => .int .i64 (p.1 : Int))
  ht : w.ownsRow base 9 1 vt s.waits.length (s.waits.map fun p => strv p.2)
theorem RowsI.below {w w' : World} {B base : Nat} {va vt : Value} {s : DSt} (h : RowsI w base va vt s) (hb : Below B w w') (hB : w.heap.size ≤ B) : RowsI w' base va vt s :=
  ⟨Fr.own h.ha (Fr.ofBelow hb) (fun k hk => by have := (h.ha.lt k hk).2; omega), Fr.own h.ht (Fr.ofBelow hb) (fun k hk => by have := (h.ht.lt k hk).2; omega)⟩
theorem RowsI.off {w : World} {base b2 d bl : Nat} {wv va vt : Value} {s s' : DSt} (h : RowsI w base va vt s) (hd : DiskAt w b2 d bl wv s') : (∀ k, va.ownBlock = some k → ¬ dfoot d bl wv k) ∧ (∀ k, vt.ownBlock = some k → ¬ dfoot d bl wv k) :=
  ⟨hd.offOwn h.ha (by decide) (by decide) (by decide), hd.offOwn h.ht (by decide) (by decide) (by decide)⟩
theorem RowsI.fr {w w' : World} {base b2 d bl : Nat} {wv va vt : Value} {s s' : DSt} (h : RowsI w base va vt s) (hd : DiskAt w b2 d bl wv s') (hf : Fr (dfoot d bl wv) w w') : RowsI w' base va vt s :=
  ⟨Fr.own h.ha hf (h.off hd).1, Fr.own h.ht hf (h.off hd).2⟩

set_option maxRecDepth 100000 in
set_option maxHeartbeats 12800000 in
theorem keeps_any (w : World) (A : Option Addr) (c : Nat) (ah : List OpM) (hah : OpsAt w A ah) (B : Option Addr) (cb : Nat) (ops : List OpM) (hops : OpsAt w B ops) (K : Option Addr) (kn kc : Nat) (ks : List Bool) (hks : SlAt w K kn (ks.map .bool)) (hkm : kn ≤ 9223372036854775807) :
    Calls Try.prog 5 #[.slice A ah.length c, .slice B ops.length cb, .slice K kn kc] w fun e w' => e = .returned (.bool true) ∧ Below w.heap.size w w' := by
  have hkN : ∀ a, K = some a → 0 < kn → a.block < w.heap.size := fun a ha hn => hks.lt a ha hn
  have hlen := hah.1
  obtain ⟨m, hm⟩ : ∃ m, ah.length = m := ⟨_, rfl⟩
  rw [hm]
  have HM := hide hm
  rw [hm] at hlen
  have hlen2 := hops.1
  obtain ⟨m2, hm2⟩ : ∃ m2, ops.length = m2 := ⟨_, rfl⟩
  rw [hm2]
  have HM2 := hide hm2
  rw [hm2] at hlen2
  clear hm hm2
  go_enter Try.func5, Try.ntmps5
  go_wp2_with fail
  refine (newE 8 w (by omega) (by omega)).mono ?_
  rintro e w1 ⟨d, bl, rfl, k1, b1⟩
  have HI0 := hide (⟨k1, by simp [DSt.new], by simp [DSt.new], by simp [DSt.new], by simp [DSt.new], b1⟩ : OneI w w1 d bl (.slice none 0 0) (DSt.new 8) 0 0)
  clear k1 b1
  go_upto_block 0 with fail
  go_cut [9] (fun s9 wx => ∃ (s : DSt) (wv : Value), OneI w wx d bl wv s 40 0)
  case first =>
    go_wp2_with fail
    go_loopw [9] (fun i wr => ∃ (k : Nat) (s : DSt) (wv : Value), k ≤ m ∧ k ≤ 40 ∧ i = .int .i64 k ∧ OneI w wr d bl wv s k 0) (fun i _ => 40 - (intOf i).toNat)
    case atStart => exact ⟨0, _, _, by omega, by omega, rfl, HI0.out⟩
    case round =>
      clear HI0
      obtain ⟨k, s, wv, hkm2, hk40, rfl, hI⟩ := hrel
      have HI := hide hI
      clear hI
      by_cases hlt : k < m ∧ k < 40
      · obtain ⟨hlt1, hlt2⟩ := hlt
        obtain ⟨g, o, rfl, hgl, hops2⟩ := hah.2 (by rw [HM.out]; omega)
        have hkl : k < ah.length := by rw [HM.out]; exact hlt1
        obtain ⟨q, hq⟩ : ∃ q, q = ah[k] := ⟨_, rfl⟩
        have hq0 := hops2 k hkl
        rw [← hq] at hq0
        have hqw := hq0.below HI.out.low hgl
        have e0 := hqw.c0
        have hB : ∀ w', Below w.heap.size w w' → w'.cell? ⟨g, o + k * 5 + 1, none⟩ = some (.int .i64 q.i) ∧ w'.cell? ⟨g, o + k * 5 + 3, none⟩ = some (.slice q.bA q.b.length q.bc) := fun w' hb =>
          ⟨(hb.cell (p := ⟨g, o + k * 5 + 1, none⟩) hgl).trans hq0.c1, (hb.cell (p := ⟨g, o + k * 5 + 3, none⟩) hgl).trans hq0.c3⟩
        have HB := hide hB
        have HQ := hide hqw
        have hqm := hqw.mb
        have hk0 : (0 : Int) ≤ (k : Int) := by omega
        have hk1 : (k : Int) < (m : Int) := by omega
        clear hq hq0 hqw hops2 hB
        by_cases q0 : q.kind = 0
        · have t0 : (q.kind == 0) = true := by rw [q0]; rfl
          clear q0
          go_wp2_with fail
          refine wp_region_held 13 (fun w' => w'.cell? ⟨g, o + k * 5 + 1, none⟩ = some (.int .i64 q.i) ∧ w'.cell? ⟨g, o + k * 5 + 3, none⟩ = some (.slice q.bA q.b.length q.bc)) (fun i => i == 11 || i == 12) (by kernel_rfl) (by kernel_rfl) (HB.out wr HI.out.low) (fun ops hops F hF => ?_)
          clear hops
          simp only [List.take_succ_cons, List.take_zero, List.drop_succ_cons, List.drop_zero] at hF ⊢
          iterate 11 (refine held_q rfl rfl ?_; apply Exists.intro; refine ⟨fun w' hw' => ?_, ?_⟩; (obtain ⟨p1, p3⟩ := hw'; go_simp; rfl); simp only [Act.put, List.setIfInBounds_toArray, List.set_cons_zero, List.set_cons_succ, Nat.reduceAdd])
          refine held_loud rfl rfl (fun K hK => ?_)
          go_simp
          refine (fillE _ _ _ q.b wr.drew HQ.out.hb hqm).mono ?_
          rintro e w3 ⟨g3, rfl, hg3, k3, b3⟩
          have b3' : Below wr.heap.size wr w3 := Below.of_drew b3
          have HI3 := hide (HI.out.below b3' (Nat.le_refl _))
          refine hK _ _ (HB.out _ HI3.out.low) ?_
          clear hK K
          simp only [Act.put, List.setIfInBounds_toArray, List.set_cons_zero, List.set_cons_succ, Nat.reduceAdd]
          refine held_loud rfl rfl (fun K hK => ?_)
          go_simp
          refine (write_any _ d bl wv s (by have := HI3.out.hn; omega) q.i g3 (pad 128 q.b) (pad_length _ _) (by have := HI3.out.h1; have := HI3.out.h2; omega) w3 HI3.out.hd k3).mono ?_
          rintro e w4 ⟨r, s4, wv4, rfl, l4, a4, c4, y4, hD4, f4⟩
          have HI4 := hide (HI3.out.fr f4 hD4 (by rw [l4]; exact HI3.out.hn) (k' := k + 1) (z' := 0) (by have := HI3.out.h1; omega) (by have := HI3.out.h2; omega) (by have := HI3.out.h3; omega))
          refine hK _ _ (HB.out _ HI4.out.low) ?_
          clear hK K hD4 f4
          simp only [Act.put, List.setIfInBounds_toArray, List.set_cons_zero, List.set_cons_succ, Nat.reduceAdd]
          refine held_nil (hF _ _ ?_)
          clear hF F
          go_wp2
          go_roundw
          case rel => exact ⟨k + 1, _, _, by omega, by omega, by go_num, HI4.out⟩
          case measure => simp [intOf]; omega
        · have t0 : (q.kind == 0) = false := by simp [q0]
          clear q0
          go_wp2
          go_roundw
          case rel => exact ⟨k + 1, _, _, by omega, by omega, by go_num, ⟨HI.out.hd, HI.out.hn, by have := HI.out.h1; omega, by have := HI.out.h2; omega, HI.out.h3, HI.out.low⟩⟩
          case measure => simp [intOf]; omega
      · rcases (show (¬ k < m) ∨ (k < m ∧ ¬ k < 40) by omega) with hx1 | hx1
        all_goals
          clear hlt
          go_wp2_with fail
          go_meet
          exact ⟨s, wv, ⟨HI.out.hd, HI.out.hn, by have := HI.out.h1; omega, by have := HI.out.h2; omega, HI.out.h3, HI.out.low⟩⟩
  case rest =>
    obtain ⟨s, wv, hI⟩ := hcut
    have HI := hide hI
    clear hI HI0
    go_wp2_with fail
    refine (sync_ok _ _ _ _ _ _ HI.out.hd (by have := HI.out.hn; omega) (by have := HI.out.h3; omega)).mono ?_
    rintro e w2 ⟨rfl, hD2, f2⟩
    obtain ⟨s1, hs1⟩ : ∃ s1, s1 = s.sync := ⟨_, rfl⟩
    rw [← hs1] at hD2
    have hw1 : s1.waits = [] := by rw [hs1]; rfl
    have hcr : s1.crash ks = s1 := by rw [hs1]; simp [DSt.sync, DSt.crash, doneKeep]
    have HI2 := hide (HI.out.fr f2 hD2 (by rw [hs1]; simp [DSt.sync, doneAll_length]; exact HI.out.hn) (k' := 40) (z' := 1) (by rw [hs1]; simp [DSt.sync]) (by rw [hs1]; exact HI.out.h2) (by rw [hs1]; have := HI.out.h3; simp only [DSt.sync]; omega))
    have HC := hide (And.intro hw1 hcr)
    clear hD2 f2 hs1 hw1 hcr HI
    go_wp2_with fail
    refine (all_ok _ _ _ _ _ _ HI2.out.hd HI2.out.hn).mono ?_
    rintro e w3 ⟨rfl, b3⟩
    have HI3 := hide (HI2.out.below b3 (Nat.le_refl _))
    clear HI2
    go_wp2_with fail
    refine (crash_ok w3 _ _ _ _ _ HI3.out.hd (by have := HI3.out.hn; omega) K kn kc ks (hks.below HI3.out.low (Nat.le_refl _)) (fun a ha hn e => by have := hkN a ha hn; have := HI3.out.hd.bb; omega) hkm).mono ?_
    rintro e w4 ⟨rfl, hD4, f4⟩
    rw [HC.out.2] at hD4
    have HI4 := hide (HI3.out.fr f4 hD4 HI3.out.hn (k' := 40) (z' := 1) HI3.out.h1 HI3.out.h2 HI3.out.h3)
    clear hD4 f4 HI3
    have zb : (bs (allOf s1)).size = 1024 := by rw [bs_size]; exact firstOf_length HI4.out.hd.ok 8 (by rw [HI4.out.hn]; omega)
    have hbe : ((bs (allOf s1)).toList != (bs (allOf s1)).toList) = false := by simp
    go_wp2_with fail
    refine (all_ok _ _ _ _ _ _ HI4.out.hd HI4.out.hn).mono ?_
    rintro e w5 ⟨rfl, b5⟩
    have HI5 := hide (HI4.out.below b5 (Nat.le_refl _))
    clear HI4
    go_upto_block 2 with fail
    obtain ⟨i0, hi0, hz0, hs0, hb0⟩ := info_parts info9
    obtain ⟨i3, hi3, hz3, hs3, hb3⟩ := info_parts info3
    have HB5 := hide (And.intro HI5.out.hd.ok HI5.out.hn)
    clear b3 b5
    go_cut [11, 12, 13] (fun va vt s13 wx => ∃ (s : DSt) (wv : Value), OneI w wx d bl wv s 80 1 ∧ s.l = s1.l ∧ RowsI wx w.heap.size va vt s)
    case first =>
      go_wp2_with fail
      go_loopw [11, 12, 13] (fun va vt i wr => ∃ (k : Nat) (s : DSt) (wv : Value), k ≤ m2 ∧ k ≤ 40 ∧ i = .int .i64 k ∧ OneI w wr d bl wv s (40 + k) 1 ∧ s.l = s1.l ∧ RowsI wr w.heap.size va vt s) (fun _ _ i _ => 40 - (intOf i).toNat)
      case atStart => exact ⟨0, s1, _, by omega, by omega, rfl, HI5.out, rfl, ⟨by rw [HC.out.1]; exact World.ownsRow_nil _ _ _ _, by rw [HC.out.1]; exact World.ownsRow_nil _ _ _ _⟩⟩
      case round =>
        clear HI5
        obtain ⟨k, s, wv, hkm2, hk40, rfl, hI, hL, hR⟩ := hrel
        have HI := hide hI
        have HL := hide hL
        have HR := hide hR
        clear hI hL hR
        by_cases hlt : k < m2 ∧ k < 40
        · obtain ⟨hlt1, hlt2⟩ := hlt
          obtain ⟨g, o, rfl, hgl, hops2⟩ := hops.2 (by rw [HM2.out]; omega)
          have hkl : k < ops.length := by rw [HM2.out]; exact hlt1
          obtain ⟨q, hq⟩ : ∃ q, q = ops[k] := ⟨_, rfl⟩
          have hq0 := hops2 k hkl
          rw [← hq] at hq0
          have hqw := hq0.below HI.out.low hgl
          have e3 := hqw.c3
          have HB := hide (And.intro (fun (w' : World) (hb : Below w.heap.size w w') => (hb.cell (p := ⟨g, o + k * 5 + 1, none⟩) hgl).trans hq0.c1) (fun (w' : World) (hb : Below w.heap.size w w') => (hb.cell (p := ⟨g, o + k * 5, none⟩) hgl).trans hq0.c0))
          have HQ := hide hqw
          have hqm := hqw.mb
          have hk0 : (0 : Int) ≤ (k : Int) := by omega
          have hk1 : (k : Int) < (m2 : Int) := by omega
          clear hq hq0 hqw hops2
          go_wp2_with fail
          refine (fillE _ _ _ q.b _ HQ.out.hb hqm).mono ?_
          rintro e w6 ⟨g3, rfl, hg3, k3, b6⟩
          have HI6 := hide (HI.out.below b6 (Nat.le_refl _))
          have HR6 := hide (HR.out.below b6 (Nat.le_refl _))
          have e0 := HB.out.2 _ HI6.out.low
          have e1 := HB.out.1 _ HI6.out.low
          clear HI HR e3
          by_cases q0 : q.kind = 0
          · have t0 : (q.kind == 0) = true := by rw [q0]; rfl
            clear q0
            by_cases hin : 0 ≤ q.i ∧ q.i < s.l.length
            · obtain ⟨j, hj⟩ := Int.eq_ofNat_of_zero_le hin.1
              have hj8 : j < s.l.length := by omega
              rw [hj] at e1
              have HJ := hide hj
              clear hj hin
              obtain ⟨pd, hpd⟩ : ∃ pd, pd = pad 128 q.b := ⟨_, rfl⟩
              rw [← hpd] at k3
              have hpl : pd.length = 128 := by rw [hpd]; exact pad_length _ _
              have HPL := hide hpl
              clear hpd hpl
              go_wp2_with fail
              refine (writeE w6 _ _ _ _ _ HI6.out.hd j hj8 g3 5 128 pd HPL.out k3 (by decide) (by have := HI6.out.h1; have := HI6.out.h2; omega)).mono ?_
              rintro e w7 ⟨rfl, wv7, hD7, f7⟩
              have HI7 := hide (HI6.out.fr f7 hD7 HI6.out.hn (k' := 40 + (k + 1)) (z' := 1) (by have := HI6.out.h1; simp [DSt.write]; omega) (by have := HI6.out.h2; simp [DSt.write]; omega) HI6.out.h3)
              have k7 := HI6.out.hd.keep f7 k3 (by decide) (by decide) (.inl (by decide))
              have HR7 := HR6.out.fr HI6.out.hd f7
              have hcn : s.waits.length < 1000000000 := by have := HI6.out.h1; omega
              have q0 : R3 (fun k => u11.ownBlock = some k ∨ u12.ownBlock = some k) w7 w7.drew w.heap.size g3 0 (bvs pd) u11 u12 s.waits.length s.waits.length (s.waits.map fun p => .int .i64 (p.1 : Int)) (s.waits.map fun p => strv p.2) :=
                ⟨(Fr.refl _ w7).drew, HR7.ha, HR7.ht, fun k hk => .inl (.inl hk), fun k hk => .inl (.inr hk), k7.rangeAll, k7.lt, own_ne HR7.ha k7 (by decide), own_ne HR7.ht k7 (by decide)⟩
              have LOW : ∀ w', Fr (fun k => u11.ownBlock = some k ∨ u12.ownBlock = some k) w7 w' → Below w.heap.size w w' := fun w' hf => HI7.out.low.trans (hf.below HI7.out.low.size (fun k hk => by
                rcases hk with hk | hk
                · exact (HR7.ha.lt k hk).1
                · exact (HR7.ht.lt k hk).1))
              have DFR : ∀ w', Fr (fun k => u11.ownBlock = some k ∨ u12.ownBlock = some k) w7 w' → OneI w w' d bl wv7 (s.write j pd) (40 + (k + 1)) 1 := fun w' hf =>
                ⟨HI7.out.hd.fr hf (fun k hk h => by
                  rcases h with h | h
                  · exact HI7.out.hd.offOwn HR7.ha (by decide) (by decide) (by decide) k h hk
                  · exact HI7.out.hd.offOwn HR7.ht (by decide) (by decide) (by decide) k h hk), HI7.out.hn, HI7.out.h1, HI7.out.h2, HI7.out.h3, LOW w' hf⟩
              have hsz7 := HI7.out.low.size
              have hstr : ∀ w' : World, w'.rangeAt g3 0 (bvs pd) → g3 < w'.heap.size → (convert 28 9 (.slice (some ⟨g3, 0, none⟩) 128 128)).run Try.prog w' = .ok (strv pd) w' := fun w' hr' hl' => run_str w' _ 128 128 pd ⟨by rw [bvs_length]; exact HPL.out, fun _ => ⟨g3, 0, rfl, hl', hr'⟩⟩
              have bA : ∀ W, (Instr.buildSlice 48 1 #[(0, .int .i64 (j : Int))]).run Try.prog W = .ok (.slice (some ⟨W.heap.size, 0, none⟩) 1 1) (W.alloc (.cells #[.int .i64 (j : Int)] 3)) :=
                fun W => run_buildSlice_one 48 3 _ 1 8 Try.underlying48 info3' rfl (by omega) (by omega) (.int .i64 (j : Int)) rfl W
              have bT : ∀ W, (Instr.buildSlice 50 1 #[(0, strv pd)]).run Try.prog W = .ok (.slice (some ⟨W.heap.size, 0, none⟩) 1 1) (W.alloc (.cells #[strv pd] 9)) :=
                fun W => run_buildSlice_one 50 9 _ 1 16 Try.underlying50 info9' rfl (by omega) (by omega) (strv pd) rfl W
              have hS7 : w7.drew.cell? ⟨g, o + k * 5 + 1, none⟩ = some (.int .i64 (j : Int)) := by rw [← HJ.out]; exact HB.out.1 _ (LOW _ q0.fr)
              rw [HJ.out] at HB
              clear e0 e1 HI6 HR6 hD7 f7
              go_wp2_with fail
              refine wp_region_tree 13 (fun w' => w'.cell? ⟨g, o + k * 5 + 1, none⟩ = some (.int .i64 (j : Int)) ∧ w'.rangeAt g3 0 (bvs pd) ∧ g3 < w'.heap.size) (fun i => i == 6 || i == 7 || i == 11 || i == 12) (pre [0, 1, 2, 3, 4, 5, 8, 9, 10] (forks 6 7 11 12)) (by kernel_rfl) (by kernel_rfl) ⟨hS7, q0.hr, q0.hg⟩ (fun ops hops F hF => ?_)
              clear hops
              simp only [List.drop_succ_cons, List.drop_zero] at hF
              iterate 8 (refine tree_op rfl ?_; refine held_q rfl rfl ?_; apply Exists.intro; refine ⟨fun w' hw' => ?_, ?_⟩; (obtain ⟨p1, p2, p3⟩ := hw'; go_simp; rfl); simp only [Act.put, List.setIfInBounds_toArray, List.set_cons_zero, List.set_cons_succ, Nat.reduceAdd]; refine held_nil ?_)
              refine tree_op rfl ?_
              refine held_q rfl rfl ⟨strv pd, fun w' hw' => ?_, ?_⟩
              · obtain ⟨p1, p2, p3⟩ := hw'
                go_simp
              simp only [Act.put, List.setIfInBounds_toArray, List.set_cons_zero, List.set_cons_succ, Nat.reduceAdd]
              refine held_nil ?_
              obtain ⟨wd, hwd⟩ : ∃ wd, wd = w7.drew := ⟨_, rfl⟩
              rw [← hwd] at q0 ⊢
              clear hwd hS7
              refine tree_alt rfl rfl ?_ ?_
              · refine held_loud rfl rfl (fun K hK => ?_)
                refine wp_buildSlice 48 1 _ rfl #[(0, .int .i64 (j : Int))] (by simp [Act.eval]) _ _ (bA _) (hK _ _ (⟨HB.out.1 _ ((LOW _ (q0.alloc _).fr)), (q0.alloc _).hr, (q0.alloc _).hg⟩) ?_)
                clear hK K
                have q1 := q0.alloc (.cells #[.int .i64 (j : Int)] 3)
                have kA := Blk.new wd 3 #[.int .i64 (j : Int)]
                obtain ⟨v1, hv1⟩ : ∃ v1, v1 = wd.alloc (.cells #[.int .i64 (j : Int)] 3) := ⟨_, rfl⟩
                rw [← hv1] at q1 kA ⊢
                simp only [Act.put, List.setIfInBounds_toArray, List.set_cons_zero, List.set_cons_succ, Nat.reduceAdd]
                refine held_nil ?_
                refine tree_alt rfl rfl ?_ ?_
                · refine held_loud rfl rfl (fun K hK => ?_)
                  refine wp_append_lies _ _ _ 48 rfl w.heap.size 3 i3 _ 1 8 Try.underlying48 hi3 hz3 hs3 hb3 rfl (by omega) u11 s.waits.length _ rfl q1.ha ⟨_, 0, none⟩ 1 1 [.int .i64 (j : Int)] rfl rfl (World.news_of_block (B := _) kA) (by intro u hu; simp at hu; rw [hu]; rfl) (by omega) (by unfold maxLen; omega) (by omega) (by have := q1.fr.size; omega) _ rfl ?_
                  intro gA capA v2 hownA hgrA hatA hlA
                  have q2 := q1.appA hownA hgrA hatA
                  refine hK _ _ ⟨HB.out.1 _ (LOW _ q2.fr), q2.hr, q2.hg⟩ ?_
                  clear hK K
                  simp only [Act.put, List.setIfInBounds_toArray, List.set_cons_zero, List.set_cons_succ, Nat.reduceAdd]
                  refine held_nil ?_
                  refine tree_op rfl ?_
                  refine held_loud rfl rfl (fun K hK => ?_)
                  refine wp_buildSlice 50 1 _ rfl #[(0, strv pd)] (by simp [Act.eval]) _ _ (bT _) (hK _ _ (⟨HB.out.1 _ ((LOW _ (q2.alloc _).fr)), (q2.alloc _).hr, (q2.alloc _).hg⟩) ?_)
                  clear hK K
                  have q3 := q2.alloc (.cells #[strv pd] 9)
                  have kT := Blk.new v2 9 #[strv pd]
                  obtain ⟨v3, hv3⟩ : ∃ v3, v3 = v2.alloc (.cells #[strv pd] 9) := ⟨_, rfl⟩
                  rw [← hv3] at q3 kT ⊢
                  simp only [Act.put, List.setIfInBounds_toArray, List.set_cons_zero, List.set_cons_succ, Nat.reduceAdd]
                  refine held_nil ?_
                  refine tree_op rfl ?_
                  refine held_loud rfl rfl (fun K hK => ?_)
                  refine wp_append_lies _ _ _ 50 rfl w.heap.size 9 i0 _ 1 16 Try.underlying50 hi0 hz0 hs0 hb0 rfl (by omega) u12 s.waits.length _ rfl q3.ht ⟨_, 0, none⟩ 1 1 [strv pd] rfl rfl (World.news_of_block (B := _) kT) (by intro u hu; simp at hu; rw [hu]; rfl) (by omega) (by unfold maxLen; omega) (by omega) (by have := q3.fr.size; omega) _ rfl ?_
                  intro gT capT v4 hownT hgrT hatT hlT
                  have q4 := q3.appT hownT hgrT hatT
                  refine hK _ _ ⟨HB.out.1 _ (LOW _ q4.fr), q4.hr, q4.hg⟩ ?_
                  clear hK K
                  simp only [Act.put, List.setIfInBounds_toArray, List.set_cons_zero, List.set_cons_succ, Nat.reduceAdd]
                  refine held_nil (tree_leaf (hF _ _ ?_))
                  clear hF F
                  have FIN := hide (And.intro (DFR _ q4.fr) (And.intro q4.ha q4.ht))
                  clear hownA hownT hgrA hgrT
                  go_wp2
                  go_roundw
                  case rel => exact ⟨k + 1, s.write j pd, _, by omega, by omega, by go_num, FIN.out.1, HL.out, ⟨by simpa [DSt.write] using FIN.out.2.1, by simpa [DSt.write] using FIN.out.2.2⟩⟩
                  case measure => simp [intOf]; omega
                · refine held_loud rfl rfl (fun K hK => ?_)
                  refine wp_buildSlice 50 1 _ rfl #[(0, strv pd)] (by simp [Act.eval]) _ _ (bT _) (hK _ _ (⟨HB.out.1 _ ((LOW _ (q1.alloc _).fr)), (q1.alloc _).hr, (q1.alloc _).hg⟩) ?_)
                  clear hK K
                  have q2 := q1.alloc (.cells #[strv pd] 9)
                  have kT := Blk.new v1 9 #[strv pd]
                  obtain ⟨v2, hv2⟩ : ∃ v2, v2 = v1.alloc (.cells #[strv pd] 9) := ⟨_, rfl⟩
                  rw [← hv2] at q2 kT ⊢
                  simp only [Act.put, List.setIfInBounds_toArray, List.set_cons_zero, List.set_cons_succ, Nat.reduceAdd]
                  refine held_nil ?_
                  have kA2 : Blk v2 wd.heap.size 3 #[.int .i64 (j : Int)] := by rw [hv2]; exact kA.alloc _
                  refine tree_op rfl ?_
                  refine held_loud rfl rfl (fun K hK => ?_)
                  refine wp_append_lies _ _ _ 48 rfl w.heap.size 3 i3 _ 1 8 Try.underlying48 hi3 hz3 hs3 hb3 rfl (by omega) u11 s.waits.length _ rfl q2.ha ⟨_, 0, none⟩ 1 1 [.int .i64 (j : Int)] rfl rfl (World.news_of_block (B := _) kA2) (by intro u hu; simp at hu; rw [hu]; rfl) (by omega) (by unfold maxLen; omega) (by omega) (by have := q2.fr.size; omega) _ rfl ?_
                  intro gA capA v3 hownA hgrA hatA hlA
                  have q3 := q2.appA hownA hgrA hatA
                  refine hK _ _ ⟨HB.out.1 _ (LOW _ q3.fr), q3.hr, q3.hg⟩ ?_
                  clear hK K
                  simp only [Act.put, List.setIfInBounds_toArray, List.set_cons_zero, List.set_cons_succ, Nat.reduceAdd]
                  refine held_nil ?_
                  have kT2 := kT.grown hgrA (fun e => own_ne q2.ha kT (by decide) e.symm)
                  refine tree_op rfl ?_
                  refine held_loud rfl rfl (fun K hK => ?_)
                  refine wp_append_lies _ _ _ 50 rfl w.heap.size 9 i0 _ 1 16 Try.underlying50 hi0 hz0 hs0 hb0 rfl (by omega) u12 s.waits.length _ rfl q3.ht ⟨_, 0, none⟩ 1 1 [strv pd] rfl rfl (World.news_of_block (B := _) kT2) (by intro u hu; simp at hu; rw [hu]; rfl) (by omega) (by unfold maxLen; omega) (by omega) (by have := q3.fr.size; omega) _ rfl ?_
                  intro gT capT v4 hownT hgrT hatT hlT
                  have q4 := q3.appT hownT hgrT hatT
                  refine hK _ _ ⟨HB.out.1 _ (LOW _ q4.fr), q4.hr, q4.hg⟩ ?_
                  clear hK K
                  simp only [Act.put, List.setIfInBounds_toArray, List.set_cons_zero, List.set_cons_succ, Nat.reduceAdd]
                  refine held_nil (tree_leaf (hF _ _ ?_))
                  clear hF F
                  have FIN := hide (And.intro (DFR _ q4.fr) (And.intro q4.ha q4.ht))
                  clear hownA hownT hgrA hgrT
                  go_wp2
                  go_roundw
                  case rel => exact ⟨k + 1, s.write j pd, _, by omega, by omega, by go_num, FIN.out.1, HL.out, ⟨by simpa [DSt.write] using FIN.out.2.1, by simpa [DSt.write] using FIN.out.2.2⟩⟩
                  case measure => simp [intOf]; omega
              · refine held_loud rfl rfl (fun K hK => ?_)
                refine wp_buildSlice 50 1 _ rfl #[(0, strv pd)] (by simp [Act.eval]) _ _ (bT _) (hK _ _ (⟨HB.out.1 _ ((LOW _ (q0.alloc _).fr)), (q0.alloc _).hr, (q0.alloc _).hg⟩) ?_)
                clear hK K
                have q1 := q0.alloc (.cells #[strv pd] 9)
                have kT := Blk.new wd 9 #[strv pd]
                obtain ⟨v1, hv1⟩ : ∃ v1, v1 = wd.alloc (.cells #[strv pd] 9) := ⟨_, rfl⟩
                rw [← hv1] at q1 kT ⊢
                simp only [Act.put, List.setIfInBounds_toArray, List.set_cons_zero, List.set_cons_succ, Nat.reduceAdd]
                refine held_nil ?_
                refine tree_op rfl ?_
                refine held_loud rfl rfl (fun K hK => ?_)
                refine wp_buildSlice 48 1 _ rfl #[(0, .int .i64 (j : Int))] (by simp [Act.eval]) _ _ (bA _) (hK _ _ (⟨HB.out.1 _ ((LOW _ (q1.alloc _).fr)), (q1.alloc _).hr, (q1.alloc _).hg⟩) ?_)
                clear hK K
                have q2 := q1.alloc (.cells #[.int .i64 (j : Int)] 3)
                have kA := Blk.new v1 3 #[.int .i64 (j : Int)]
                obtain ⟨v2, hv2⟩ : ∃ v2, v2 = v1.alloc (.cells #[.int .i64 (j : Int)] 3) := ⟨_, rfl⟩
                rw [← hv2] at q2 kA ⊢
                simp only [Act.put, List.setIfInBounds_toArray, List.set_cons_zero, List.set_cons_succ, Nat.reduceAdd]
                refine held_nil ?_
                refine tree_op rfl ?_
                refine held_loud rfl rfl (fun K hK => ?_)
                refine wp_append_lies _ _ _ 48 rfl w.heap.size 3 i3 _ 1 8 Try.underlying48 hi3 hz3 hs3 hb3 rfl (by omega) u11 s.waits.length _ rfl q2.ha ⟨_, 0, none⟩ 1 1 [.int .i64 (j : Int)] rfl rfl (World.news_of_block (B := _) kA) (by intro u hu; simp at hu; rw [hu]; rfl) (by omega) (by unfold maxLen; omega) (by omega) (by have := q2.fr.size; omega) _ rfl ?_
                intro gA capA v3 hownA hgrA hatA hlA
                have q3 := q2.appA hownA hgrA hatA
                refine hK _ _ ⟨HB.out.1 _ (LOW _ q3.fr), q3.hr, q3.hg⟩ ?_
                clear hK K
                simp only [Act.put, List.setIfInBounds_toArray, List.set_cons_zero, List.set_cons_succ, Nat.reduceAdd]
                refine held_nil ?_
                have kT1 : Blk v2 wd.heap.size 9 #[strv pd] := by rw [hv2]; exact kT.alloc _
                have kT2 := kT1.grown hgrA (fun e => own_ne q2.ha kT1 (by decide) e.symm)
                refine tree_op rfl ?_
                refine held_loud rfl rfl (fun K hK => ?_)
                refine wp_append_lies _ _ _ 50 rfl w.heap.size 9 i0 _ 1 16 Try.underlying50 hi0 hz0 hs0 hb0 rfl (by omega) u12 s.waits.length _ rfl q3.ht ⟨_, 0, none⟩ 1 1 [strv pd] rfl rfl (World.news_of_block (B := _) kT2) (by intro u hu; simp at hu; rw [hu]; rfl) (by omega) (by unfold maxLen; omega) (by omega) (by have := q3.fr.size; omega) _ rfl ?_
                intro gT capT v4 hownT hgrT hatT hlT
                have q4 := q3.appT hownT hgrT hatT
                refine hK _ _ ⟨HB.out.1 _ (LOW _ q4.fr), q4.hr, q4.hg⟩ ?_
                clear hK K
                simp only [Act.put, List.setIfInBounds_toArray, List.set_cons_zero, List.set_cons_succ, Nat.reduceAdd]
                refine held_nil (tree_leaf (hF _ _ ?_))
                clear hF F
                have FIN := hide (And.intro (DFR _ q4.fr) (And.intro q4.ha q4.ht))
                clear hownA hownT hgrA hgrT
                go_wp2
                go_roundw
                case rel => exact ⟨k + 1, s.write j pd, _, by omega, by omega, by go_num, FIN.out.1, HL.out, ⟨by simpa [DSt.write] using FIN.out.2.1, by simpa [DSt.write] using FIN.out.2.2⟩⟩
                case measure => simp [intOf]; omega
            · have HN2 := hide hin
              clear hin
              go_wp2_with fail
              refine (writeBad w6 _ _ _ _ _ HI6.out.hd q.i HN2.out (by have := HI6.out.hn; omega) _).mono ?_
              rintro e w7 ⟨rfl, rfl⟩
              go_wp2
              go_roundw
              case rel => exact ⟨k + 1, s, _, by omega, by omega, by go_num, ⟨HI6.out.hd, HI6.out.hn, by have := HI6.out.h1; omega, by have := HI6.out.h2; omega, HI6.out.h3, HI6.out.low⟩, HL.out, HR6.out⟩
              case measure => simp [intOf]; omega
          · have t0 : (q.kind == 0) = false := by simp [q0]
            clear q0
            go_wp2
            go_roundw
            case rel => exact ⟨k + 1, s, _, by omega, by omega, by go_num, ⟨HI6.out.hd, HI6.out.hn, by have := HI6.out.h1; omega, by have := HI6.out.h2; omega, HI6.out.h3, HI6.out.low⟩, HL.out, HR6.out⟩
            case measure => simp [intOf]; omega
        · rcases (show (¬ k < m2) ∨ (k < m2 ∧ ¬ k < 40) by omega) with hx1 | hx1
          all_goals
            clear hlt
            go_wp2_with fail
            go_meet
            exact ⟨s, wv, ⟨HI.out.hd, HI.out.hn, by have := HI.out.h1; omega, by have := HI.out.h2; omega, HI.out.h3, HI.out.low⟩, HL.out, HR.out⟩
    case rest =>
      obtain ⟨s, wv, hI, hL, hR⟩ := hcut
      have HI := hide hI
      have HR := hide hR
      have HL := hide hL
      clear hI hR hL HI5 HM HM2 hops hah
      go_wp2_with fail
      refine (crash_ok _ _ _ _ _ _ HI.out.hd (by have := HI.out.hn; omega) K kn kc ks (hks.below HI.out.low (Nat.le_refl _)) (fun a ha hn e => by have := hkN a ha hn; have := HI.out.hd.bb; omega) hkm).mono ?_
      rintro e w6 ⟨rfl, hD6, f6⟩
      obtain ⟨s3, hs3⟩ : ∃ s3, s3 = s.crash ks := ⟨_, rfl⟩
      rw [← hs3] at hD6
      have HI6 := hide (HI.out.fr f6 hD6 (by rw [hs3]; simp [DSt.crash, doneKeep_length]; exact HI.out.hn) (k' := 80) (z' := 1) (by rw [hs3]; simp [DSt.crash]) (by rw [hs3]; exact HI.out.h2) (by rw [hs3]; exact HI.out.h3))
      have HR6 := hide (HR.out.fr HI.out.hd f6)
      have HS := hide hs3
      clear f6 hD6 hs3 HR
      go_wp2_with fail
      refine (all_ok _ _ _ _ _ _ HI6.out.hd HI6.out.hn).mono ?_
      rintro e w7 ⟨rfl, b7⟩
      have HI7 := hide (HI6.out.below b7 (Nat.le_refl _))
      have HR7 := hide (HR6.out.below b7 (Nat.le_refl _))
      clear HI6 HR6 b7
      have zb3 : (bs (allOf s3)).size = 1024 := by rw [bs_size]; exact firstOf_length HI7.out.hd.ok 8 (by rw [HI7.out.hn]; omega)
      have hok1 : s1.Ok := HB5.out.1
      obtain ⟨AA, acap, rfl, hac, ham, hAA⟩ := own_shape HR7.out.ha
      obtain ⟨TA, tcap, rfl, htc, htm, hTA⟩ := own_shape HR7.out.ht
      have HA := hide hAA
      have HTA := hide hTA
      clear hAA hTA hac htc ham htm
      obtain ⟨n, hn⟩ : ∃ n, s.waits.length = n := ⟨_, rfl⟩
      have hn80 : n ≤ 80 := by rw [← hn]; exact HI.out.h1
      rw [hn]
      have HN := hide hn
      clear hn
      go_wp2_with fail
      go_loopw [16] (fun i wr => ∃ (k : Nat), k ≤ 8 ∧ i = .int .i64 k ∧ w7 = wr) (fun i _ => 8 - (intOf i).toNat)
      case atStart => exact ⟨0, by omega, rfl, rfl⟩
      case round =>
        obtain ⟨k, hk8, rfl, rfl⟩ := hrel
        by_cases hlt : k < 8
        · have p1 := part_of hok1 HB5.out.2 k hlt
          have p3 := part_of HI7.out.hd.ok HI7.out.hn k hlt
          have HP := hide (And.intro p1 p3)
          clear p1 p3
          have KEY : s3.read k = s1.read k ∨ ∃ t p, t < n ∧ s.waits[t]? = some p ∧ p.1 = k ∧ p.2 = s3.read k := by
            have e3 : s3.read k = (doneKeep s.l s.waits ks).getD k [] := by rw [HS.out]; rfl
            have e1 : s1.read k = s1.l.getD k [] := by rw [DSt.read, HC.out.1]; rfl
            rcases keep_or ks k s.waits s.l (by rw [HI.out.hn]; exact hlt) (fun p hp => (HI.out.hd.ok.wat p hp).1) with h | ⟨p, hp, h1, h2⟩
            · exact .inl (by rw [e3, e1, h, HL.out])
            · obtain ⟨t, ht, hpt⟩ := List.getElem_of_mem hp
              exact .inr ⟨t, p, by rw [← HN.out]; exact ht, by rw [List.getElem?_eq_getElem ht, hpt], h1, by rw [h2, e3]⟩
          have HKEY := hide KEY
          clear KEY
          go_wp2_with fail
          rw [HP.out.1, HP.out.2]
          obtain ⟨b0, hb0⟩ : ∃ b0, b0 = ((bs (s3.read k)).toList == (bs (s1.read k)).toList) := ⟨_, rfl⟩
          obtain ⟨P, hP⟩ : ∃ P, P = bs (s3.read k) := ⟨_, rfl⟩
          rw [← hb0, ← hP]
          have HB0 := hide hb0
          have HPP := hide hP
          clear hb0 hP
          go_loopw [18, 19] (fun ok c wr => ∃ (j : Nat) (b : Bool), j ≤ n ∧ c = .int .i64 j ∧ ok = .bool b ∧ (b0 = true → b = true) ∧ (∀ t p, t < j → s.waits[t]? = some p → p.1 = k → p.2 = s3.read k → b = true) ∧ w7 = wr) (fun _ c _ => n - (intOf c).toNat)
          case atStart => exact ⟨0, b0, by omega, rfl, rfl, fun h => h, fun t p ht => by omega, rfl⟩
          case round =>
            obtain ⟨j, b, hjn, rfl, rfl, hb1, hb2, rfl⟩ := hrel
            have H1 := hide hb1
            have H2 := hide hb2
            clear hb1 hb2
            by_cases hlt2 : j < n
            · obtain ⟨ga, rfl, ga1, ga2, hra⟩ := HA.out (by rw [HN.out]; omega)
              obtain ⟨gt, rfl, gt1, gt2, hrt⟩ := HTA.out (by rw [HN.out]; omega)
              have hjw : j < s.waits.length := by rw [HN.out]; exact hlt2
              obtain ⟨p, hp⟩ : ∃ p, p = s.waits[j] := ⟨_, rfl⟩
              have hca : w7.cell? ⟨ga, j, none⟩ = some (.int .i64 (p.1 : Int)) := by
                have := hra j (.int .i64 (p.1 : Int)) (by rw [List.getElem?_map, List.getElem?_eq_getElem hjw, hp]; rfl)
                rwa [Nat.zero_add] at this
              have hct : w7.cell? ⟨gt, j, none⟩ = some (.string (bs p.2)) := by
                have := hrt j (strv p.2) (by rw [List.getElem?_map, List.getElem?_eq_getElem hjw, hp]; rfl)
                rwa [Nat.zero_add] at this
              have HPJ := hide (show s.waits[j]? = some p by rw [List.getElem?_eq_getElem hjw, hp])
              have hj0 : (0 : Int) ≤ (j : Int) := by omega
              have hj1 : (j : Int) < (n : Int) := by omega
              clear hp hra hrt hjw
              cases b with
              | true =>
                go_wp2
                go_roundw
                case rel => exact ⟨j + 1, true, by omega, by go_num, rfl, fun _ => rfl, fun _ _ _ _ _ _ => rfl, trivial⟩
                case measure => simp [intOf] <;> omega
              | false =>
                by_cases hpk : p.1 = k
                · have hta : ((p.1 : Int) == (k : Int)) = true := by rw [beqNat]; simp [hpk]
                  have HPK := hide hpk
                  clear hpk
                  go_wp2
                  go_roundw
                  case rel => exact ⟨j + 1, (bs p.2).toList == P.toList, by omega, by go_num, rfl, fun h => absurd (H1.out h) (by simp), fun t p' ht hp' h1 h2 => by
                    rcases Nat.lt_or_ge t j with h | h
                    · exact absurd (H2.out t p' h hp' h1 h2) (by simp)
                    · obtain rfl : t = j := by omega
                      rw [HPJ.out] at hp'
                      obtain rfl := Option.some.inj hp'
                      rw [HPP.out, h2]; simp, trivial⟩
                  case measure => simp [intOf] <;> omega
                · have hta : ((p.1 : Int) == (k : Int)) = false := by rw [beqNat]; simp [hpk]
                  have HPK := hide hpk
                  clear hpk
                  go_wp2
                  go_roundw
                  case rel => exact ⟨j + 1, false, by omega, by go_num, rfl, fun h => H1.out h, fun t p' ht hp' h1 h2 => by
                    rcases Nat.lt_or_ge t j with h | h
                    · exact H2.out t p' h hp' h1 h2
                    · obtain rfl : t = j := by omega
                      rw [HPJ.out] at hp'
                      obtain rfl := Option.some.inj hp'
                      exact absurd h1 HPK.out, trivial⟩
                  case measure => simp [intOf] <;> omega
            · have hbt : b = true := by
                rcases HKEY.out with h | ⟨t, p, ht, h1, h2, h3⟩
                · exact H1.out (by rw [HB0.out, h]; simp)
                · exact H2.out t p (by omega) h1 h2 h3
              subst hbt
              go_wp2
              go_roundw
              case rel => exact ⟨k + 1, by omega, rfl, trivial⟩
              case measure => simp [intOf] <;> omega
        · obtain rfl : k = 8 := by omega
          go_wp2_with fail
          refine (alive11 _).mono ?_
          rintro e w8 ⟨rfl, b8⟩
          have HI8 := hide (HI7.out.below b8 (Nat.le_refl _))
          have hw8 : s3.waits = [] := HS.out ▸ rfl
          go_wp2_with fail
          refine (waits_any w8 _ d bl _ s3 HI8.out.hd).mono ?_
          rintro e w9 ⟨v, rfl, hv, b9⟩
          have hbel : Below w.heap.size w w9 := HI8.out.low.trans (b9.mono HI8.out.low.size)
          obtain ⟨VA, vcap, rfl, _, _, _⟩ := own_shape hv
          rw [hw8]
          go_wp2
          go_ret
          exact ⟨rfl, hbel⟩

theorem keeps_all (w : World) (A : Option Addr) (n c : Nat) (ah : List OpM) (hn : ah.length = n) (hah : OpsAt w A ah) (B : Option Addr) (nb cb : Nat) (ops : List OpM) (hnb : ops.length = nb) (hops : OpsAt w B ops) (K : Option Addr) (kn kc : Nat) (ks : List Bool) (hk : ks.length = kn) (hks : ks.length ≤ 9223372036854775807 ∧ SlAt w K kn (ks.map .bool)) :
    Calls Try.prog 5 #[.slice A n c, .slice B nb cb, .slice K kn kc] w fun e w' => e = .returned (.bool true) ∧ Below w.heap.size w w' := by
  subst hn hnb
  exact keeps_any w A c ah hah B cb ops hops K kn kc ks hks.2 (by omega)
end Go.Proofs.Ytnnhklembdaieaa
