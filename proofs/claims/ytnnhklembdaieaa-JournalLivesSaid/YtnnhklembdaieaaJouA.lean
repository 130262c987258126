/- The journal: how it lies in memory; its small functions. The journal: Append. The journal: begin. The journal: sure, Step. The journal: Step. -/
import Derived.Test.YtnnhklembdaieaaAlive12
namespace Go.Proofs.Ytnnhklembdaieaa
open Go.RowKit
set_option linter.unusedSimpArgs false
set_option linter.unusedVariables false

/-- a journal, as plain data. -/
structure JSt where
  gen : Nat
  area : Nat
  len : Nat
  next : List UInt8
  half : Nat
  at_ : Nat
  length : Nat
  pdone : Nat
  stage : Nat
  all : Nat
  done : Nat
def JSt.s (J : JSt) : SU := ⟨J.gen, J.area, J.len⟩
/-- its cells. -/
def jcells (d c : Nat) (nv : Value) (J : JSt) : Array Value :=
  #[.pointer (some ⟨d, 0, none⟩), .int .i64 2, .int .i64 (c : Int), .int .i64 ((2 + c : Nat) : Int), .int .i64 (c : Int), .int .u64 (J.gen : Int), .int .i64 (J.area : Int), .int .i64 (J.len : Int), nv,
    .int .i64 (J.half : Int), .int .i64 (J.at_ : Int), .int .i64 (J.length : Int), .int .i64 (J.pdone : Int), .int .i64 (J.stage : Int), .int .i64 (J.all : Int), .int .i64 (J.done : Int)]
structure JAt (w : World) (base j d c : Nat) (nv : Value) (J : JSt) : Prop where
  hj : Blk w j 119 (jcells d c nv J)
  hn : w.ownsRow base 5 1 nv J.next.length (bvs J.next)
  bj : base ≤ j
def jfoot (j : Nat) (nv : Value) : Nat → Prop := fun k => k = j ∨ nv.ownBlock = some k
theorem JAt.fr {w w' : World} {S : Nat → Prop} {base j d c : Nat} {nv : Value} {J : JSt} (h : JAt w base j d c nv J) (hf : Fr S w w') (hS : ∀ k, jfoot j nv k → ¬ S k) : JAt w' base j d c nv J :=
  ⟨h.hj.fr hf (hS j (.inl rfl)), Fr.own h.hn hf (fun k hk => hS k (.inr hk)), h.bj⟩
theorem JAt.low {w : World} {base j d c : Nat} {nv : Value} {J : JSt} (h : JAt w base j d c nv J) : ∀ k, jfoot j nv k → base ≤ k ∧ k < w.heap.size := by
  rintro k (rfl | h4)
  · exact ⟨h.bj, h.hj.lt⟩
  · exact h.hn.lt k h4
theorem JAt.below {w w' : World} {B base j d c : Nat} {nv : Value} {J : JSt} (h : JAt w base j d c nv J) (hb : Below B w w') (hB : w.heap.size ≤ B) : JAt w' base j d c nv J :=
  h.fr (Fr.ofBelow hb) (fun k hk => by have := (h.low k hk).2; omega)
theorem JAt.off {w : World} {base j d c : Nat} {nv : Value} {J : JSt} (h : JAt w base j d c nv J) {k : Nat} {t : TypeId} {cs : Array Value} (hk : Blk w k t cs) (h1 : t ≠ 119) (h2 : t ≠ 5) : ¬ jfoot j nv k := by
  rintro (rfl | h4)
  · exact Blk.ne_ hk h.hj h1 rfl
  · exact own_ne h.hn hk (Ne.symm h2) h4
/-- the disk's blocks are none of the journal's. -/
theorem jd_off {w : World} {base d bl j d' c : Nat} {wv nv : Value} {D : DSt} {J : JSt} (hD : DiskAt w base d bl wv D) (hJ : JAt w base j d' c nv J) (k : Nat) (hk : jfoot j nv k) : ¬ dfoot d bl wv k := by
  rcases hk with rfl | h4
  · exact hD.off hJ.hj (by decide) (by decide) (.inl (by decide))
  · exact hD.offOwn hJ.hn (by decide) (by decide) (by decide) k h4
theorem dj_off {w : World} {base d bl j d' c : Nat} {wv nv : Value} {D : DSt} {J : JSt} (hD : DiskAt w base d bl wv D) (hJ : JAt w base j d' c nv J) (k : Nat) (hk : dfoot d bl wv k) : ¬ jfoot j nv k := fun h => jd_off hD hJ k h hk

theorem jmade_nil (w : World) : Calls Try.prog 90 #[.pointer none] w fun e w' => e = .returned (.bool false) ∧ w = w' := by
  go_enter Try.func90, Try.ntmps90
  go_wp2
  go_ret
  exact ⟨rfl, rfl⟩
theorem jmade_ok (j d : Nat) (w : World) (hc : w.cell? ⟨j, 0, none⟩ = some (.pointer (some ⟨d, 0, none⟩))) : Calls Try.prog 90 #[.pointer (some ⟨j, 0, none⟩)] w fun e w' => e = .returned (.bool true) ∧ w = w' := by
  go_enter Try.func90, Try.ntmps90
  go_wp2
  go_ret
  exact ⟨rfl, rfl⟩
theorem jmade_zero (j : Nat) (w : World) (hc : w.cell? ⟨j, 0, none⟩ = some (.pointer none)) : Calls Try.prog 90 #[.pointer (some ⟨j, 0, none⟩)] w fun e w' => e = .returned (.bool false) ∧ w = w' := by
  go_enter Try.func90, Try.ntmps90
  go_wp2
  go_ret
  exact ⟨rfl, rfl⟩
/-- the counts. -/
theorem jdone_ok {w : World} {base j d c : Nat} {nv : Value} {J : JSt} (h : JAt w base j d c nv J) : Calls Try.prog 51 #[.pointer (some ⟨j, 0, none⟩)] w fun e w' => e = .returned (.int .i64 (J.done : Int)) ∧ w = w' := by
  have c0 : w.cell? ⟨j, 0, none⟩ = some (.pointer (some ⟨d, 0, none⟩)) := (h.hj.cell 0).trans rfl
  have c15 : w.cell? ⟨j, 15, none⟩ = some (.int .i64 (J.done : Int)) := (h.hj.cell 15).trans rfl
  go_enter Try.func51, Try.ntmps51
  go_wp2_with (go_at_call 90; refine (jmade_ok j d w c0).mono ?_; rintro e w' ⟨rfl, rfl⟩)
  go_ret
  exact ⟨rfl, rfl⟩
theorem jall_ok {w : World} {base j d c : Nat} {nv : Value} {J : JSt} (h : JAt w base j d c nv J) : Calls Try.prog 52 #[.pointer (some ⟨j, 0, none⟩)] w fun e w' => e = .returned (.int .i64 (J.all : Int)) ∧ w = w' := by
  have c0 : w.cell? ⟨j, 0, none⟩ = some (.pointer (some ⟨d, 0, none⟩)) := (h.hj.cell 0).trans rfl
  have c14 : w.cell? ⟨j, 14, none⟩ = some (.int .i64 (J.all : Int)) := (h.hj.cell 14).trans rfl
  go_enter Try.func52, Try.ntmps52
  go_wp2_with (go_at_call 90; refine (jmade_ok j d w c0).mono ?_; rintro e w' ⟨rfl, rfl⟩)
  go_ret
  exact ⟨rfl, rfl⟩
theorem jstage_ok {w : World} {base j d c : Nat} {nv : Value} {J : JSt} (h : JAt w base j d c nv J) : Calls Try.prog 53 #[.pointer (some ⟨j, 0, none⟩)] w fun e w' => e = .returned (.int .i64 (J.stage : Int)) ∧ w = w' := by
  have c0 : w.cell? ⟨j, 0, none⟩ = some (.pointer (some ⟨d, 0, none⟩)) := (h.hj.cell 0).trans rfl
  have c13 : w.cell? ⟨j, 13, none⟩ = some (.int .i64 (J.stage : Int)) := (h.hj.cell 13).trans rfl
  go_enter Try.func53, Try.ntmps53
  go_wp2_with (go_at_call 90; refine (jmade_ok j d w c0).mono ?_; rintro e w' ⟨rfl, rfl⟩)
  go_ret
  exact ⟨rfl, rfl⟩
def isRec (n : Nat) : Bool := decide (1 ≤ n ∧ n ≤ 2000)
theorem jrec_ok (A : Option Addr) (n c : Nat) (w : World) : Calls Try.prog 91 #[.slice A n c] w fun e w' => e = .returned (.bool (isRec n)) ∧ w = w' := by
  have hc : (isRec n = false ∧ decide ((1 : Int) ≤ (n : Int)) = false) ∨ (isRec n = false ∧ decide ((1 : Int) ≤ (n : Int)) = true ∧ decide ((n : Int) ≤ 2000) = false) ∨ (isRec n = true ∧ decide ((1 : Int) ≤ (n : Int)) = true ∧ decide ((n : Int) ≤ 2000) = true) := by
    simp only [isRec, decide_eq_true_eq, decide_eq_false_iff_not]; omega
  rcases hc with ⟨hr, h1⟩ | ⟨hr, h1, h2⟩ | ⟨hr, h1, h2⟩
  all_goals
    rw [hr]
    clear hr
    go_enter Try.func91, Try.ntmps91
    go_wp2
    go_ret
    exact ⟨rfl, rfl⟩
def frameL (r : List UInt8) : List UInt8 := [UInt8.ofNat (r.length / 256), UInt8.ofNat r.length] ++ r
theorem frameL_length (r : List UInt8) : (frameL r).length = r.length + 2 := by simp [frameL]
set_option maxRecDepth 100000 in
theorem jframe_ok (A : Option Addr) (n c : Nat) (r : List UInt8) (hn0 : 1 ≤ n) (hn : n ≤ 9223372036854) (w : World) (hr : SlAt w A n (bvs r)) : Calls Try.prog 92 #[.slice A n c] w fun e w' => ∃ v, e = .returned v ∧ w'.ownsRow w.heap.size 5 1 v (n + 2) (bvs (frameL r)) ∧ Below w.heap.size w w' := by
  obtain ⟨i0, hi0, hz0, hs0, hb0⟩ := info_parts info5'
  have hrl : r.length = n := by have := hr.1; rwa [bvs_length] at this
  obtain ⟨gb, ob, rfl, hgb, hrb⟩ := hr.2 (by omega)
  have HL := hide hrl
  have hbl := hr.1
  have HBL := hide hbl
  have HN := hide (fun (o : Obj) (j : Nat) (u : Value) (hu : (bvs r)[j]? = some u) => show (w.alloc o).cell? ((⟨gb, ob, none⟩ : Addr).add j) = some u by
    rw [Addr.add_mid, World.cell?_alloc_lt _ _ _ hgb]; exact hrb j u hu)
  clear hr hrl hbl hrb
  go_enter Try.func92, Try.ntmps92
  go_wp2_with (at_builtin; refine wpList_append_grows _ rfl _ _ 28 rfl 5 i0 _ 1 1 Try.underlying28 hi0 hz0 hs0 hb0 rfl (by omega) (some ⟨w.heap.size, 0, none⟩) 2 2 (bvs [UInt8.ofNat (r.length / 256), UInt8.ofNat r.length]) ?_ ?_ ?_ ?_ ⟨gb, ob, none⟩ n c (bvs r) ?_ ?_ ?_ ?_ ?_ ?_ ?_ ?_)
  · rfl
  · intro h; cases h
  · rfl
  · intro b hb j u hj
    cases hb
    rw [Addr.add_mid, (Blk.new w 5 #[Value.int IntKind.u8 (↑n / 256 % 256), Value.int IntKind.u8 (↑n % 256)]).cell]
    have e1 : ((UInt8.ofNat (r.length / 256)).toNat : Int) = (n : Int) / 256 % 256 := by rw [UInt8.toNat_ofNat', HL.out]; omega
    have e2 : ((UInt8.ofNat r.length).toNat : Int) = (n : Int) % 256 := by rw [UInt8.toNat_ofNat', HL.out]; omega
    simp only [bvs, bv, List.map_cons, List.map_nil, e1, e2] at hj
    simpa using hj
  · rfl
  · rw [HBL.out, Nat.mul_one]
  · exact HN.out _
  · exact bvs_one r
  · omega
  · unfold maxLen; omega
  · omega
  · intro v3 w3 hown3 hgrow3
    go_wp2
    go_ret
    refine ⟨v3, rfl, ?_, ((Below.refl _ w).alloc (Nat.le_refl _) _).grown hgrow3 (by simp) (fun k hk => by cases hk)⟩
    have := own_base hown3 (b' := w.heap.size) (by simp)
    rw [← bvs_append] at this
    rw [show n + 2 = 2 + n by omega]
    exact this
/-- the content's end. -/
def JSt.tl (J : JSt) : Nat × Nat := if J.stage = 0 then (J.area, J.len + J.next.length) else (J.half, J.length + J.next.length)
structure JOk (c : Nat) (J : JSt) : Prop where
  c1 : 1 ≤ c
  c2 : c ≤ 4096
  a1 : J.area ≤ 1
  h1 : J.half ≤ 1
  l1 : J.len + J.next.length ≤ c * 128 ∨ J.stage ≠ 0
  l2 : J.length + J.next.length ≤ c * 128 ∨ J.stage = 0
  le : J.len ≤ c * 128
  ln : J.next.length ≤ c * 128
  lg : J.length ≤ c * 128
  st : J.stage ≤ 3
  all : J.all ≤ 1000000000000
  dn : J.done ≤ 1000000000000
  pd : J.pdone ≤ 1000000000000
  gn : J.gen ≤ 1000000000000
set_option maxRecDepth 100000 in
set_option maxHeartbeats 1600000 in
theorem jtail_ok {w : World} {base j d c : Nat} {nv : Value} {J : JSt} (h : JAt w base j d c nv J) (hk : JOk c J) : Calls Try.prog 103 #[.pointer (some ⟨j, 0, none⟩)] w fun e w' => e = .returned (.tuple #[.int .i64 (J.tl.1 : Int), .int .i64 (J.tl.2 : Int)]) ∧ Below w.heap.size w w' := by
  obtain ⟨A, cp, rfl, -⟩ := own_shape h.hn
  obtain ⟨n, hn⟩ : ∃ n, n = J.next.length := ⟨_, rfl⟩
  have c13 : w.cell? ⟨j, 13, none⟩ = some (.int .i64 (J.stage : Int)) := (h.hj.cell 13).trans rfl
  have c8 : w.cell? ⟨j, 8, none⟩ = some (.slice A n cp) := (h.hj.cell 8).trans (by rw [hn]; rfl)
  have c9 : w.cell? ⟨j, 9, none⟩ = some (.int .i64 (J.half : Int)) := (h.hj.cell 9).trans rfl
  have c11 : w.cell? ⟨j, 11, none⟩ = some (.int .i64 (J.length : Int)) := (h.hj.cell 11).trans rfl
  have c6 : w.cell? ⟨j, 6, none⟩ = some (.int .i64 (J.area : Int)) := (h.hj.cell 6).trans rfl
  have c7 : w.cell? ⟨j, 7, none⟩ = some (.int .i64 (J.len : Int)) := (h.hj.cell 7).trans rfl
  have hb : n ≤ 128000000000 ∧ J.len ≤ 128000000000 ∧ J.length ≤ 128000000000 := by have := hk.c2; have := hk.le; have := hk.lg; have := hk.ln; omega
  obtain ⟨hb1, hb2, hb3⟩ := hb
  have h4 := hk.st
  simp only [JSt.tl, ← hn]
  clear h hk hn
  generalize J.len = z1 at *
  generalize J.length = z2 at *
  generalize J.area = z3 at *
  generalize J.half = z4 at *
  generalize J.stage = z5 at *
  by_cases hs : z5 = 0
  · subst hs
    rw [if_pos rfl]
    go_enter Try.func103, Try.ntmps103
    go_wp2_with fail
    go_quiet (fail)
    all_goals
      go_wp2
      go_ret2
      exact ⟨rfl, ((Fr.refl nob _).drewN _).belowThis (fun _ h => h)⟩
  · rw [if_neg hs]
    have hs2 : ((z5 : Int) == 0) = false := by simp [hs]
    go_enter Try.func103, Try.ntmps103
    go_wp2_with fail
    go_quiet (fail)
    all_goals
      go_wp2
      go_ret2
      exact ⟨rfl, ((Fr.refl nob _).drewN _).belowThis (fun _ h => h)⟩
theorem JOk.tl1 {c : Nat} {J : JSt} (hk : JOk c J) : J.tl.1 ≤ 1 ∧ J.tl.2 ≤ c * 128 := by
  unfold JSt.tl
  have := hk.a1; have := hk.h1; have := hk.l1; have := hk.l2
  split
  · exact ⟨by assumption, by show J.len + _ ≤ _; omega⟩
  · exact ⟨by assumption, by show J.length + _ ≤ _; omega⟩
def jfits (c : Nat) (J : JSt) (n : Int) : Bool := decide (1 ≤ n ∧ n ≤ 2000 ∧ n + 2 ≤ (c : Int) * 128 - (J.tl.2 : Int))
set_option maxRecDepth 100000 in
set_option maxHeartbeats 1600000 in
theorem jfits_ok {w : World} {base j d c : Nat} {nv : Value} {J : JSt} (h : JAt w base j d c nv J) (hk : JOk c J) (n : Int) : Calls Try.prog 62 #[.pointer (some ⟨j, 0, none⟩), .int .i64 n] w fun e w' => e = .returned (.bool (jfits c J n)) ∧ Below w.heap.size w w' := by
  have c0 : w.cell? ⟨j, 0, none⟩ = some (.pointer (some ⟨d, 0, none⟩)) := (h.hj.cell 0).trans rfl
  have ht := jtail_ok h hk
  have HM := hide (jmade_ok j d w c0)
  have hcc : (jfits c J n = false ∧ decide (n < 1) = true) ∨ (jfits c J n = false ∧ decide (n < 1) = false ∧ decide (n > 2000) = true) ∨ (decide (n < 1) = false ∧ decide (n > 2000) = false) := by
    simp only [jfits, decide_eq_true_eq, decide_eq_false_iff_not]; omega
  rcases hcc with ⟨hr, h1⟩ | ⟨hr, h1, h2⟩ | ⟨h1, h2⟩
  · rw [hr]
    go_enter Try.func62, Try.ntmps62
    go_wp2_with (go_at_call 90; refine HM.out.mono ?_; rintro e w' ⟨rfl, rfl⟩)
    go_ret
    exact ⟨rfl, Below.refl _ _⟩
  · rw [hr]
    go_enter Try.func62, Try.ntmps62
    go_wp2_with (go_at_call 90; refine HM.out.mono ?_; rintro e w' ⟨rfl, rfl⟩)
    go_ret
    exact ⟨rfl, Below.refl _ _⟩
  · have htl := hk.tl1
    have hc2 := hk.c2
    have hc1 := hk.c1
    have HF := hide (show jfits c J n = decide (n + 2 ≤ (c : Int) * 128 - (J.tl.2 : Int)) by simp only [jfits]; simp only [decide_eq_false_iff_not] at h1 h2; congr 1; simp only [eq_iff_iff]; omega)
    obtain ⟨t1, e1⟩ : ∃ z, z = J.tl.1 := ⟨_, rfl⟩
    obtain ⟨t2, e2⟩ : ∃ z, z = J.tl.2 := ⟨_, rfl⟩
    rw [← e1, ← e2] at ht
    rw [← e1, ← e2] at htl
    rw [← e2] at HF
    clear e1 e2
    have HT := hide ht
    have HJ := hide h
    have hR : roomA (c : Int) = (c : Int) * 128 := by unfold roomA; split <;> omega
    have hn1 : ¬ n < 1 := by simpa using h1
    have hn2 : ¬ n > 2000 := by simpa using h2
    clear ht h
    obtain ⟨h5, h6⟩ := htl
    rcases (show t1 = 0 ∨ t1 = 1 by omega) with rfl | rfl
    all_goals
      go_enter Try.func62, Try.ntmps62
      go_wp2_with (go_at_call 90; refine HM.out.mono ?_; rintro e w' ⟨rfl, rfl⟩)
      refine HT.out.mono ?_
      rintro e w1 ⟨rfl, hb1⟩
      have h2' := HJ.out.below hb1 (Nat.le_refl _)
      have d1 : w1.cell? ⟨j, 1, none⟩ = some (.int .i64 2) := (h2'.hj.cell 1).trans rfl
      have d2 : w1.cell? ⟨j, 2, none⟩ = some (.int .i64 (c : Int)) := (h2'.hj.cell 2).trans rfl
      have d3 : w1.cell? ⟨j, 3, none⟩ = some (.int .i64 ((2 + c : Nat) : Int)) := (h2'.hj.cell 3).trans rfl
      have d4 : w1.cell? ⟨j, 4, none⟩ = some (.int .i64 (c : Int)) := (h2'.hj.cell 4).trans rfl
      clear h2'
      go_wp2_with (go_at_call 70; refine (room_ok _ _ _).mono ?_; rintro e w2 ⟨rfl, hb2⟩; rw [hR])
      go_ret
      exact ⟨by rw [HF.out]; rfl, hb1.trans (hb2.mono hb1.size)⟩
end Go.Proofs.Ytnnhklembdaieaa
namespace Go.Proofs.Ytnnhklembdaieaa
open Go.RowKit
set_option linter.unusedSimpArgs false
set_option linter.unusedVariables false

def JSt.app (J : JSt) (r : List UInt8) : JSt := { J with next := J.next ++ frameL r, all := J.all + 1 }
def japp (c : Nat) (J : JSt) (r : List UInt8) : JSt × Nat × Nat := if isRec r.length then (if jfits c J (r.length : Int) then (J.app r, J.all + 1, 0) else (J, 0, 5)) else (J, 0, 1)
def Later (nv nv' : Value) (w : World) : Prop := ∀ k, nv'.ownBlock = some k → nv.ownBlock = some k ∨ w.heap.size ≤ k
theorem Later.refl (nv : Value) (w : World) : Later nv nv w := fun _ h => .inl h
theorem Fr.none_ {w w' : World} {S : Nat → Prop} (h : Below w.heap.size w w') : Fr S w w' := (Fr.ofBelow h).monoNew (fun k hk => .inr hk)

set_option maxRecDepth 100000 in
set_option maxHeartbeats 1600000 in
theorem jappend_ok {w : World} {base j d c : Nat} {nv : Value} {J : JSt} (h : JAt w base j d c nv J) (hk : JOk c J) (A : Option Addr) (n cp : Nat) (r : List UInt8) (hr : SlAt w A n (bvs r)) (hn : n ≤ 9223372036854775807) :
    Calls Try.prog 48 #[.pointer (some ⟨j, 0, none⟩), .slice A n cp] w fun e w' => ∃ nv', e = .returned (.tuple #[.int .i64 ((japp c J r).2.1 : Int), .int .i64 ((japp c J r).2.2 : Int)]) ∧ JAt w' base j d c nv' (japp c J r).1 ∧ Fr (jfoot j nv) w w' ∧ Later nv nv' w := by
  have c0 : w.cell? ⟨j, 0, none⟩ = some (.pointer (some ⟨d, 0, none⟩)) := (h.hj.cell 0).trans rfl
  have HM := hide (jmade_ok j d w c0)
  have hrl : r.length = n := by have := hr.1; rwa [bvs_length] at this
  have HR := hide (jrec_ok A n cp w)
  have HF := hide (jfits_ok h hk (n : Int))
  have HJ := hide h
  by_cases h1 : isRec n = true
  · by_cases h2 : jfits c J (n : Int) = true
    · have HE := hide (show japp c J r = (J.app r, J.all + 1, 0) by unfold japp; rw [hrl, if_pos h1, if_pos h2])
      have hn0 : 1 ≤ n ∧ n ≤ 2000 := by simpa [isRec] using h1
      have hnl : J.next.length + n + 2 ≤ c * 128 := by
        have hh : (1 : Int) ≤ n ∧ (n : Int) ≤ 2000 ∧ (n : Int) + 2 ≤ (c : Int) * 128 - (J.tl.2 : Int) := by simpa [jfits] using h2
        have : J.next.length ≤ J.tl.2 := by unfold JSt.tl; split <;> (show _ ≤ _ + _; omega)
        omega
      have HL := hide hrl
      have HC2 := hide hk.c2
      have HAl := hide hk.all
      rw [h1] at HR
      rw [h2] at HF
      clear h hrl h1 h2 hk
      obtain ⟨i0, hi0, hz0, hs0, hb0⟩ := info_parts info5'
      have hc2 : c ≤ 4096 := HC2.out
      have hal : J.all ≤ 1000000000000 := HAl.out
      go_enter Try.func48, Try.ntmps48
      go_wp2_with (first
        | (go_at_call 90; refine HM.out.mono ?_; rintro e w' ⟨rfl, rfl⟩)
        | (go_at_call 91; refine HR.out.mono ?_; rintro e w' ⟨rfl, rfl⟩))
      refine HF.out.mono ?_
      rintro e w1 ⟨rfl, hb1⟩
      have hj1 := HJ.out.below hb1 (Nat.le_refl _)
      have hr1 := hr.below hb1 (Nat.le_refl _)
      go_upto_region 7 with fail
      have hd1 : Below w.heap.size w w1.drew := hb1.drew
      have hj1' : JAt w1.drew base j d c nv J := HJ.out.below hd1 (Nat.le_refl _)
      have hr1' := hr.below hd1 (Nat.le_refl _)
      obtain ⟨w2, hw2⟩ : ∃ w2, w2 = w1.drew := ⟨_, rfl⟩
      have HFR := hide (jframe_ok A n cp r hn0.1 (by omega) w2 (by rw [hw2]; exact hr1'))
      have HJ2 := hide (show JAt w2 base j d c nv J by rw [hw2]; exact hj1')
      have HB2 := hide (show Below w.heap.size w w2 by rw [hw2]; exact hd1)
      have hS : w1.drew.cell? ⟨j, 8, none⟩ = some nv := (hj1'.hj.cell 8).trans rfl
      refine wp_region_held 10 (fun w' => w'.cell? ⟨j, 8, none⟩ = some nv) (fun i => i == 6 || i == 7) (by kernel_rfl) (by kernel_rfl) hS (fun ops hops F hF => ?_)
      rw [← hw2]
      clear hops hw2 hj1 hr1 hd1 hj1' hr1' hS hr hb1
      simp only [List.take_succ_cons, List.take_zero, List.drop_succ_cons, List.drop_zero] at hF ⊢
      iterate 6 (refine held_q rfl rfl ?_; apply Exists.intro; refine ⟨fun w' hw' => ?_, ?_⟩; (go_simp; rfl); simp only [Act.put, List.setIfInBounds_toArray, List.set_cons_zero, List.set_cons_succ, Nat.reduceAdd])
      refine held_loud rfl rfl (fun K hK => ?_)
      go_simp
      refine HFR.out.mono ?_
      rintro e w3 ⟨v3, rfl, hown3, hb3⟩
      have hj3 := HJ2.out.below hb3 (Nat.le_refl _)
      refine hK _ _ ((hj3.hj.cell 8).trans rfl) ?_
      clear hK K
      simp only [Act.put, List.setIfInBounds_toArray, List.set_cons_zero, List.set_cons_succ, Nat.reduceAdd]
      obtain ⟨A3, cp3, rfl, -, -, hA3⟩ := own_shape hown3
      obtain ⟨g3, rfl, hg3, hg3', hr3⟩ := hA3 (by omega)
      refine held_loud rfl rfl (fun K hK => ?_)
      refine wp_append_lies _ _ _ 28 rfl base 5 i0 _ 1 1 Try.underlying28 hi0 hz0 hs0 hb0 rfl (by omega) nv J.next.length (bvs J.next) rfl hj3.hn ⟨g3, 0, none⟩ (n + 2) cp3 (bvs (frameL r)) rfl ?_ ?_ (bvs_one _) (by omega) (by unfold maxLen; omega) (by omega) ?_ _ rfl ?_
      · rw [bvs_length, frameL_length, HL.out]; omega
      · intro i u hu; rw [Addr.add_mid]; exact hr3 i u hu
      · have := hj3.bj; have := hj3.hj.lt; omega
      intro g cap2 w4 hown hgrow hat hlt
      have f3 : Fr (fun k => nv.ownBlock = some k) w3 w4 := (Fr.refl _ w3).grown hgrow (fun k hk => .inl hk)
      have hfr : Fr (fun k => nv.ownBlock = some k) w w4 := ((Fr.none_ HB2.out).trans ((Fr.none_ hb3).trans f3 (fun k hk => .inl hk)) (fun k hk => .inl hk))
      have hnj : nv.ownBlock ≠ some j := own_ne hj3.hn hj3.hj (by decide)
      have k4 := hj3.hj.fr f3 hnj
      have hgj : g ≠ j := by
        rcases hat with h9 | h9
        · intro e; subst e; exact hnj h9
        · have := hj3.hj.lt; omega
      have hlat : Later nv (.slice (some ⟨g, 0, none⟩) (J.next.length + (n + 2)) cap2) w := fun k hk => by
        have hk' : g = k := by simpa [Value.ownBlock] using hk
        subst hk'
        rcases hat with h9 | h9
        · exact .inl h9
        · right; have := HB2.out.size; have := hb3.size; omega
      have h8 := k4.cell 8
      have h14 := k4.cell 14
      have z8 := k4.frozen 8
      have z14 := k4.frozen 14
      simp [jcells] at h8 h14
      have HK := hide k4
      have HO := hide hown
      have HFr := hide hfr
      refine hK _ _ h8 ?_
      clear hK K hj3 hnj hat k4 hown hgrow hlt f3 hfr hb3 hown3 hr3
      simp only [Act.put, List.setIfInBounds_toArray, List.set_cons_zero, List.set_cons_succ, Nat.reduceAdd]
      iterate 2 (refine held_q rfl rfl ?_; apply Exists.intro; refine ⟨fun w' hw' => ?_, ?_⟩; (go_simp; rfl); simp only [Act.put, List.setIfInBounds_toArray, List.set_cons_zero, List.set_cons_succ, Nat.reduceAdd])
      refine held_nil (hF _ _ ?_)
      clear hF F
      go_wp2
      go_ret2
      rw [HE.out]
      refine ⟨.slice (some ⟨g, 0, none⟩) (J.next.length + (n + 2)) cap2, rfl, ⟨?_, ?_, HJ.out.bj⟩, ?_, hlat⟩
      · have e1 := (HK.out.set_ 8 (.slice (some ⟨g, 0, none⟩) (J.next.length + (n + 2)) cap2)).set_ 14 (.int .i64 ((J.all : Int) + 1))
        exact e1
      · have e2 := Fr.own HO.out (((Fr.refl (fun k => k = j) w4).setCell (p := ⟨j, 8, none⟩) (.inl rfl) (.slice (some ⟨g, 0, none⟩) (J.next.length + (n + 2)) cap2)).setCell (p := ⟨j, 14, none⟩) (.inl rfl) (.int .i64 ((J.all : Int) + 1))) (fun k hk e => hgj (by simpa [Value.ownBlock, e] using hk))
        rw [← bvs_append] at e2
        have e3 : (J.next ++ frameL r).length = J.next.length + (n + 2) := by rw [List.length_append, frameL_length, HL.out]
        show World.ownsRow _ base 5 1 _ (J.next ++ frameL r).length (bvs (J.next ++ frameL r))
        rw [e3]
        exact e2
      · exact (((HFr.out.mono (fun k hk => .inr hk)).setCell (p := ⟨j, 8, none⟩) (.inl (.inl rfl)) _).setCell (p := ⟨j, 14, none⟩) (.inl (.inl rfl)) _)
    · have HE := hide (show japp c J r = (J, 0, 5) by unfold japp; rw [hrl, if_pos h1, if_neg h2])
      simp only [Bool.not_eq_true] at h2
      rw [h1] at HR
      rw [h2] at HF
      clear h hrl h1 h2 hk
      go_enter Try.func48, Try.ntmps48
      go_wp2_with (first
        | (go_at_call 90; refine HM.out.mono ?_; rintro e w' ⟨rfl, rfl⟩)
        | (go_at_call 91; refine HR.out.mono ?_; rintro e w' ⟨rfl, rfl⟩))
      refine HF.out.mono ?_
      rintro e w1 ⟨rfl, hb1⟩
      go_wp2_with fail
      go_ret2
      rw [HE.out]
      exact ⟨nv, rfl, HJ.out.below hb1 (Nat.le_refl _), Fr.none_ hb1, Later.refl _ _⟩
  · have HE := hide (show japp c J r = (J, 0, 1) by unfold japp; rw [hrl, if_neg h1])
    simp only [Bool.not_eq_true] at h1
    rw [h1] at HR
    clear h hrl h1 hk
    go_enter Try.func48, Try.ntmps48
    go_wp2_with (first
      | (go_at_call 90; refine HM.out.mono ?_; rintro e w' ⟨rfl, rfl⟩)
      | (go_at_call 91; refine HR.out.mono ?_; rintro e w' ⟨rfl, rfl⟩))
    go_ret2
    rw [HE.out]
    exact ⟨nv, rfl, HJ.out, Fr.refl _ _, Later.refl _ _⟩
end Go.Proofs.Ytnnhklembdaieaa
namespace Go.Proofs.Ytnnhklembdaieaa
open Go.RowKit
set_option linter.unusedSimpArgs false
set_option linter.unusedVariables false

/-- a disk and its journal. -/
structure DJ (w : World) (base d bl j c : Nat) (wv nv : Value) (D : DSt) (J : JSt) : Prop where
  hD : DiskAt w base d bl wv D
  hJ : JAt w base j d c nv J
  ok : JOk c J
  dl : 2 + 2 * c ≤ D.l.length
  cnt : D.waits.length ≤ 500000000 ∧ D.writes ≤ 500000000000 ∧ D.syncs ≤ 500000000000
def djfoot (d bl j : Nat) (wv nv : Value) : Nat → Prop := fun k => dfoot d bl wv k ∨ jfoot j nv k
def JSt.begun (J : JSt) (half at_ n : Nat) : JSt := { J with half := half, at_ := at_, length := at_ + n, pdone := J.all, next := [], stage := 1 }

set_option maxRecDepth 100000 in
set_option maxHeartbeats 1600000 in
theorem jbegin_ok {w : World} {base d bl j c : Nat} {wv nv : Value} {D : DSt} {J : JSt} (h : DJ w base d bl j c wv nv D J) (half at_ : Nat) (A : Option Addr) (n cp : Nat) (b : List UInt8) (hA : SlAt w A n (bvs b)) (hsep : Sep w base bl A n) (hh : half ≤ 1) (hat : at_ + n ≤ c * 128)
    (hcap : cp ≤ 9223372036854775807) (hncap : n ≤ cp) :
    Calls Try.prog 93 #[.pointer (some ⟨j, 0, none⟩), .int .i64 (half : Int), .int .i64 (at_ : Int), .slice A n cp] w fun e w' => e = .returned (.int .i64 0) ∧ ∃ wv', DiskAt w' base d bl wv' (D.put ((2 + half * c) * 128 + at_) b) ∧ JAt w' base j d c (.slice none 0 0) (J.begun half at_ n) ∧ Fr (djfoot d bl j wv nv) w w' ∧ Later wv wv' w := by
  have hbl : b.length = n := by have := hA.1; rwa [bvs_length] at this
  have hf0 : ∀ i (v : Value), (jcells d c nv J)[i]? = some v → w.drew.cell? ⟨j, i, none⟩ = some v := fun i v hv => (h.hJ.hj.drew.cell i).trans hv
  have hc2 := h.ok.c2
  have hal := h.ok.all
  have hput : ∀ fi : Int, fi = ((2 + half * c : Nat) : Int) → _ := fun fi hfi => putL w.drew base d bl wv D (h.hD.fr (Fr.refl nob w).drew (fun _ _ h => h)) (2 + half * c) c at_ (by omega) (by have := h.dl; have : half * c ≤ 1 * c := Nat.mul_le_mul_right c hh; omega) h.ok.c1 A n cp b hbl (hA.below (B := w.heap.size) (by exact ((Fr.refl nob w).drew.belowThis (fun _ h => h))) (Nat.le_refl _)) (hsep.fr (Fr.refl nob w).drew (fun _ _ _ h => h)) hat (by have := h.cnt; omega) hcap hncap fi (c : Int) (at_ : Int) hfi rfl rfl
  obtain ⟨v1, hv1⟩ : ∃ v : Int, v = if half = 0 then 2 else ((2 + c : Nat) : Int) := ⟨_, rfl⟩
  have HP := hide (hput v1 (by rw [hv1]; rcases (show half = 0 ∨ half = 1 by omega) with rfl | rfl <;> simp))
  have hq0 : w.drew.cell? ⟨j, 0, none⟩ = some (.pointer (some ⟨d, 0, none⟩)) := hf0 0 _ rfl
  have hq1 : w.drew.cell? ⟨j, 1 + half * 2, none⟩ = some (.int .i64 v1) := by
    rw [hv1]; rcases (show half = 0 ∨ half = 1 by omega) with rfl | rfl
    · exact hf0 1 _ rfl
    · exact hf0 3 _ rfl
  have hq2 : w.drew.cell? ⟨j, 1 + half * 2 + 1, none⟩ = some (.int .i64 (c : Int)) := by
    rcases (show half = 0 ∨ half = 1 by omega) with rfl | rfl
    · exact hf0 2 _ rfl
    · exact hf0 4 _ rfl
  have HJ := hide h
  have HBL := hide hbl
  have hmx : at_ + n ≤ 524288 := by omega
  have HJK : jfoot j nv j := .inl rfl
  have hoff := HJ.out.hD
  have hh2 : (half : Int) < 2 := by omega
  clear hput hf0 hA hsep h hbl hat hcap hncap hv1 hoff
  go_enter Try.func93, Try.ntmps93
  go_wp2_with fail
  refine wp_region_held 13 (fun w' => w'.cell? ⟨j, 0, none⟩ = some (.pointer (some ⟨d, 0, none⟩)) ∧ w'.cell? ⟨j, 1 + half * 2, none⟩ = some (.int .i64 v1) ∧ w'.cell? ⟨j, 1 + half * 2 + 1, none⟩ = some (.int .i64 (c : Int))) (fun i => i == 12) (by kernel_rfl) (by kernel_rfl) ⟨hq0, hq1, hq2⟩ (fun ops hops F hF => ?_)
  clear hops
  simp only [List.take_succ_cons, List.take_zero, List.drop_succ_cons, List.drop_zero] at hF ⊢
  iterate 12 (refine held_q rfl rfl ?_; apply Exists.intro; refine ⟨fun w' hw' => ?_, ?_⟩; (obtain ⟨x0, x1, x2⟩ := hw'; go_simp; rfl); simp only [Act.put, List.setIfInBounds_toArray, List.set_cons_zero, List.set_cons_succ, Nat.reduceAdd])
  refine held_loud rfl rfl (fun K hK => ?_)
  go_simp
  refine HP.out.mono ?_
  rintro e w3 ⟨rfl, wv', hD3, f3, hl3⟩
  have f3' : Fr (dfoot d bl wv) w w3 := (Fr.refl _ w).drew.trans f3 (fun k hk => .inl hk)
  have hJ3 := HJ.out.hJ.fr f3' (fun k hk => jd_off HJ.out.hD HJ.out.hJ k hk)
  have s0 := hJ3.hj.cell 0
  have s1 : w3.cell? ⟨j, 1 + half * 2, none⟩ = some (.int .i64 v1) := (f3.cell (p := ⟨j, 1 + half * 2, none⟩) HJ.out.hJ.hj.lt (jd_off HJ.out.hD HJ.out.hJ j HJK)).trans hq1
  have s2 : w3.cell? ⟨j, 1 + half * 2 + 1, none⟩ = some (.int .i64 (c : Int)) := (f3.cell (p := ⟨j, 1 + half * 2 + 1, none⟩) HJ.out.hJ.hj.lt (jd_off HJ.out.hD HJ.out.hJ j HJK)).trans hq2
  refine hK _ _ ⟨s0.trans rfl, s1, s2⟩ ?_
  clear hK K
  simp only [Act.put, List.setIfInBounds_toArray, List.set_cons_zero, List.set_cons_succ, Nat.reduceAdd]
  refine held_nil (hF _ _ ?_)
  clear hF F
  have k3 := hJ3.hj
  have c14 : w3.cell? ⟨j, 14, none⟩ = some (.int .i64 (J.all : Int)) := (k3.cell 14).trans rfl
  have y8 : w3.cell? ⟨j, 8, none⟩ = some nv := (k3.cell 8).trans rfl
  have y9 : w3.cell? ⟨j, 9, none⟩ = some (.int .i64 (J.half : Int)) := (k3.cell 9).trans rfl
  have y10 : w3.cell? ⟨j, 10, none⟩ = some (.int .i64 (J.at_ : Int)) := (k3.cell 10).trans rfl
  have y11 : w3.cell? ⟨j, 11, none⟩ = some (.int .i64 (J.length : Int)) := (k3.cell 11).trans rfl
  have y12 : w3.cell? ⟨j, 12, none⟩ = some (.int .i64 (J.pdone : Int)) := (k3.cell 12).trans rfl
  have y13 : w3.cell? ⟨j, 13, none⟩ = some (.int .i64 (J.stage : Int)) := (k3.cell 13).trans rfl
  have z8 := k3.frozen 8
  have z9 := k3.frozen 9
  have z10 := k3.frozen 10
  have z11 := k3.frozen 11
  have z12 := k3.frozen 12
  have z13 := k3.frozen 13
  have HK := hide k3
  have HD := hide hD3
  have HF3 := hide f3'
  have HL := hide hl3
  clear k3 hD3 f3' f3 hJ3 s0 s1 s2 hl3 hq0 hq1 hq2 HP
  go_wp2
  go_ret
  have FS : ∀ (w' : World) (S : Nat → Prop), S j → Fr S w' w3 → Fr S w' ((((((w3.setCell { block := j, off := 9 } (Value.int IntKind.i64 ↑half)).setCell { block := j, off := 10 }
                      (Value.int IntKind.i64 ↑at_)).setCell
                  { block := j, off := 11 } (Value.int IntKind.i64 (↑at_ + ↑n))).setCell
              { block := j, off := 12 } (Value.int IntKind.i64 ↑J.all)).setCell
          { block := j, off := 8 } (Value.slice none 0 0)).setCell
      { block := j, off := 13 } (Value.int IntKind.i64 1)) := fun w' S hS h => (((((h.setCell (.inl hS) _).setCell (.inl hS) _).setCell (.inl hS) _).setCell (.inl hS) _).setCell (.inl hS) _).setCell (.inl hS) _
  refine ⟨rfl, wv', ?_, ⟨?_, ?_, HJ.out.hJ.bj⟩, ?_, ?_⟩
  · refine HD.out.fr (FS w3 (fun k => k = j) rfl (Fr.refl _ _)) (fun k hk e => ?_)
    subst e
    exact HD.out.off HK.out (by decide) (by decide) (.inl (by decide)) hk
  · have e1 := (((((HK.out.set_ 9 (.int .i64 (half : Int))).set_ 10 (.int .i64 (at_ : Int))).set_ 11 (.int .i64 ((at_ : Int) + (n : Int)))).set_ 12 (.int .i64 (J.all : Int))).set_ 8 (.slice none 0 0)).set_ 13 (.int .i64 1)
    exact e1
  · exact World.ownsRow_nil _ _ _ _
  · exact FS w _ (.inr HJK) (HF3.out.mono (fun k hk => .inl hk))
  · exact HL.out
end Go.Proofs.Ytnnhklembdaieaa
namespace Go.Proofs.Ytnnhklembdaieaa
open Go.RowKit
set_option linter.unusedSimpArgs false
set_option linter.unusedVariables false

def JSt.sured (J : JSt) : JSt := { J with gen := J.gen + 1, area := J.half, len := J.length, done := J.pdone, half := 0, at_ := 0, length := 0, pdone := 0, stage := 0 }

set_option maxRecDepth 100000 in
set_option maxHeartbeats 1600000 in
theorem jsure_ok {w : World} {base j d c : Nat} {nv : Value} {J : JSt} (h : JAt w base j d c nv J) (hg : J.gen ≤ 1000000000000) :
    Calls Try.prog 94 #[.pointer (some ⟨j, 0, none⟩)] w fun e w' => e = .returned (.tuple #[]) ∧ JAt w' base j d c nv J.sured ∧ Fr (fun k => k = j) w w' := by
  have k := h.hj.drew
  have hn := h.hn
  have hne : nv.ownBlock ≠ some j := own_ne h.hn h.hj (by decide)
  have c5 : w.drew.cell? ⟨j, 5, none⟩ = some (.int .u64 (J.gen : Int)) := (k.cell 5).trans rfl
  have c9 : w.drew.cell? ⟨j, 9, none⟩ = some (.int .i64 (J.half : Int)) := (k.cell 9).trans rfl
  have c11 : w.drew.cell? ⟨j, 11, none⟩ = some (.int .i64 (J.length : Int)) := (k.cell 11).trans rfl
  have c12 : w.drew.cell? ⟨j, 12, none⟩ = some (.int .i64 (J.pdone : Int)) := (k.cell 12).trans rfl
  have c6 : w.drew.cell? ⟨j, 6, none⟩ = some (.int .i64 (J.area : Int)) := (k.cell 6).trans rfl
  have c7 : w.drew.cell? ⟨j, 7, none⟩ = some (.int .i64 (J.len : Int)) := (k.cell 7).trans rfl
  have c15 : w.drew.cell? ⟨j, 15, none⟩ = some (.int .i64 (J.done : Int)) := (k.cell 15).trans rfl
  have c10 : w.drew.cell? ⟨j, 10, none⟩ = some (.int .i64 (J.at_ : Int)) := (k.cell 10).trans rfl
  have c13 : w.drew.cell? ⟨j, 13, none⟩ = some (.int .i64 (J.stage : Int)) := (k.cell 13).trans rfl
  have z : ∀ i, w.drew.frozen? ⟨j, i, none⟩ = false := fun i => k.frozen i
  have HJ := hide h
  have HK := hide k
  clear k hn h
  obtain ⟨w1, hw1⟩ : ∃ w1, w1 = w.drew := ⟨_, rfl⟩
  have HF := hide (show Fr (fun k => k = j) w w1 by rw [hw1]; exact (Fr.refl _ w).drew)
  go_enter Try.func94, Try.ntmps94
  go_wp2_with fail
  refine wp_region_held 20 (fun w' => w'.cell? ⟨j, 5, none⟩ = some (.int .u64 (J.gen : Int)) ∧ w'.cell? ⟨j, 9, none⟩ = some (.int .i64 (J.half : Int)) ∧ w'.cell? ⟨j, 11, none⟩ = some (.int .i64 (J.length : Int))) (fun i => false) (by kernel_rfl) (by kernel_rfl) ⟨c5, c9, c11⟩ (fun ops hops F hF => ?_)
  rw [← hw1] at c5 c6 c7 c9 c10 c11 c12 c13 c15 z HK ⊢
  clear hops hw1
  simp only [List.take_succ_cons, List.take_zero, List.drop_succ_cons, List.drop_zero] at hF ⊢
  iterate 20 (refine held_q rfl rfl ?_; apply Exists.intro; refine ⟨fun w' hw' => ?_, ?_⟩; (obtain ⟨x0, x1, x2⟩ := hw'; go_simp; rfl); simp only [Act.put, List.setIfInBounds_toArray, List.set_cons_zero, List.set_cons_succ, Nat.reduceAdd])
  refine held_nil (hF _ _ ?_)
  clear hF F
  have z5 := z 5
  have z6 := z 6
  have z7 := z 7
  have z9 := z 9
  have z10 := z 10
  have z11 := z 11
  have z12 := z 12
  have z13 := z 13
  have z15 := z 15
  clear z
  go_wp2
  go_end0
  refine ⟨rfl, ⟨?_, ?_, HJ.out.bj⟩, ?_⟩
  · have e1 := ((((((((HK.out.set_ 5 (.int .u64 ((J.gen : Int) + 1))).set_ 6 (.int .i64 (J.half : Int))).set_ 7 (.int .i64 (J.length : Int))).set_ 15 (.int .i64 (J.pdone : Int))).set_ 9 (.int .i64 0)).set_ 10 (.int .i64 0)).set_ 11 (.int .i64 0)).set_ 12 (.int .i64 0)).set_ 13 (.int .i64 0)
    simp only [jcells, List.setIfInBounds_toArray, List.set_cons_zero, List.set_cons_succ] at e1
    exact e1
  · refine Fr.own HJ.out.hn (S := fun k => k = j) ?_ (fun k hk e => hne (by rw [hk, e]))
    exact ((((((((HF.out.setCell (.inl rfl) _).setCell (.inl rfl) _).setCell (.inl rfl) _).setCell (.inl rfl) _).setCell (.inl rfl) _).setCell (.inl rfl) _).setCell (.inl rfl) _).setCell (.inl rfl) _).setCell (.inl rfl) _
  · exact ((((((((HF.out.setCell (.inl rfl) _).setCell (.inl rfl) _).setCell (.inl rfl) _).setCell (.inl rfl) _).setCell (.inl rfl) _).setCell (.inl rfl) _).setCell (.inl rfl) _).setCell (.inl rfl) _).setCell (.inl rfl) _
end Go.Proofs.Ytnnhklembdaieaa
namespace Go.Proofs.Ytnnhklembdaieaa
open Go.RowKit
set_option linter.unusedSimpArgs false
set_option linter.unusedVariables false

def JSt.nexts (J : JSt) : SU := ⟨J.gen + 1, J.half, J.length⟩
def jstep (c : Nat) (D : DSt) (J : JSt) : DSt × JSt × Nat :=
  if J.stage = 0 then (if J.next.length = 0 then (D, J, 4) else (D.put ((2 + J.area * c) * 128 + J.len) J.next, J.begun J.area J.len J.next.length, 0))
  else if J.stage = 1 then (D.sync, { J with stage := 2 }, 0)
  else if J.stage = 2 then (D.write ((J.gen + 1) % 2) (superBytes J.nexts), { J with stage := 3 }, 0)
  else (D.sync, J.sured, 0)
/-- what a call on a disk and its journal leaves. -/
def Left (w w' : World) (base d bl j c : Nat) (wv nv : Value) (D : DSt) (J : JSt) : Prop :=
  ∃ wv' nv', DiskAt w' base d bl wv' D ∧ JAt w' base j d c nv' J ∧ Fr (djfoot d bl j wv nv) w w' ∧ Later wv wv' w ∧ Later nv nv' w

set_option maxRecDepth 100000 in
set_option maxHeartbeats 1600000 in
theorem jstep_none {w : World} {base d bl j c : Nat} {wv nv : Value} {D : DSt} {J : JSt} (h : DJ w base d bl j c wv nv D J) (hs : J.stage = 0) (hn : J.next.length = 0) :
    Calls Try.prog 49 #[.pointer (some ⟨j, 0, none⟩)] w fun e w' => e = .returned (.tuple #[.int .i64 0, .int .i64 4]) ∧ w' = w := by
  have c0 : w.cell? ⟨j, 0, none⟩ = some (.pointer (some ⟨d, 0, none⟩)) := (h.hJ.hj.cell 0).trans rfl
  have HM := hide (jmade_ok j d w c0)
  obtain ⟨A, cp, hnv, -⟩ := own_shape h.hJ.hn
  rw [hn] at hnv
  have c13 : w.cell? ⟨j, 13, none⟩ = some (.int .i64 (J.stage : Int)) := (h.hJ.hj.cell 13).trans rfl
  have c8 : w.cell? ⟨j, 8, none⟩ = some nv := (h.hJ.hj.cell 8).trans rfl
  rw [hs] at c13
  rw [hnv] at c8
  clear h hs hn hnv
  go_enter Try.func49, Try.ntmps49
  go_wp2_with (go_at_call 90; refine HM.out.mono ?_; rintro e w' ⟨rfl, rfl⟩)
  go_ret2
  exact ⟨rfl, rfl⟩

set_option maxRecDepth 100000 in
set_option maxHeartbeats 1600000 in
theorem jstep_begin {w : World} {base d bl j c : Nat} {wv nv : Value} {D : DSt} {J : JSt} (h : DJ w base d bl j c wv nv D J) (hs : J.stage = 0) (hn : J.next.length ≠ 0) :
    Calls Try.prog 49 #[.pointer (some ⟨j, 0, none⟩)] w fun e w' => e = .returned (.tuple #[.int .i64 1, .int .i64 0]) ∧ Left w w' base d bl j c wv nv (D.put ((2 + J.area * c) * 128 + J.len) J.next) (J.begun J.area J.len J.next.length) := by
  have c0 : w.cell? ⟨j, 0, none⟩ = some (.pointer (some ⟨d, 0, none⟩)) := (h.hJ.hj.cell 0).trans rfl
  have HM := hide (jmade_ok j d w c0)
  obtain ⟨A, cp, hnv, hcp1, hcp2, hA⟩ := own_shape h.hJ.hn
  obtain ⟨g, rfl, hg1, hg2, hr⟩ := hA (by omega)
  have c13 : w.cell? ⟨j, 13, none⟩ = some (.int .i64 (J.stage : Int)) := (h.hJ.hj.cell 13).trans rfl
  have c8 : w.cell? ⟨j, 8, none⟩ = some nv := (h.hJ.hj.cell 8).trans rfl
  have c6 : w.cell? ⟨j, 6, none⟩ = some (.int .i64 (J.area : Int)) := (h.hJ.hj.cell 6).trans rfl
  have c7 : w.cell? ⟨j, 7, none⟩ = some (.int .i64 (J.len : Int)) := (h.hJ.hj.cell 7).trans rfl
  obtain ⟨n, hln⟩ : ∃ n, n = J.next.length := ⟨_, rfl⟩
  have fd : Fr nob w w.drew := (Fr.refl nob w).drew
  have hd : DJ w.drew base d bl j c wv nv D J := ⟨h.hD.fr fd (fun _ _ h => h), h.hJ.fr fd (fun _ _ h => h), h.ok, h.dl, h.cnt⟩
  have hB := jbegin_ok hd J.area J.len (some ⟨g, 0, none⟩) J.next.length cp J.next ⟨by rw [bvs_length], fun _ => ⟨g, 0, rfl, hg2, fun i u hu => by rw [Nat.zero_add]; simpa using hr i u hu⟩⟩ (by have := hd.hJ.hn; rw [hnv] at this; exact Sep.ofOwn this (by decide) (by decide) (by decide)) h.ok.a1 (by have := h.ok.l1; omega) (by unfold maxLen at hcp2; exact hcp2) hcp1
  rw [hs] at c13
  rw [hnv] at c8
  have HN := hide hnv
  rw [← hln] at hB c8 ⊢
  have hn0 : (n : Int) ≠ 0 := by omega
  have hn1 : ((n : Int) == 0) = false := by simpa using hn0
  have HB := hide hB
  have HW := hide h.hJ.hj.lt
  clear h hs hn hnv hB hA hr hcp1 hcp2 hd hln hg1 hg2
  go_enter Try.func49, Try.ntmps49
  go_wp2_with (go_at_call 90; refine HM.out.mono ?_; rintro e w' ⟨rfl, rfl⟩)
  refine wp_region_held 15 (fun w' => w'.cell? ⟨j, 6, none⟩ = some (.int .i64 (J.area : Int)) ∧ w'.cell? ⟨j, 7, none⟩ = some (.int .i64 (J.len : Int)) ∧ w'.cell? ⟨j, 8, none⟩ = some (.slice (some ⟨g, 0, none⟩) n cp)) (fun i => false) (by kernel_rfl) (by kernel_rfl) ⟨c6, c7, c8⟩ (fun ops hops F hF => ?_)
  clear hops
  simp only [List.take_succ_cons, List.take_zero, List.drop_succ_cons, List.drop_zero] at hF ⊢
  iterate 15 (refine held_q rfl rfl ?_; apply Exists.intro; refine ⟨fun w' hw' => ?_, ?_⟩; (obtain ⟨x0, x1, x2⟩ := hw'; go_simp; rfl); simp only [Act.put, List.setIfInBounds_toArray, List.set_cons_zero, List.set_cons_succ, Nat.reduceAdd])
  refine held_nil (hF _ _ ?_)
  clear hF F
  go_wp2_with fail
  refine HB.out.mono ?_
  rintro e w3 ⟨rfl, wv', hD3, hJ3, f3, hl3⟩
  have c13' : w3.cell? ⟨j, 13, none⟩ = some (.int .i64 1) := (hJ3.hj.cell 13).trans rfl
  have HD := hide hD3
  have HJ := hide hJ3
  have HF := hide f3
  have HL := hide hl3
  clear hD3 hJ3 f3 hl3
  go_wp2
  go_ret2
  exact ⟨rfl, wv', _, HD.out, HJ.out, ((Fr.refl _ w).drew.trans HF.out (fun k hk => .inl hk)), HL.out, fun k hk => by cases hk⟩

set_option maxRecDepth 100000 in
set_option maxHeartbeats 1600000 in
theorem jstep_sync {w : World} {base d bl j c : Nat} {wv nv : Value} {D : DSt} {J : JSt} (h : DJ w base d bl j c wv nv D J) (hs : J.stage = 1) :
    Calls Try.prog 49 #[.pointer (some ⟨j, 0, none⟩)] w fun e w' => e = .returned (.tuple #[.int .i64 2, .int .i64 0]) ∧ Left w w' base d bl j c wv nv D.sync { J with stage := 2 } := by
  have c0 : w.cell? ⟨j, 0, none⟩ = some (.pointer (some ⟨d, 0, none⟩)) := (h.hJ.hj.cell 0).trans rfl
  have HM := hide (jmade_ok j d w c0)
  have c13 : w.cell? ⟨j, 13, none⟩ = some (.int .i64 (J.stage : Int)) := (h.hJ.hj.cell 13).trans rfl
  have HS := hide (sync_ok w base d bl wv D h.hD (by have := h.dl; have := h.ok.c1; omega) (by have := h.cnt; omega))
  have HJ := hide h
  have HJK : jfoot j nv j := .inl rfl
  rw [hs] at c13
  clear h hs
  go_enter Try.func49, Try.ntmps49
  go_wp2_with (go_at_call 90; refine HM.out.mono ?_; rintro e w' ⟨rfl, rfl⟩)
  refine HS.out.mono ?_
  rintro e w3 ⟨rfl, hD3, f3⟩
  have hJ3 := HJ.out.hJ.fr f3 (fun k hk => jd_off HJ.out.hD HJ.out.hJ k hk)
  have HJ3 := hide hJ3
  have HD3 := hide hD3
  have y13 : w3.cell? ⟨j, 13, none⟩ = some (.int .i64 (J.stage : Int)) := (hJ3.hj.cell 13).trans rfl
  have z13 := hJ3.hj.frozen 13
  clear hJ3 hD3
  have HF := hide f3
  clear f3
  go_wp2
  go_ret2
  have FS : ∀ (w' : World) (S : Nat → Prop), S j → Fr S w' w3 → Fr S w' (w3.setCell { block := j, off := 13 } (Value.int IntKind.i64 2)) := fun w' S hS h => h.setCell (.inl hS) _
  refine ⟨rfl, .slice none 0 0, nv, ?_, ⟨?_, ?_, HJ.out.hJ.bj⟩, ?_, fun k hk => (by cases hk), Later.refl _ _⟩
  · refine HD3.out.fr (FS w3 (fun k => k = j) rfl (Fr.refl _ _)) (fun k hk e => ?_)
    subst e
    exact HD3.out.off HJ3.out.hj (by decide) (by decide) (.inl (by decide)) hk
  · exact HJ3.out.hj.set_ 13 (.int .i64 2)
  · exact Fr.own HJ3.out.hn (FS w3 (fun k => k = j) rfl (Fr.refl _ _)) (fun k hk e => own_ne HJ3.out.hn HJ3.out.hj (by decide) (by rw [hk, e]))
  · exact FS w _ (.inr HJK) (HF.out.mono (fun k hk => .inl hk))

set_option maxRecDepth 100000 in
set_option maxHeartbeats 1600000 in
theorem jstep_sure {w : World} {base d bl j c : Nat} {wv nv : Value} {D : DSt} {J : JSt} (h : DJ w base d bl j c wv nv D J) (hs : J.stage = 3) :
    Calls Try.prog 49 #[.pointer (some ⟨j, 0, none⟩)] w fun e w' => e = .returned (.tuple #[.int .i64 0, .int .i64 0]) ∧ Left w w' base d bl j c wv nv D.sync J.sured := by
  have c0 : w.cell? ⟨j, 0, none⟩ = some (.pointer (some ⟨d, 0, none⟩)) := (h.hJ.hj.cell 0).trans rfl
  have HM := hide (jmade_ok j d w c0)
  have c13 : w.cell? ⟨j, 13, none⟩ = some (.int .i64 (J.stage : Int)) := (h.hJ.hj.cell 13).trans rfl
  have HS := hide (sync_ok w base d bl wv D h.hD (by have := h.dl; have := h.ok.c1; omega) (by have := h.cnt; omega))
  have HJ := hide h
  have HJK : jfoot j nv j := .inl rfl
  rw [hs] at c13
  clear h hs
  go_enter Try.func49, Try.ntmps49
  go_wp2_with (go_at_call 90; refine HM.out.mono ?_; rintro e w' ⟨rfl, rfl⟩)
  refine HS.out.mono ?_
  rintro e w3 ⟨rfl, hD3, f3⟩
  have hJ3 := HJ.out.hJ.fr f3 (fun k hk => jd_off HJ.out.hD HJ.out.hJ k hk)
  have HJ3 := hide hJ3
  have HD3 := hide hD3
  have HF := hide f3
  have HU := hide (jsure_ok hJ3 HJ.out.ok.gn)
  clear hJ3 hD3 f3
  go_wp2_with fail
  refine HU.out.mono ?_
  rintro e w4 ⟨rfl, hJ4, f4⟩
  have y13 : w4.cell? ⟨j, 13, none⟩ = some (.int .i64 0) := (hJ4.hj.cell 13).trans rfl
  have HJ4 := hide hJ4
  have HF4 := hide f4
  clear hJ4 f4
  go_wp2
  go_ret2
  refine ⟨rfl, .slice none 0 0, nv, ?_, HJ4.out, ?_, fun k hk => (by cases hk), Later.refl _ _⟩
  · refine HD3.out.fr HF4.out (fun k hk e => ?_)
    subst e
    exact HD3.out.off HJ3.out.hj (by decide) (by decide) (.inl (by decide)) hk
  · exact (HF.out.mono (fun k hk => .inl hk)).trans HF4.out (fun k hk => .inl (.inr (hk ▸ HJK)))

set_option maxRecDepth 100000 in
set_option maxHeartbeats 1600000 in
theorem jstep_said {w : World} {base d bl j c : Nat} {wv nv : Value} {D : DSt} {J : JSt} (h : DJ w base d bl j c wv nv D J) (hs : J.stage = 2) :
    Calls Try.prog 49 #[.pointer (some ⟨j, 0, none⟩)] w fun e w' => e = .returned (.tuple #[.int .i64 3, .int .i64 0]) ∧ Left w w' base d bl j c wv nv (D.write ((J.gen + 1) % 2) (superBytes J.nexts)) { J with stage := 3 } := by
  have c0 : w.cell? ⟨j, 0, none⟩ = some (.pointer (some ⟨d, 0, none⟩)) := (h.hJ.hj.cell 0).trans rfl
  have HM := hide (jmade_ok j d w c0)
  have c13 : w.cell? ⟨j, 13, none⟩ = some (.int .i64 (J.stage : Int)) := (h.hJ.hj.cell 13).trans rfl
  have c5 : w.cell? ⟨j, 5, none⟩ = some (.int .u64 (J.gen : Int)) := (h.hJ.hj.cell 5).trans rfl
  have c9 : w.cell? ⟨j, 9, none⟩ = some (.int .i64 (J.half : Int)) := (h.hJ.hj.cell 9).trans rfl
  have c11 : w.cell? ⟨j, 11, none⟩ = some (.int .i64 (J.length : Int)) := (h.hJ.hj.cell 11).trans rfl
  have fd : Fr nob w w.drew := (Fr.refl nob w).drew
  have hg := h.ok.gn
  have hnx : superV J.nexts = .agg #[.int .u64 ((J.gen : Int) + 1), .int .i64 (J.half : Int), .int .i64 (J.length : Int)] := by simp [superV, JSt.nexts]
  have HS := hide (superPutE w.drew base d bl wv D (h.hD.fr fd (fun _ _ h => h)) (by have := h.dl; omega) (by have := h.cnt; omega) J.nexts (by rw [SU.right_iff]; have := h.ok.h1; have := h.ok.lg; have := h.ok.c2; simp only [JSt.nexts]; omega) _ rfl _ hnx)
  have HJ := hide h
  have HJK : jfoot j nv j := .inl rfl
  rw [hs] at c13
  clear h hs fd hnx
  go_enter Try.func49, Try.ntmps49
  go_wp2_with (go_at_call 90; refine HM.out.mono ?_; rintro e w' ⟨rfl, rfl⟩)
  refine wp_region_held 21 (fun w' => w'.cell? ⟨j, 0, none⟩ = some (.pointer (some ⟨d, 0, none⟩)) ∧ w'.cell? ⟨j, 5, none⟩ = some (.int .u64 (J.gen : Int)) ∧ w'.cell? ⟨j, 9, none⟩ = some (.int .i64 (J.half : Int)) ∧ w'.cell? ⟨j, 11, none⟩ = some (.int .i64 (J.length : Int))) (fun i => false) (by kernel_rfl) (by kernel_rfl) ⟨c0, c5, c9, c11⟩ (fun ops hops F hF => ?_)
  clear hops
  simp only [List.take_succ_cons, List.take_zero, List.drop_succ_cons, List.drop_zero] at hF ⊢
  iterate 21 (refine held_q rfl rfl ?_; apply Exists.intro; refine ⟨fun w' hw' => ?_, ?_⟩; (obtain ⟨x0, x1, x2, x3⟩ := hw'; go_simp; rfl); simp only [Act.put, List.setIfInBounds_toArray, List.set_cons_zero, List.set_cons_succ, Nat.reduceAdd])
  refine held_nil (hF _ _ ?_)
  clear hF F
  go_wp2_with fail

  refine HS.out.mono ?_
  rintro e w3 ⟨rfl, wv', hD3, f3', hl3⟩
  have f3 : Fr (dfoot d bl wv) w w3 := (Fr.refl _ w).drew.trans f3' (fun k hk => .inl hk)
  have hJ3 := HJ.out.hJ.fr f3 (fun k hk => jd_off HJ.out.hD HJ.out.hJ k hk)
  have HJ3 := hide hJ3
  have HD3 := hide hD3
  have y13 : w3.cell? ⟨j, 13, none⟩ = some (.int .i64 (J.stage : Int)) := (hJ3.hj.cell 13).trans rfl
  have z13 := hJ3.hj.frozen 13
  clear hJ3 hD3
  have HF := hide f3
  have HL := hide hl3
  clear f3 f3' hl3
  go_wp2
  go_ret2
  have FS : ∀ (w' : World) (S : Nat → Prop), S j → Fr S w' w3 → Fr S w' (w3.setCell { block := j, off := 13 } (Value.int IntKind.i64 3)) := fun w' S hS h => h.setCell (.inl hS) _
  refine ⟨rfl, wv', nv, ?_, ⟨?_, ?_, HJ.out.hJ.bj⟩, ?_, HL.out, Later.refl _ _⟩
  · refine HD3.out.fr (FS w3 (fun k => k = j) rfl (Fr.refl _ _)) (fun k hk e => ?_)
    subst e
    exact HD3.out.off HJ3.out.hj (by decide) (by decide) (.inl (by decide)) hk
  · exact HJ3.out.hj.set_ 13 (.int .i64 3)
  · exact Fr.own HJ3.out.hn (FS w3 (fun k => k = j) rfl (Fr.refl _ _)) (fun k hk e => own_ne HJ3.out.hn HJ3.out.hj (by decide) (by rw [hk, e]))
  · exact FS w _ (.inr HJK) (HF.out.mono (fun k hk => .inl hk))
end Go.Proofs.Ytnnhklembdaieaa
