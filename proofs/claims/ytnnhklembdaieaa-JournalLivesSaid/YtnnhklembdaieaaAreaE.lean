/- The area's contracts as the statements use them; the fixed calls of pigeonloftlaw13 come out as they must. -/
import Derived.Test.YtnnhklembdaieaaAreaD
import Derived.Test.YtnnhklembdaieaaTogW
namespace Go.Proofs.Ytnnhklembdaieaa
open Go.RowKit
set_option linter.unusedSimpArgs false
set_option linter.unusedVariables false

theorem Sep.ofBlk {w : World} {base bl g o t n : Nat} {cs : Array Value} {mk} (h : w.heap[g]? = some (.cells cs t mk)) (h1 : t ≠ 61) (h2 : t ≠ 153) (h3 : t ≠ 151 ∨ g ≠ bl) : Sep w base bl (some ⟨g, o, none⟩) n := fun a ha _ => by
  injection ha with ha
  subst ha
  exact .inr ⟨t, cs, mk, h, h1, h2, h3⟩
theorem Sep.ofOwn {w : World} {base bl b2 : Nat} {e : TypeId} {n cap k : Nat} {A : Option Addr} {xs : List Value} (h : w.ownsRow b2 e 1 (.slice A n cap) n xs) (h1 : e ≠ 61) (h2 : e ≠ 153) (h3 : e ≠ 151) : Sep w base bl A k := fun a ha _ => by
  subst ha
  obtain ⟨cs, hb⟩ := own_blk h (k := a.block) rfl
  exact .inr ⟨e, cs, _, hb, h1, h2, .inl h3⟩
/-- a new block of constants. -/
theorem SlAt.mark (w : World) (cs : List Value) (t : TypeId) (mk) (n : Nat) (hn : cs.length = n) : SlAt (w.alloc (.cells cs.toArray t mk)) (some ⟨w.heap.size, 0, none⟩) n cs :=
  ⟨hn, fun _ => ⟨w.heap.size, 0, rfl, by simp, fun j v hv => by rw [Nat.zero_add, World.cell?_alloc_mark]; simpa using hv⟩⟩

theorem putL (w : World) (base d bl : Nat) (wv : Value) (s : DSt) (h : DiskAt w base d bl wv s) (f c at_ : Nat) (hf : 2 ≤ f) (hc : f + c ≤ s.l.length) (hc1 : 1 ≤ c) (A : Option Addr) (n cap : Nat) (b : List UInt8) (hb : b.length = n) (hA : SlAt w A n (bvs b)) (hsep : Sep w base bl A n)
    (hk : at_ + n ≤ c * 128) (hcnt : s.waits.length + n < 1000000000 ∧ s.writes + n < 1000000000000) (hcap : cap ≤ 9223372036854775807) (hncap : n ≤ cap) (fi ci ai : Int) (h1 : fi = f) (h2 : ci = c) (h3 : ai = at_) :
    Calls Try.prog 67 #[.pointer (some ⟨d, 0, none⟩), .agg #[.int .i64 fi, .int .i64 ci], .int .i64 ai, .slice A n cap] w fun e w' => e = .returned (.int .i64 0) ∧
      ∃ wv', DiskAt w' base d bl wv' (s.put (f * 128 + at_) b) ∧ Fr (dfoot d bl wv) w w' ∧ (∀ k, wv'.ownBlock = some k → wv.ownBlock = some k ∨ w.heap.size ≤ k) := by
  subst h1 h2 h3
  exact put_ok w base d bl wv s h f c at_ hf hc hc1 A n cap b hb hA hsep hk hcnt hcap hncap
theorem getL (w : World) (base d bl : Nat) (wv : Value) (s : DSt) (h : DiskAt w base d bl wv s) (f c at_ k : Nat) (hf : 2 ≤ f) (hc : f + c ≤ s.l.length) (hk : at_ + k ≤ c * 128) (hc1 : 1 ≤ c) (fi ci ai ki : Int) (h1 : fi = f) (h2 : ci = c) (h3 : ai = at_) (h4 : ki = k) :
    Calls Try.prog 68 #[.pointer (some ⟨d, 0, none⟩), .agg #[.int .i64 fi, .int .i64 ci], .int .i64 ai, .int .i64 ki] w fun e w' => ∃ A cap, e = .returned (.tuple #[.slice A k cap, .int .i64 0]) ∧ w'.ownsRow w.heap.size 5 1 (.slice A k cap) k (bvs (s.seg (f * 128 + at_) k)) ∧ k ≤ cap ∧ cap ≤ 9223372036854775807 ∧ Below w.heap.size w w' := by
  subst h1 h2 h3 h4
  refine (get_ok w base d bl wv s h f c at_ k hf hc hk hc1).mono ?_
  rintro e w' ⟨v, rfl, ho, hb⟩
  obtain ⟨A, cap, rfl, hc, hm, _⟩ := own_shape ho
  exact ⟨A, cap, rfl, ho, hc, by unfold maxLen at hm; exact hm, hb⟩

theorem put_new_waits : ((DSt.new 10).put 894 [97, 98, 99, 100]).waits.length = 2 := by decide +kernel
theorem put_new_seg : ((DSt.new 10).put 894 [97, 98, 99, 100]).seg 893 6 = [0, 97, 98, 99, 100, 0] := by decide +kernel

set_option maxRecDepth 100000 in
set_option maxHeartbeats 3200000 in
theorem alive13 (w : World) : Calls Try.prog 65 #[] w fun e w' => e = .returned (.bool true) ∧ Below w.heap.size w w' := by
  have kc := fun (w : World) (C : Array Value) (n c : Nat) => Lib.run_convert_bytes_const (P := Try.prog) w 28 5 C n c Try.underlying28 Try.underlying5
  go_enter Try.func65, Try.ntmps65
  go_wp2_with fail
  refine (newE 10 w (by omega) (by omega)).mono ?_
  rintro e w1 ⟨d, bl, rfl, h1, b1⟩
  have hsd := secDisk h1
  have hh : Calls Try.prog 66 #[.pointer (some ⟨d, 0, none⟩)] w1 fun e w' => e = .returned (.tuple #[.agg #[.int .i64 2, .int .i64 4], .agg #[.int .i64 6, .int .i64 4], .int .i64 0]) ∧ Below w1.heap.size w1 w' := halves_ok _ 10 (by omega) (by omega) w1 hsd
  go_wp2_with fail
  refine hh.mono ?_
  rintro e w2 ⟨rfl, b2⟩
  have h2 := h1.below b2 (Nat.le_refl _)
  go_upto_region 5 with fail
  have k3 : Blk ((w2.alloc (.cells #[.int .i64 2, .int .i64 4] 113)).alloc (.cells #[.int .i64 6, .int .i64 4] 113)) w2.heap.size 113 #[.int .i64 2, .int .i64 4] := (Blk.new w2 113 _).alloc _
  have k4 : Blk ((w2.alloc (.cells #[.int .i64 2, .int .i64 4] 113)).alloc (.cells #[.int .i64 6, .int .i64 4] 113)) (w2.heap.size + 1) 113 #[.int .i64 6, .int .i64 4] := by simpa using Blk.new (w2.alloc (.cells #[.int .i64 2, .int .i64 4] 113)) 113 #[.int .i64 6, .int .i64 4]
  have b3 : Below w.heap.size w ((w2.alloc (.cells #[.int .i64 2, .int .i64 4] 113)).alloc (.cells #[.int .i64 6, .int .i64 4] 113)) := ((b1.trans (b2.mono b1.size)).alloc (by have := b1.size; have := b2.size; omega) _).alloc (by have := b1.size; have := b2.size; simp; omega) _
  have h3 : DiskAt ((w2.alloc (.cells #[.int .i64 2, .int .i64 4] 113)).alloc (.cells #[.int .i64 6, .int .i64 4] 113)) w.heap.size d bl (.slice none 0 0) (DSt.new 10) := h2.fr (((Fr.refl nob w2).alloc _).alloc _) (fun _ _ h => h)
  obtain ⟨w3, hw3⟩ : ∃ w3, w3 = (w2.alloc (.cells #[.int .i64 2, .int .i64 4] 113)).alloc (.cells #[.int .i64 6, .int .i64 4] 113) := ⟨_, rfl⟩
  rw [← hw3] at k3 k4 b3 h3 ⊢
  obtain ⟨a1, ha1⟩ : ∃ a1, a1 = w2.heap.size := ⟨_, rfl⟩
  obtain ⟨a2, ha2⟩ : ∃ a2, a2 = w2.heap.size + 1 := ⟨_, rfl⟩
  rw [← ha2] at k4 ⊢
  rw [← ha1] at k3 ⊢
  clear hw3 ha1 ha2 h2 b2 hh hsd h1 b1
  have c3 := k3.cell 0
  have c31 := k3.cell 1
  have c4 := k4.cell 0
  have c41 := k4.cell 1
  simp at c3 c31 c4 c41
  go_wp2_with fail
  have k5 : SlAt (w3.alloc (.cells #[.int .u8 97, .int .u8 98, .int .u8 99, .int .u8 100] 5 (4, 5))) (some ⟨w3.heap.size, 0, none⟩) 4 (bvs [97, 98, 99, 100]) := SlAt.mark w3 (bvs [97, 98, 99, 100]) 5 (4, 5) 4 rfl
  have h5 := h3.fr ((Fr.refl nob w3).alloc (.cells #[.int .u8 97, .int .u8 98, .int .u8 99, .int .u8 100] 5 (4, 5))) (fun _ _ h => h)
  refine (putL _ _ _ _ _ _ h5 6 4 126 (by omega) (by simp [DSt.new]) (by omega) (some ⟨w3.heap.size, 0, none⟩) 4 4 [97, 98, 99, 100] rfl k5 (Sep.ofBlk (heap_alloc_new w3 _) (by decide) (by decide) (.inl (by decide))) (by omega) (by simp [DSt.new]) (by omega) (by omega) 6 4 126 rfl rfl rfl).mono ?_
  rintro e w6 ⟨rfl, wv6, h6, f6, _⟩
  have k63 := h5.keep f6 (k3.alloc _) (by decide) (by decide) (.inl (by decide))
  have k64 := h5.keep f6 (k4.alloc _) (by decide) (by decide) (.inl (by decide))
  have b6 : Below w.heap.size w w6 := (b3.alloc b3.size _).trans (h5.isBelow f6 (by have := b3.size; simp; omega))
  clear c3 c31 c4 c41 k3 k4 h3 h5 f6 k5 b3
  have c3 := k63.cell 0
  have c31 := k63.cell 1
  have c4 := k64.cell 0
  have c41 := k64.cell 1
  simp at c3 c31 c4 c41
  have hl6 : ((DSt.new 10).put (6 * 128 + 126) [97, 98, 99, 100]).l.length = 10 := by rw [put_l]; simp [DSt.new]
  have HL := hide hl6
  clear hl6
  go_wp2_with fail
  refine (getL w6 _ _ _ _ _ h6 6 4 125 6 (by omega) (by rw [HL.out]; omega) (by omega) (by omega) 6 4 125 6 rfl rfl rfl rfl).mono ?_
  rintro e w7 ⟨GA, gc, rfl, hown7, hgc, hgm, b7⟩
  have h7 := h6.below b7 (Nat.le_refl _)
  have k73 := k63.below b7 k63.lt
  have k74 := k64.below b7 k64.lt
  have b7' := b6.trans (b7.mono b6.size)
  rw [show 6 * 128 + 126 = 894 from rfl] at hown7 h7 HL
  rw [show 6 * 128 + 125 = 893 from rfl, put_new_seg] at hown7
  have s7 := sl_own hown7
  clear c3 c31 c4 c41 k63 k64 h6 b7 b6 hown7
  have c3 := k73.cell 0
  have c31 := k73.cell 1
  have c4 := k74.cell 0
  have c41 := k74.cell 1
  simp at c3 c31 c4 c41
  have hask : askA 10 6 4 510 3 = 1 := by decide
  have hsd := secDisk h7
  rw [HL.out] at hsd
  have hg := get_no (.pointer (some ⟨d, 0, none⟩)) 10 (by omega) 6 4 510 3 w7 hsd (by omega) (by omega) (by rw [hask]; decide)
  rw [hask] at hg
  clear hask hsd
  go_wp2_with fail
  refine hg.mono ?_
  rintro e w8 ⟨rfl, b8⟩
  have h8 := h7.below b8 (Nat.le_refl _)
  have k83 := k73.below b8 k73.lt
  have k84 := k74.below b8 k74.lt
  have b8' := b7'.trans (b8.mono b7'.size)
  have s8 := s7.below b8 (Nat.le_refl _)
  clear c3 c31 c4 c41 k73 k74 h7 b8 b7' s7 hg
  have c3 := k83.cell 0
  have c31 := k83.cell 1
  have c4 := k84.cell 0
  have c41 := k84.cell 1
  simp at c3 c31 c4 c41
  have hst : (convert 28 9 (.slice GA 6 gc)).run Try.prog w8 = .ok (.string ⟨#[0, 97, 98, 99, 100, 0]⟩) w8 := run_str w8 GA 6 gc [0, 97, 98, 99, 100, 0] s8
  go_wp2_with fail
  refine (waits_any w8 _ _ _ _ _ h8).mono ?_
  rintro e w9 ⟨v9, rfl, ho9, b9⟩
  rw [put_new_waits] at ho9
  obtain ⟨WA, wc, rfl, _, _, _⟩ := own_shape ho9
  have k93 := k83.below b9 k83.lt
  have c93 := k93.cell 0
  have c931 := k93.cell 1
  simp at c93 c931
  have b9' := b8'.trans (b9.mono b8'.size)
  clear c3 c31 c4 c41 h8 k83 k84 s8 hst ho9 b9
  have hr : rightA 0 2 4 = false := by decide
  have hrn := right_ok (.pointer none) 0 (by omega) 2 4 w9 (secNil w9) (by omega)
  rw [hr] at hrn
  clear hr
  go_wp2_with fail
  refine hrn.mono ?_
  rintro e w10 ⟨rfl, b10⟩
  go_wp2
  go_ret
  exact ⟨rfl, b9'.trans (b10.mono b9'.size)⟩
end Go.Proofs.Ytnnhklembdaieaa
