/- The records of bytes, plain; and the closure that yields them. The closure that yields the records, of bytes that are records to the end. A range over the records: the law for the caller. -/
import Derived.Test.YtnnhklembdaieaaJouB
import Derived.RangeFuncNested
import Derived.RangeFuncBound
import Derived.RangeFuncCalls
import Derived.RangeFuncLeaves
import Derived.OwnWalkIn
import Derived.TacticsInMore
import Derived.LoopNIn
import Derived.LoopIn
namespace Go.Proofs.Ytnnhklembdaieaa
open Go.RowKit
set_option linter.unusedSimpArgs false
set_option linter.unusedVariables false
attribute [local go_sem] Oper.semAt_some

/-- a record's length, as it stands ahead of it. -/
def headN (b : List UInt8) : Nat := (b.getD 0 0).toNat * 256 + (b.getD 1 0).toNat
/-- the records of bytes, and whether these are records to the end. -/
def recsOf (b : List UInt8) : List (List UInt8) × Bool :=
  if h0 : b.length = 0 then ([], true) else if b.length < 2 then ([], false) else
    if headN b ≤ b.length - 2 ∧ isRec (headN b) = true then ((b.drop 2).take (headN b) :: (recsOf (b.drop (2 + headN b))).1, (recsOf (b.drop (2 + headN b))).2) else ([], false)
termination_by b.length
decreasing_by all_goals (simp only [List.length_drop]; omega)
theorem recsOf_nil : recsOf [] = ([], true) := by rw [recsOf]; simp
theorem recsOf_short (b : List UInt8) (h : b.length = 1) : recsOf b = ([], false) := by rw [recsOf]; simp [h]
theorem recsOf_bad (b : List UInt8) (h : 2 ≤ b.length) (hb : ¬ (headN b ≤ b.length - 2 ∧ isRec (headN b) = true)) : recsOf b = ([], false) := by
  rw [recsOf, dif_neg (by omega), if_neg (by omega), if_neg hb]
theorem recsOf_good (b : List UInt8) (h : 2 ≤ b.length) (hb : headN b ≤ b.length - 2 ∧ isRec (headN b) = true) :
    recsOf b = ((b.drop 2).take (headN b) :: (recsOf (b.drop (2 + headN b))).1, (recsOf (b.drop (2 + headN b))).2) := by
  rw [recsOf, dif_neg (by omega), if_neg (by omega), if_pos hb]
theorem headN_frame (r t : List UInt8) (h : r.length < 65536) : headN (frameL r ++ t) = r.length := by
  simp only [headN, frameL, List.cons_append, List.nil_append, List.append_assoc, List.getD_cons_zero, List.getD_cons_succ, UInt8.toNat_ofNat']
  omega
theorem recsOf_frame (r t : List UInt8) (h : isRec r.length = true) : recsOf (frameL r ++ t) = (r :: (recsOf t).1, (recsOf t).2) := by
  have h1 : 1 ≤ r.length ∧ r.length ≤ 2000 := by simpa [isRec] using h
  have hl : (frameL r ++ t).length = r.length + 2 + t.length := by rw [List.length_append, frameL_length]
  have hh := headN_frame r t (by omega)
  have hd : (frameL r ++ t).drop 2 = r ++ t := rfl
  have hd2 : (frameL r ++ t).drop (2 + r.length) = t := by rw [← List.drop_drop, hd, List.drop_left' rfl]
  rw [recsOf_good _ (by omega) (by rw [hh, hl]; exact ⟨by omega, h⟩), hh, hd, List.take_left' rfl, hd2]
theorem recsOf_enc (l : List (List UInt8)) (h : ∀ r ∈ l, isRec r.length = true) : recsOf (encL l) = (l, true) := by
  induction l with
  | nil => exact recsOf_nil
  | cons a t ih =>
    have : encL (a :: t) = frameL a ++ encL t := by simp [encL]
    rw [this, recsOf_frame _ _ (h a (by simp)), ih (fun r hr => h r (by simp [hr]))]
end Go.Proofs.Ytnnhklembdaieaa
namespace Go.Proofs.Ytnnhklembdaieaa
open Go.RowKit
set_option linter.unusedSimpArgs false
set_option linter.unusedVariables false
attribute [local go_sem] Oper.semAt_some

theorem i64_or_nat (a b : Nat) (ha : a < 4611686018427387904) (hb : b < 4611686018427387904) : bits .or .i64 (a : Int) (b : Int) = ((a ||| b : Nat) : Int) := by
  have hx : a ||| b < 2 ^ 62 := Nat.or_lt_two_pow (by omega) (by omega)
  show IntKind.i64.wrap ((BitVec.ofInt 64 (a : Int) ||| BitVec.ofInt 64 (b : Int)).toNat : Int) = _
  rw [BitVec.toNat_or, BitVec.ofInt_natCast, BitVec.ofInt_natCast, BitVec.toNat_ofNat, BitVec.toNat_ofNat, Nat.mod_eq_of_lt (by omega), Nat.mod_eq_of_lt (by omega), IntKind.wrap_i64]
  omega
theorem below_grown {W W' : World} (h : Below W.heap.size W W') (row : Option Nat) : W.grownBy W' row := ⟨h.os, h.tape, h.output, h.size, fun k hk _ => h.block k hk⟩
set_option maxRecDepth 100000 in
set_option maxHeartbeats 3200000 in
theorem recs_ok (l bb tb n0 : Nat) (b : List UInt8) (J : List (List UInt8) → World → Prop)
    (hJ : ∀ s W W', J s W → W.grownBy W' (some bb) → J s W') (hn0 : ∀ s W, J s W → n0 ≤ W.heap.size)
    (hY : ∀ pre r v W1, J pre W1 → pre.length < (recsOf b).1.length → W1.ownsRow n0 5 1 v r.length (bvs r) → isRec r.length = true → YieldAt Fence.wide 2 Try.prog l #[v, .bool true] W1 fun e W' => e = .returned (.bool true) ∧ J (pre ++ [r]) W' ∧ W'.heap[bb]? = W1.heap[bb]? ∧ W'.heap[tb]? = W1.heap[tb]?)
    (A : Option Addr) (n cap : Nat) (W : World) (h0 : J [] W) (hbb : Blk W bb 28 #[.slice A n cap]) (hb : SlAt W A n (bvs b)) (hcap : n ≤ cap) (hcm : cap ≤ 9223372036854775807) (htb : ∀ a, A = some a → 0 < n → a.block = tb) (htn : tb ≠ bb) (hgood : (recsOf b).2 = true) :
    Calls Try.prog 115 #[.func (.yield l) #[] #[], .pointer (some ⟨bb, 0, none⟩)] W fun e W' => e = .returned (.tuple #[]) ∧ J (recsOf b).1 W' := by
  have HB := hide hb
  have HBB := hide hbb
  have HT := hide htb
  have H0 := hide h0
  have HG := hide hgood
  clear hb hbb htb h0 hgood
  go_enter Try.func115, Try.ntmps115
  go_wp2_with fail
  go_loopw [3] (fun _ wr => ∃ (A : Option Addr) (n cap : Nat) (pre : List (List UInt8)) (rest : List UInt8), J pre wr ∧ Blk wr bb 28 #[.slice A n cap] ∧ SlAt wr A n (bvs rest) ∧ n ≤ cap ∧ cap ≤ 9223372036854775807 ∧ (∀ a, A = some a → 0 < n → a.block = tb) ∧ recsOf b = (pre ++ (recsOf rest).1, (recsOf rest).2)) (fun _ wr => match wr.cell? ⟨bb, 0, none⟩ with | some (.slice _ n _) => n | _ => 0)
  case atStart => exact ⟨A, n, cap, [], b, H0.out, HBB.out, HB.out, hcap, hcm, HT.out, by simp⟩
  case round =>
    clear HB HBB HT H0 hcap hcm
    obtain ⟨A, n, cap, pre, rest, hj, hbb, hb, hcap, hcm, htb, hrec⟩ := hrel
    have c0 := hbb.cell 0
    simp at c0
    have hrl : rest.length = n := by have := hb.1; rwa [bvs_length] at this
    have hgr : (recsOf rest).2 = true := by have := HG.out; rwa [hrec] at this
    have HREC := hide hrec
    have HRL := hide hrl
    have HJ := hide hj
    have HB := hide (And.intro hbb hb)
    have HT := hide htb
    clear hrec hj hbb hb htb
    by_cases h0 : n = 0
    · subst h0
      go_wp2
      go_end0
      refine ⟨rfl, ?_⟩
      have hr : rest = [] := List.eq_nil_of_length_eq_zero HRL.out
      have h1 := HREC.out
      rw [hr, recsOf_nil, List.append_nil] at h1
      rw [h1]
      exact HJ.out
    · have t0 : decide ((n : Int) > 0) = true := by simp; omega
      have hn1 : n ≠ 1 := by
        rintro rfl
        rw [recsOf_short rest hrl] at hgr
        cases hgr
      have hn2 : 2 ≤ n := by omega
      have hgd : headN rest ≤ rest.length - 2 ∧ isRec (headN rest) = true := by
        refine Classical.byContradiction fun hc => ?_
        rw [recsOf_bad rest (by omega) hc] at hgr
        cases hgr
      have hrg := recsOf_good rest (by omega) hgd
      obtain ⟨N, hN⟩ : ∃ N, N = headN rest := ⟨_, rfl⟩
      rw [← hN, hrl] at hgd
      rw [← hN] at hrg
      have hN1 : 1 ≤ N ∧ N ≤ 2000 := by simpa [isRec] using hgd.2
      have HREC2 := hide hrg
      have HREC3 := hide hgd.2
      have hNn := hgd.1
      obtain ⟨hN1, hN2⟩ := hN1
      clear hgd hgr hrg
      have hn1' : (1 : Int) < (n : Int) := by omega
      have hn0' : (0 : Int) < (n : Int) := by omega
      have t1 : decide ((n : Int) < 2) = false := by simp; omega
      have hc1 : ¬ cap = 2 := by omega
      have hc2 : 2 < cap := by omega
      obtain ⟨g, o, rfl, hg, hr⟩ := HB.out.2.2 (by omega)
      have hl0 : 0 < rest.length := by omega
      have hl1 : 1 < rest.length := by omega
      obtain ⟨b0, hb0⟩ : ∃ x, x = rest[0] := ⟨_, rfl⟩
      obtain ⟨b1, hb1⟩ : ∃ x, x = rest[1] := ⟨_, rfl⟩
      have q0 : wr.cell? ⟨g, o, none⟩ = some (.int .u8 (b0.toNat : Int)) := by
        have := hr 0 (bv b0) (by rw [hb0]; simp [bvs, hl0])
        simpa [bv] using this
      have q1 : wr.cell? ⟨g, o + 1, none⟩ = some (.int .u8 (b1.toNat : Int)) := by
        have := hr 1 (bv b1) (by rw [hb1]; simp [bvs, hl1])
        simpa [bv] using this
      have hhd : N = b0.toNat * 256 + b1.toNat := by
        rw [hN, headN, List.getD_eq_getElem?_getD, List.getD_eq_getElem?_getD, List.getElem?_eq_getElem hl0, List.getElem?_eq_getElem hl1, hb0, hb1]; rfl
      have hx0 : b0.toNat < 256 := b0.toNat_lt
      have hx1 : b1.toNat < 256 := b1.toNat_lt
      have hor : bits .or .i64 ((b0.toNat : Int) * 256) (b1.toNat : Int) = (N : Int) := by
        have := i64_or_nat (b0.toNat * 256) b1.toNat (by omega) (by omega)
        rw [show b0.toNat * 256 = 2 ^ 8 * b0.toNat by omega] at this
        rw [← Nat.two_pow_add_eq_or_of_lt (by omega)] at this
        rw [hhd, show b0.toNat * 256 + b1.toNat = 2 ^ 8 * b0.toNat + b1.toNat by omega, ← this]
        congr 1
        omega
      have hw0 : IntKind.i64.wrap (b0.toNat : Int) = (b0.toNat : Int) := by rw [IntKind.wrap_i64]; omega
      have hw1 : IntKind.i64.wrap (b1.toNat : Int) = (b1.toNat : Int) := by rw [IntKind.wrap_i64]; omega
      have hw2 : IntKind.i64.wrap ((b0.toNat : Int) * 256) = (b0.toNat : Int) * 256 := by rw [IntKind.wrap_i64]; omega
      clear hr hb0 hb1 hl0 hl1 hhd hrl hN
      go_wp2_with fail
      refine wp_region_held 10 (fun w' => w'.cell? ⟨bb, 0, none⟩ = some (.slice (some ⟨g, o, none⟩) n cap) ∧ w'.cell? ⟨g, o, none⟩ = some (.int .u8 (b0.toNat : Int)) ∧ w'.cell? ⟨g, o + 1, none⟩ = some (.int .u8 (b1.toNat : Int))) (fun _ => false) (by kernel_rfl) (by kernel_rfl) ⟨c0, q0, q1⟩ (fun ops hops F hF => ?_)
      clear hops
      simp only [List.take_succ_cons, List.take_zero, List.drop_succ_cons, List.drop_zero] at hF ⊢
      iterate 10 (refine held_q rfl rfl ?_; apply Exists.intro; refine ⟨fun w' hw' => ?_, ?_⟩; (obtain ⟨x0, x1, x2⟩ := hw'; go_simp; rfl); simp only [Act.put, List.setIfInBounds_toArray, List.set_cons_zero, List.set_cons_succ, Nat.reduceAdd])
      refine held_nil (hF _ _ ?_)
      clear hF F
      clear hor hw0 hw1 hw2 hx0 hx1
      have z0 := HB.out.1.frozen 0
      have t2 : decide ((N : Int) > ((n : Int) - 2)) = false := by simp; omega
      clear q0 q1
      go_upto_region 5 with fail
      have k1 : Blk ((wr.setCell { block := bb, off := 0 } (Value.slice (some { block := g, off := o + 2 }) (n - 2) (cap - 2))).drew) bb 28 #[Value.slice (some { block := g, off := o + 2 }) (n - 2) (cap - 2)] := (HB.out.1.set_ 0 _).drew
      have hg1 : g ≠ bb := fun e => htn (by rw [← e]; exact (HT.out _ rfl (by omega)).symm)
      have HGT : Hid (g = tb) := hide (HT.out _ rfl (by omega))
      have f1 : wr.grownBy ((wr.setCell { block := bb, off := 0 } (Value.slice (some { block := g, off := o + 2 }) (n - 2) (cap - 2))).drew) (some bb) := ⟨rfl, rfl, rfl, by simp [World.setCell, World.drew], fun k hk hne => Below.heap_setCell wr ⟨bb, 0, none⟩ _ k (fun e => hne (by rw [e]))⟩
      obtain ⟨w1, hw1⟩ : ∃ w1, w1 = (wr.setCell { block := bb, off := 0 } (Value.slice (some { block := g, off := o + 2 }) (n - 2) (cap - 2))).drew := ⟨_, rfl⟩
      rw [← hw1] at k1 f1 ⊢
      have hj1 := hJ _ _ _ HJ.out f1
      have hs1 : SlAt w1 (some ⟨g, o, none⟩) n (bvs rest) := HB.out.2.fr ((Fr.refl (fun k => k = bb) wr).grown f1 (fun k hk => .inl (by injection hk with hk; exact hk.symm))) (fun a ha _ e => by injection ha with ha; rw [← ha] at e; exact hg1 e)
      obtain ⟨n2, hn2e⟩ : ∃ n2, n2 = n - 2 := ⟨_, rfl⟩
      obtain ⟨cap2, hcap2⟩ : ∃ n2, n2 = cap - 2 := ⟨_, rfl⟩
      rw [← hn2e, ← hcap2] at k1 ⊢
      rw [← hn2e] at hNn
      have HW := hide hw1
      have HE := hide (And.intro hn2e (And.intro hcap2 (And.intro hcap (And.intro hcm hn2))))
      have HJ1 := hide hj1
      have HS1 := hide hs1
      have HK1 := hide k1
      have c1 := k1.cell 0
      have z1 := k1.frozen 0
      simp at c1
      have hnc2 : n2 ≤ cap2 := by omega
      have t3 : decide ((N : Int) > (n2 : Int)) = false := by simp; omega
      have hN91 : N ≤ cap2 := by omega
      have HR := hide (jrec_ok (some ⟨g, o + 2, none⟩) N cap2 w1)
      rw [HREC3.out] at HR
      clear hw1 hn2e hcap2 hj1 hs1 k1 c0 z0 t0 t1 t2 hn0' hn1' hc1 hc2 f1 hn2 hn1 h0 hcap hcm
      go_upto_region 7 with (go_at_call 91; refine HR.out.mono ?_; rintro e w' ⟨rfl, rfl⟩)
      refine (wpIn_wide (n := 3)).1 ?_
      obtain ⟨r, hr⟩ : ∃ r, r = (rest.drop 2).take N := ⟨_, rfl⟩
      have hrl : r.length = N := by rw [hr, List.length_take, List.length_drop, HRL.out]; have := HE.out.1; omega
      have hsr : SlAt w1 (some ⟨g, o + 2, none⟩) N (bvs r) := ⟨by rw [bvs_length, hrl], fun _ => by
        obtain ⟨g', o', e, hg', hr'⟩ := HS1.out.2 (by have := HE.out.1; omega)
        injection e with e
        injection e with e1 e2
        subst e1 e2
        exact ⟨g, o + 2, rfl, hg', range_sub hr' 2 N _ (by rw [hr]; simp [bvs])⟩⟩
      have HCL := hide ((callsIn_wide (n := 2)).2 (clone_ok w1 (some ⟨g, o + 2, none⟩) N cap2 r hN1 (by omega) hsr))
      have HRR := hide (And.intro hr hrl)
      have hrr : isRec r.length = true := by rw [hrl]; exact HREC3.out
      have HRREC := hide hrr
      clear hr hrl hsr hrr
      gi_wp2_with fail
      refine ⟨trivial, ?_⟩
      refine HCL.out.mono ?_
      rintro e w2 ⟨v, rfl, hown2, hb2⟩
      obtain ⟨fn, tmps, assign, body, hy, hR⟩ := hY pre r v w2 (hJ _ _ _ HJ1.out (below_grown hb2 _)) (by rw [HREC.out, HREC2.out]; simp) (by rw [HRR.out.2]; exact own_base hown2 (hn0 _ _ HJ1.out)) HRREC.out
      have HR2 := hide hR
      clear hR hown2
      gi_wp2_with fail
      refine HR2.out.mono ?_
      rintro e w3 ⟨rfl, hj3, hbb3, htb3⟩
      have k3 : Blk w3 bb 28 #[Value.slice (some { block := g, off := o + 2 }) n2 cap2] := hbb3.trans (HK1.out.below hb2 HK1.out.lt)
      have hs2 := HS1.out.below hb2 (Nat.le_refl _)
      have HS3 : Hid (SlAt w3 (some ⟨g, o, none⟩) n (bvs rest)) := hide ⟨hs2.1, fun h0 => by
        obtain ⟨g', o', e, hg', hr'⟩ := hs2.2 h0
        injection e with e
        injection e with e1 e2
        subst e1 e2
        have htb3' : w3.heap[g]? = w2.heap[g]? := by rw [HGT.out]; exact htb3
        refine ⟨g, o, rfl, ?_, fun j u hu => (World.cell?_of_block (w := w2) htb3').trans (hr' j u hu)⟩
        rw [Array.getElem?_eq_getElem hg'] at htb3'
        exact (Array.getElem?_eq_some_iff.1 htb3').1⟩
      have HK3 := hide k3
      have HJ3 := hide hj3
      have c3 := k3.cell 0
      have z3 := k3.frozen 0
      simp at c3
      clear c1 z1 hb2 hs2 k3 hj3 hbb3 htb3 hy HCL HR HR2
      gi_wp2_with fail
      have fin : ∀ A' : Option Addr, (n2 ≠ N → A' = some ⟨g, o + 2 + N, none⟩) → (∃ x, A' = some ⟨g, x, none⟩) → ∃ (A : Option Addr) (n cap : Nat) (pre : List (List UInt8)) (rest : List UInt8), J pre (w3.setCell ⟨bb, 0, none⟩ (.slice A' (n2 - N) (cap2 - N))) ∧ Blk (w3.setCell ⟨bb, 0, none⟩ (.slice A' (n2 - N) (cap2 - N))) bb 28 #[.slice A n cap] ∧ SlAt (w3.setCell ⟨bb, 0, none⟩ (.slice A' (n2 - N) (cap2 - N))) A n (bvs rest) ∧ n ≤ cap ∧ cap ≤ 9223372036854775807 ∧ (∀ a, A = some a → 0 < n → a.block = tb) ∧ recsOf b = (pre ++ (recsOf rest).1, (recsOf rest).2) := fun A' hA1 hA2 => by
        obtain ⟨x, hx⟩ := hA2
        have hE := HE.out
        have hl := HRL.out
        have f4 : w3.grownBy (w3.setCell ⟨bb, 0, none⟩ (.slice A' (n2 - N) (cap2 - N))) (some bb) := ⟨rfl, rfl, rfl, by simp [World.setCell], fun k hk hne => Below.heap_setCell w3 ⟨bb, 0, none⟩ _ k (fun e => hne (by rw [e]))⟩
        refine ⟨A', n2 - N, cap2 - N, pre ++ [r], rest.drop (2 + N), hJ _ _ _ HJ3.out f4, HK3.out.set_ 0 _, ⟨by rw [bvs_length, List.length_drop]; omega, fun h0 => ?_⟩, by omega, by omega, fun a ha _ => by rw [hx] at ha; injection ha with ha; rw [← ha]; exact HGT.out, ?_⟩
        · obtain ⟨g', o', e, hg', hr'⟩ := HS3.out.2 (by omega)
          injection e with e
          injection e with e1 e2
          subst e1 e2
          refine ⟨g, o + 2 + N, hA1 (by omega), by simpa [World.setCell] using hg', fun j u hu => ?_⟩
          have h1 := range_sub hr' (2 + N) (n2 - N) (bvs (rest.drop (2 + N))) (by
            rw [bvs, bvs, ← List.map_drop, List.take_of_length_le (by rw [List.length_map, List.length_drop]; omega)])
          rw [show o + (2 + N) = o + 2 + N by omega] at h1
          exact (World.cell?_of_block (w := w3) (a := ⟨g, o + 2 + N + j, none⟩) (Below.heap_setCell w3 ⟨bb, 0, none⟩ _ g hg1)).trans (h1 j u hu)
        · rw [HREC.out, HREC2.out, HRR.out.1]
          simp
      have meas : ∀ A' c', (match (w3.setCell ⟨bb, 0, none⟩ (.slice A' (n2 - N) c')).cell? ⟨bb, 0, none⟩ with | some (.slice _ n _) => n | _ => 0) < (match wr.cell? ⟨bb, 0, none⟩ with | some (.slice _ n _) => n | _ => 0) := fun A' c' => by
        have e1 := (HK3.out.set_ 0 (.slice A' (n2 - N) c')).cell 0
        have e2 := HB.out.1.cell 0
        simp at e1 e2
        rw [e1, e2]
        have := HE.out
        show n2 - N < n
        omega
      by_cases hcn : cap2 = N
      · go_wp2
        have h := fin (some ⟨g, o + 2, none⟩) (fun hne => by have := HE.out; omega) ⟨_, rfl⟩
        rw [show cap2 - N = 0 by omega] at h
        exact ⟨h, meas _ _⟩
      · go_wp2
        exact ⟨fin _ (fun _ => rfl) ⟨_, rfl⟩, meas _ _⟩
end Go.Proofs.Ytnnhklembdaieaa
namespace Go.Proofs.Ytnnhklembdaieaa
open Go.RowKit
set_option linter.unusedSimpArgs false
set_option linter.unusedVariables false
attribute [local go_sem] Oper.semAt_some

/-- what a caller's words abide: new blocks; a turn of the captured block, and of what is no cells. -/
def Abide (B bb : Nat) (I : List (List UInt8) → World → Prop) : Prop :=
  ∀ s W W' k, I s W → W.grownBy W' (some k) → (k = bb ∨ (B ≤ k ∧ ∃ o : Obj, W.heap[k]? = some o ∧ o.isCells = false)) → I s W'
def outPost (bb tb : Nat) (I : List (List UInt8) → World → Prop) (xs : List (List UInt8)) (W : World) : Exit → Act → World → Prop
  | .normal, _, W' => KeepsOthers W W' ∧ I xs W' ∧ W'.heap[bb]? = W.heap[bb]? ∧ W'.heap[tb]? = W.heap[tb]?
  | _, _, _ => False

theorem wpIn_records {g : Operand} {ps : Array Tmp} {assign body : Code} {Q : Exit → Act → World → Prop} {a : Act} {w : World} {bb tb : Nat} (hg : a.eval g = .func (.func 115) #[] #[.pointer (some ⟨bb, 0, none⟩)]) (hps : ps.size = 2)
    (A : Option Addr) (n cap : Nat) (b : List UInt8) (hbb : Blk w bb 28 #[.slice A n cap]) (hb : SlAt w A n (bvs b)) (hcap : n ≤ cap) (hcm : cap ≤ 9223372036854775807) (htb : ∀ a, A = some a → 0 < n → a.block = tb) (htl : tb < w.heap.size) (htn : tb ≠ bb) (hgood : (recsOf b).2 = true)
    (I : List (List UInt8) → World → Prop) (hI : Abide w.heap.size bb I) (h0 : I [] w) (a₁ : Value → Act)
    (hassign : ∀ (l : Nat) (v : Value) (W : World) (K : Act → World → Prop), K (a₁ v) W →
      assign.wpIn (Fence.wide.inRound l) 2 Try.prog (Exit.then K (fun _ _ _ => False)) { tmps := (ps.zip #[v, .bool true]).foldl (fun t (p, v) => t.setIfInBounds p v) a.tmps, defers := [] } W)
    (hbody : ∀ (l : Nat) (pre : List (List UInt8)) (r : List UInt8) (v : Value) (W : World), I pre W → pre.length < (recsOf b).1.length → W.ownsRow w.heap.size 5 1 v r.length (bvs r) → isRec r.length = true → body.wpIn (Fence.wide.inRound l) 2 Try.prog (outPost bb tb I (pre ++ [r]) W) (a₁ v) W)
    (hdone : ∀ (D : Nat) (W : World), w.heap.size ≤ D → I (recsOf b).1 W → W.heap[D]? = some (.deferred (some [])) → Q .normal { a with defers := { target := .collected D, args := #[] } :: a.defers } W) :
    (Code.rangeFunc g ps assign body).wpIn Fence.wide 3 Try.prog Q a w := by
  refine wpIn_rangeFunc ?_
  intro fn hfn
  obtain ⟨rec, hrec⟩ : ∃ rec : LoopState → Option Code → Loop, rec = fun st pe => { state := st, pending := pe, fn, tmps := a.tmps, params := ps, assign, body, defers := w.heap.size } := ⟨_, rfl⟩
  obtain ⟨W1, hW1⟩ : ∃ W1, (w.alloc (.deferred (some []))).alloc (.loop (rec .ready none)) = W1 := ⟨_, rfl⟩
  have hL1 : W1.heap[w.heap.size + 1]? = some (.loop (rec .ready none)) := by
    rw [← hW1]; have := World.alloc_heap_new (w.alloc (.deferred (some []))) (.loop (rec .ready none)); rwa [World.size_alloc] at this
  have hK1 : W1.heap[w.heap.size]? = some (.deferred (some [])) := by
    rw [← hW1]; exact (Below.heap_alloc _ _ _ (by simp)).trans (World.alloc_heap_new w _)
  have hI1 : I [] W1 := by
    rw [← hW1]
    exact hI _ _ _ bb (hI _ _ _ bb h0 (World.grownBy_alloc _ _ _) (.inl rfl)) (World.grownBy_alloc _ _ _) (.inl rfl)
  have hb1 : Below w.heap.size w W1 := by
    rw [← hW1]; exact ((Below.refl _ w).alloc (Nat.le_refl _) _).alloc (by simp) _
  have hbl := hbb.lt
  have hIp : ∀ {s : List (List UInt8)} {W : World} {o : Obj} (o' : Obj), I s W → W.heap[w.heap.size + 1]? = some o → o.isCells = false → I s (W.putObj (w.heap.size + 1) o') := fun o' hs hl ho =>
    hI _ _ _ (w.heap.size + 1) hs (grownBy_putObj' _ _ _) (.inr ⟨by omega, _, hl, ho⟩)
  refine ⟨w.heap.size + 1, [{ target := .collected w.heap.size, args := #[] }], W1, { target := .fn (.func 115) #[.pointer (some ⟨bb, 0, none⟩)], args := #[.func (.yield (w.heap.size + 1)) #[] #[]] }, W1, 115,
    #[.func (.yield (w.heap.size + 1)) #[] #[], .pointer (some ⟨bb, 0, none⟩)], W1, ?_, ?_, ?_, ?_, fun h => (by cases h), ?_⟩
  · rw [← hW1, hrec]; exact run_enterLoop_outer _ _ _ _ _
  · simp only [resolve, hg]
    simp [go_sem]
  · intro f' hf'; trivial
  · simp [invoke, go_sem, Try.func115]
  · refine ((callsIn_wide (n := 2)).2 (recs_ok (w.heap.size + 1) bb tb w.heap.size b
      (fun pre W => I pre W ∧ W.heap[w.heap.size + 1]? = some (.loop (rec .ready none)) ∧ W.heap[w.heap.size]? = some (.deferred (some [])))
      (fun s W W' ⟨h1, h2, h3⟩ hgr => ⟨hI _ _ _ bb h1 hgr (.inl rfl), (hgr.block _ (Array.getElem?_eq_some_iff.1 h2).1 (by intro e; injection e; omega)).trans h2, (hgr.block _ (Array.getElem?_eq_some_iff.1 h3).1 (by intro e; injection e; omega)).trans h3⟩)
      (fun s W ⟨_, _, h3⟩ => Nat.le_of_lt (Array.getElem?_eq_some_iff.1 h3).1)
      ?_ A n cap W1 ⟨hI1, hL1, hK1⟩ (hbb.below hb1 hbl) (hb.below hb1 (Nat.le_refl _)) hcap hcm htb htn hgood)).mono ?_
    · rintro pre r v W ⟨hi, hl, hk⟩ hpl hown hrr
      have hlt : w.heap.size + 1 < W.heap.size := (Array.getElem?_eq_some_iff.1 hl).1
      have hy := run_yield (P := Try.prog) (args := #[v, .bool true]) hl (by rw [hrec]; simp [hps])
      rw [hrec] at hy
      refine ⟨fn, _, assign, body, hy, roundIn_of_wpIn hfn (hassign _ v W _ ⟨_, run_beginRound hl (by rw [hrec]), ?_⟩)⟩
      obtain ⟨W2, hW2⟩ : ∃ W2, W2 = W.putObj (w.heap.size + 1) (.loop { rec .ready none with state := .busy }) := ⟨_, rfl⟩
      have hl2 : W2.heap[w.heap.size + 1]? = some (.loop { rec .ready none with state := .busy }) := by rw [hW2]; exact World.putObj_heap_same hlt
      have hk2 : W2.heap[w.heap.size]? = some (.deferred (some [])) := by rw [hW2]; exact (World.putObj_heap_other (by omega)).trans hk
      have hi2 : I pre W2 := by rw [hW2]; exact hIp _ hi hl rfl
      have hgr2 : W.grownBy W2 (some (w.heap.size + 1)) := by rw [hW2]; exact grownBy_putObj' _ _ _
      have hown2 : W2.ownsRow w.heap.size 5 1 v r.length (bvs r) := by
        refine Fr.own (S := fun k => k = w.heap.size + 1) hown ((Fr.refl _ W).grown hgr2 (fun k hk => .inl (by cases hk; rfl))) (fun k hk e => ?_)
        subst e
        obtain ⟨cs, hcs⟩ := own_blk hown hk
        unfold Blk at hcs
        rw [hl] at hcs; cases hcs
      have hbb2 : W2.heap[bb]? = W.heap[bb]? := by rw [hW2]; exact World.putObj_heap_other (by omega)
      have htb2 : W2.heap[tb]? = W.heap[tb]? := by rw [hW2]; exact World.putObj_heap_other (by omega)
      rw [show W.putObj (w.heap.size + 1) (.loop { rec .ready none with state := .busy }) = W2 from hW2.symm]
      refine wpIn_mono (hbody _ pre r v W2 hi2 hpl hown2 hrr) ?_
      rintro e a3 W3 hp
      cases e with
      | normal =>
        obtain ⟨hk3, hi3, hbb3, htb3⟩ := hp
        have hl3 := hk3.same _ _ hl2 rfl
        have hr := run_endRound (P := Try.prog) none hl3
        rw [hrec] at hr hl3 ⊢
        refine ⟨_, _, hr, rfl, ⟨hIp _ hi3 hl3 rfl, ?_, ?_⟩, ?_, ?_⟩
        · exact World.putObj_heap_same (Array.getElem?_eq_some_iff.1 hl3).1
        · exact (World.putObj_heap_other (by omega)).trans (hk3.same _ _ hk2 rfl)
        · exact (World.putObj_heap_other (by omega)).trans (hbb3.trans hbb2)
        · exact (World.putObj_heap_other (by omega)).trans (htb3.trans htb2)
      | ret => exact hp.elim
      | exit id => exact hp.elim
      | goto t => exact hp.elim
      | panic ch => exact hp.elim
      | outgrown => exact hp.elim
    · rintro e W2 ⟨rfl, hi, hl, hk⟩
      refine ⟨none, _, by have := run_endLoop (P := Try.prog) hl (by rw [hrec]; simp); rw [hrec] at this; exact this, hdone _ _ (Nat.le_refl _) (hIp _ hi hl rfl) ((World.putObj_heap_other (by omega)).trans hk)⟩
end Go.Proofs.Ytnnhklembdaieaa
