/- SumsCounted: the walk. -/
import Derived.Test.YtnnhklembdaieaaTogW
namespace Go.Proofs.Ytnnhklembdaieaa
open Go.RowKit
set_option linter.unusedSimpArgs false
set_option linter.unusedVariables false

/-- a text that comes in among others. -/
structure RowM where
  A : Option Addr
  c : Nat
  l : List UInt8
def TextsAt (w : World) (A : Option Addr) (rows : List RowM) : Prop := rows.length ≤ 9223372036854775807 ∧ (0 < rows.length → ∃ g o, A = some ⟨g, o, none⟩ ∧ g < w.heap.size ∧ ∀ (k : Nat) (hk : k < rows.length),
  w.cell? ⟨g, o + k, none⟩ = some (.slice rows[k].A rows[k].l.length rows[k].c) ∧ SlAt w rows[k].A rows[k].l.length (bvs rows[k].l) ∧ rows[k].l.length ≤ 9223372036854775807)

set_option maxRecDepth 100000 in
set_option maxHeartbeats 3200000 in
theorem count_any (w : World) (A : Option Addr) (m c : Nat) (rows : List RowM) (hm : rows.length = m) (hr : TextsAt w A rows) :
    Calls Try.prog 11 #[.slice A m c] w fun e w' => e = .returned (.bool true) ∧ Below w.heap.size w w' := by
  have hlen := hr.1
  have HM := hide hm
  rw [hm] at hlen
  clear hm
  have k1 := ct_new w
  have k2 := ct_new (w.alloc (.cells Try.zeroCells78 78))
  have hsz : (w.alloc (.cells Try.zeroCells78 78)).heap.size = w.heap.size + 1 := by simp
  rw [hsz] at k2
  have k1b : CtAt ((w.alloc (.cells Try.zeroCells78 78)).alloc (.cells Try.zeroCells78 78)) w.heap.size false 0 := Blk.alloc k1 _
  have b1 : Below w.heap.size w ((w.alloc (.cells Try.zeroCells78 78)).alloc (.cells Try.zeroCells78 78)) := ((Below.refl _ w).alloc (Nat.le_refl _) _).alloc (by simp) _
  go_enter Try.func11, Try.ntmps11
  go_upto_region 2 with fail
  obtain ⟨w1, hw1⟩ : ∃ w1, w1 = (w.alloc (.cells Try.zeroCells78 78)).alloc (.cells Try.zeroCells78 78) := ⟨_, rfl⟩
  obtain ⟨b, hb⟩ : ∃ b, b = w.heap.size := ⟨_, rfl⟩
  obtain ⟨b2, hb2⟩ : ∃ b2, b2 = w.heap.size + 1 := ⟨_, rfl⟩
  rw [← hw1] at k1b k2 b1 ⊢
  rw [← hb2] at k2 ⊢
  rw [← hb] at k1b ⊢
  have HB := hide (And.intro hb hb2)
  have K := hide (And.intro k1b (And.intro k2 b1))
  clear hw1 hb hb2 k1 k1b k2 b1 hsz
  go_wp2_with fail
  go_loopw [5] (fun i wr => ∃ (k : Nat) (dn : Bool), k ≤ m ∧ k ≤ 50 ∧ i = .int .i64 k ∧ CtAt wr b dn k ∧ CtAt wr b2 false 0 ∧ Below w.heap.size w wr) (fun i _ => 50 - (intOf i).toNat)
  case atStart => exact ⟨0, false, by omega, by omega, rfl, K.out.1, K.out.2.1, K.out.2.2⟩
  case round =>
    clear K
    obtain ⟨k, dn, hkm, hk50, rfl, hc1, hc2, hbl⟩ := hrel
    have K := hide (And.intro hc1 (And.intro hc2 hbl))
    clear hc1 hc2
    by_cases hlt : k < m ∧ k < 50
    · obtain ⟨hlt1, hlt2⟩ := hlt
      obtain ⟨g, o, rfl, hg, hrows⟩ := hr.2 (by rw [HM.out]; omega)
      have hkl : k < rows.length := by rw [HM.out]; exact hlt1
      obtain ⟨q, hq⟩ : ∃ q, q = rows[k] := ⟨_, rfl⟩
      obtain ⟨e1, e2, e3⟩ := hrows k hkl
      rw [← hq] at e1 e2 e3
      have CC := hide (fun (w' : World) (h' : Below w.heap.size w w') => (h'.cell (p := ⟨g, o + k, none⟩) hg).trans e1)
      have E2 := hide e2
      have hq1 : wr.cell? ⟨g, o + k, none⟩ = some (.slice q.A q.l.length q.c) := CC.out _ hbl
      have hk0 : (0 : Int) ≤ (k : Int) := by omega
      have hk1 : (k : Int) < (m : Int) := by omega
      clear hq hrows e1 e2
      by_cases h500 : 500 < q.l.length
      · have hd : decide ((q.l.length : Int) > 500) = true := by simp; omega
        go_wp2_with fail
        refine (alive01 _).mono ?_
        rintro e w2 ⟨rfl, b2'⟩
        go_wp2
        go_ret
        exact ⟨rfl, hbl.trans (b2'.mono hbl.size)⟩
      · have hd : decide ((q.l.length : Int) > 500) = false := by simp; omega
        have n1 : ((longN q.l : Int) != (longN q.l : Int)) = false := by simp
        have n2 : (((k : Int) + 1) != ((k : Int) + 1)) = false := by simp
        have hwr : IntKind.i64.wrap ((k : Int) + 1) = (k : Int) + 1 := by rw [IntKind.wrap_i64]; omega
        have hqA : ∀ a, q.A = some a → 0 < q.l.length → a.block ≠ b := fun a ha hn e => by have := E2.out.lt a ha hn; have := HB.out.1; omega
        have hbd : Below w.heap.size w wr.drew := hbl.drew
        have hS : wr.drew.cell? ⟨g, o + k, none⟩ = some (.slice q.A q.l.length q.c) := CC.out _ hbd
        go_wp2_with fail
        refine wp_region_held 24 (fun w' => w'.cell? ⟨g, o + k, none⟩ = some (.slice q.A q.l.length q.c)) (fun i => i == 5 || i == 10 || i == 14 || i == 21) (by kernel_rfl) (by kernel_rfl) hS (fun ops hops F hF => ?_)
        subst hops
        simp only [List.take_succ_cons, List.take_zero, List.drop_succ_cons, List.drop_zero] at hF ⊢
        iterate 5 (refine held_q rfl rfl ?_; apply Exists.intro; refine ⟨fun w' hw' => ?_, ?_⟩; (go_simp; rfl); simp only [Act.put, List.setIfInBounds_toArray, List.set_cons_zero, List.set_cons_succ, Nat.reduceAdd])
        refine held_loud rfl rfl (fun K1 hK => ?_)
        go_simp
        refine (cLong_ok wr.drew b k dn (Blk.drew K.out.1) (by omega) q.A _ q.c q.l (E2.out.below hbd (Nat.le_refl _)) e3 hqA).mono ?_
        rintro e w2 ⟨rfl, k2, f2⟩
        have bl2 : Below w.heap.size w w2 := hbd.trans (f2.below hbd.size (fun j hj => by have := HB.out.1; omega))
        have kd2 : CtAt w2 b2 false 0 := CtAt.fr (Blk.drew K.out.2.1 : CtAt wr.drew b2 false 0) f2 (by have := HB.out; omega)
        refine hK _ _ (CC.out _ bl2) ?_
        clear hK K1
        simp only [Act.put, List.setIfInBounds_toArray, List.set_cons_zero, List.set_cons_succ, Nat.reduceAdd]
        iterate 4 (refine held_q rfl rfl ?_; apply Exists.intro; refine ⟨fun w' hw' => ?_, ?_⟩; (go_simp; rfl); simp only [Act.put, List.setIfInBounds_toArray, List.set_cons_zero, List.set_cons_succ, Nat.reduceAdd])
        refine held_loud rfl rfl (fun K1 hK => ?_)
        go_simp
        refine (long_ok q.A _ q.c q.l w2 (E2.out.below bl2 (Nat.le_refl _)) e3).mono ?_
        rintro e w3 ⟨rfl, rfl⟩
        refine hK _ _ (CC.out _ bl2) ?_
        clear hK K1
        simp only [Act.put, List.setIfInBounds_toArray, List.set_cons_zero, List.set_cons_succ, Nat.reduceAdd]
        iterate 3 (refine held_q rfl rfl ?_; apply Exists.intro; refine ⟨fun w' hw' => ?_, ?_⟩; (go_simp; rfl); simp only [Act.put, List.setIfInBounds_toArray, List.set_cons_zero, List.set_cons_succ, Nat.reduceAdd])
        refine held_loud rfl rfl (fun K1 hK => ?_)
        go_simp
        refine (asked_ok w2 b (k + 1) true k2).mono ?_
        rintro e w3 ⟨rfl, rfl⟩
        refine hK _ _ (CC.out _ bl2) ?_
        clear hK K1
        simp only [Act.put, List.setIfInBounds_toArray, List.set_cons_zero, List.set_cons_succ, Nat.reduceAdd]
        iterate 6 (refine held_q rfl rfl ?_; apply Exists.intro; refine ⟨fun w' hw' => ?_, ?_⟩; (go_simp; rfl); simp only [Act.put, List.setIfInBounds_toArray, List.set_cons_zero, List.set_cons_succ, Nat.reduceAdd])
        refine held_loud rfl rfl (fun K1 hK => ?_)
        go_simp
        refine (asked_ok w2 b2 0 false kd2).mono ?_
        rintro e w3 ⟨rfl, rfl⟩
        refine hK _ _ (CC.out _ bl2) ?_
        clear hK K1
        simp only [Act.put, List.setIfInBounds_toArray, List.set_cons_zero, List.set_cons_succ, Nat.reduceAdd]
        iterate 2 (refine held_q rfl rfl ?_; apply Exists.intro; refine ⟨fun w' hw' => ?_, ?_⟩; (go_simp; rfl); simp only [Act.put, List.setIfInBounds_toArray, List.set_cons_zero, List.set_cons_succ, Nat.reduceAdd])
        refine held_nil (hF _ _ ?_)
        clear hF F
        go_wp2
        go_roundw
        case rel => exact ⟨k + 1, true, by omega, by omega, by go_num, k2, kd2, bl2⟩
        case measure => simp [intOf] <;> omega
    · rcases (show (¬ k < m) ∨ (k < m ∧ ¬ k < 50) by omega) with hx | hx
      all_goals
        clear hlt
        go_wp2_with fail
        refine (alive01 _).mono ?_
        rintro e w2 ⟨rfl, b2'⟩
        go_wp2
        go_ret
        exact ⟨rfl, hbl.trans (b2'.mono hbl.size)⟩
end Go.Proofs.Ytnnhklembdaieaa
