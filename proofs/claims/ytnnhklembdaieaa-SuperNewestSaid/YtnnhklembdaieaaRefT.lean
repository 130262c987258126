/- The document's super: Read. -/
import Derived.Test.YtnnhklembdaieaaRefS
namespace Go.Proofs.Ytnnhklembdaieaa
open Go.RowKit
set_option linter.unusedSimpArgs false
set_option linter.unusedVariables false

/-- what the document's Read answers. -/
def refRes (xs : List UInt8) : Value := match readS xs with | some s => .tuple #[superV s, .bool true] | none => .tuple #[superV SU.zero, .bool false]
theorem refRes_some {xs : List UInt8} {s : SU} (h : readS xs = some s) : refRes xs = .tuple #[superV s, .bool true] := by unfold refRes; rw [h]
theorem refRes_none {xs : List UInt8} (h : readS xs = none) : refRes xs = .tuple #[superV SU.zero, .bool false] := by unfold refRes; rw [h]

theorem bs_at (xs : List UInt8) (i : Nat) (hi : i < (bs xs).size) : (bs xs)[i] = xs.getD i 0 := by
  have h2 : i < xs.length := by rwa [bs_size] at hi
  rw [List.getD_eq_getElem?_getD, List.getElem?_eq_getElem h2]
  rfl
theorem unbe_step (l : List UInt8) (o k : Nat) (h : o + k < l.length) : unbe ((l.drop o).take (k + 1)) = unbe ((l.drop o).take k) * 256 + (l.getD (o + k) 0).toNat := by
  have h2 : k < (l.drop o).length := by rw [List.length_drop]; omega
  rw [List.take_succ_eq_append_getElem h2, unbe_snoc, List.getElem_drop, List.getD_eq_getElem?_getD, List.getElem?_eq_getElem h]
  rfl

theorem rread_form (xs : List UInt8) (hl : xs.length ≠ 128) (hm : xs.length ≤ 9223372036854775807) (w : World) : Calls Try.prog 75 #[.string (bs xs)] w fun e w' => e = .returned (refRes xs) ∧ Below w.heap.size w w' := by
  have hres : refRes xs = .tuple #[superV SU.zero, .bool false] := refRes_none (by unfold readS; rw [if_neg (fun h => hl h.1)])
  have hsz := bs_size xs
  rw [hres]
  obtain ⟨Z, hZ⟩ : ∃ Z, Z = bs xs := ⟨_, rfl⟩
  rw [← hZ] at hsz ⊢
  have h0 : ((Z.size : Int) != 128) = true := by rw [hsz, bne_iff_ne]; omega
  clear hZ hres hl hsz
  go_enter Try.func75, Try.ntmps75
  go_wp2
  exact bodyPost_ret (v := .tuple #[superV SU.zero, .bool false]) (by simp [results, Try.results75, go_sem, superV, SU.zero]) rfl ⟨rfl, (Below.refl _ _).alloc (Nat.le_refl _) _⟩

set_option maxRecDepth 100000 in
set_option maxHeartbeats 3200000 in
theorem rread_core (xs : List UInt8) (hxs : xs.length = 128) (w : World) : Calls Try.prog 75 #[.string (bs xs)] w fun e w' => e = .returned (refRes xs) ∧ Below w.heap.size w w' := by
  have hsz : (bs xs).size = 128 := by rw [bs_size, hxs]
  have hat : ∀ i (hi : i < (bs xs).size), (bs xs)[i] = xs.getD i 0 := fun i hi => bs_at xs i hi
  have hl : (bs xs).toList = xs := bs_toList xs
  obtain ⟨Z, hZ⟩ : ∃ Z, Z = bs xs := ⟨_, rfl⟩
  rw [← hZ] at hsz hat hl ⊢
  clear hZ
  have hz0 : ((Z.size : Int) != 128) = false := by rw [hsz]; rfl
  have hz12 : 12 < Z.size := by omega
  obtain ⟨y, hy⟩ : ∃ y, y = xs.getD 12 0 := ⟨_, rfl⟩
  have hx12 : Z[12]'hz12 = y := by rw [hat, hy]
  have HAT := hide hat
  have HL := hide hl
  have HY := hide hy
  have HXS := hide hxs
  have HSZ := hide hsz
  have hy8 : (y.toNat : Int) < 256 := by have := y.toNat_lt; omega
  have hy0 : (0 : Int) ≤ (y.toNat : Int) := by omega
  clear hat hl hy hxs hsz
  go_enter Try.func75, Try.ntmps75
  go_upto_region 4 with fail
  have k2 : Blk ((w.alloc (.cells #[.int .u64 0, .int .i64 0, .int .i64 0] 105)).alloc (.cells #[.int .u64 0, .int .i64 (y.toNat : Int), .int .i64 0] 105)) w.heap.size 105 #[.int .u64 0, .int .i64 0, .int .i64 0] := (Blk.new w 105 _).alloc _
  have k4 : Blk ((w.alloc (.cells #[.int .u64 0, .int .i64 0, .int .i64 0] 105)).alloc (.cells #[.int .u64 0, .int .i64 (y.toNat : Int), .int .i64 0] 105)) (w.heap.size + 1) 105 #[.int .u64 0, .int .i64 (y.toNat : Int), .int .i64 0] := by simpa using Blk.new (w.alloc (.cells #[.int .u64 0, .int .i64 0, .int .i64 0] 105)) 105 #[.int .u64 0, .int .i64 (y.toNat : Int), .int .i64 0]
  have b0 : Below w.heap.size w ((w.alloc (.cells #[.int .u64 0, .int .i64 0, .int .i64 0] 105)).alloc (.cells #[.int .u64 0, .int .i64 (y.toNat : Int), .int .i64 0] 105)) := ((Below.refl _ _).alloc (Nat.le_refl _) _).alloc (by simp) _
  obtain ⟨w0, hw0⟩ : ∃ w0, w0 = (w.alloc (.cells #[.int .u64 0, .int .i64 0, .int .i64 0] 105)).alloc (.cells #[.int .u64 0, .int .i64 (y.toNat : Int), .int .i64 0] 105) := ⟨_, rfl⟩
  obtain ⟨g4, hg4⟩ : ∃ g4, g4 = w.heap.size + 1 := ⟨_, rfl⟩
  rw [← hw0, ← hg4] at k4
  rw [← hw0] at k2 b0
  rw [← hw0, ← hg4]
  have hg4w : w.heap.size < g4 := by omega
  clear hw0 hg4 hx12 hz12 hz0
  go_wp2_with fail
  go_loopw [5] (fun v wr => ∃ q : Nat, 4 ≤ q ∧ q ≤ 12 ∧ v = .int .i64 (q : Int) ∧ Blk wr g4 105 #[.int .u64 ((unbe ((xs.drop 4).take (q - 4)) : Nat) : Int), .int .i64 (y.toNat : Int), .int .i64 0] ∧ Blk wr w.heap.size 105 #[.int .u64 0, .int .i64 0, .int .i64 0] ∧ Below w.heap.size w wr) (fun v _ => 12 - (intOf v).toNat)
  case atStart => exact ⟨4, by omega, by omega, rfl, k4, k2, b0⟩
  case round =>
    clear k4 k2 b0
    obtain ⟨q, hq1, hq2, rfl, k4, k2, bw⟩ := hrel
    by_cases hlt : q < 12
    · have hqz : q < Z.size := by rw [HSZ.out]; omega
      obtain ⟨x, hx⟩ : ∃ x, x = xs.getD q 0 := ⟨_, rfl⟩
      have hzx : Z[q]'hqz = x := by rw [HAT.out, hx]
      obtain ⟨N, hN⟩ : ∃ N, N = unbe ((xs.drop 4).take (q - 4)) := ⟨_, rfl⟩
      have hNl : N < 2 ^ 56 := by
        rw [hN]
        refine Nat.lt_of_lt_of_le (unbe_lt _) (Nat.pow_le_pow_right (by omega) ?_)
        rw [List.length_take]; omega
      have hnx : ((unbe ((xs.drop 4).take (q + 1 - 4)) : Nat) : Int) = 256 * (N : Int) + (x.toNat : Int) := by
        rw [show q + 1 - 4 = (q - 4) + 1 by omega, unbe_step xs 4 (q - 4) (by rw [HXS.out]; omega), show 4 + (q - 4) = q by omega, ← hN, ← hx]; omega
      rw [← hN] at k4
      have hx8 : x.toNat < 256 := x.toNat_lt
      have e1 : IntKind.u64.wrap (256 * (N : Int)) = 256 * (N : Int) := IntWalk.u64_in _ (by omega)
      have e2 : IntKind.u64.wrap (x.toNat : Int) = (x.toNat : Int) := IntWalk.u64_in _ (by omega)
      have e3 : IntKind.u64.wrap (256 * (N : Int) + (x.toNat : Int)) = 256 * (N : Int) + (x.toNat : Int) := IntWalk.u64_in _ (by omega)
      have p0 : (0 : Int) ≤ (q : Int) := by omega
      have p1 : (q : Int) < (Z.size : Int) := by omega
      have HNX := hide hnx
      have c0 : wr.cell? ⟨g4, 0, none⟩ = some (.int .u64 (N : Int)) := (k4.cell 0).trans rfl
      have z0 : wr.drew.frozen? ⟨g4, 0, none⟩ = false := k4.frozen 0
      have k4' : Blk (wr.drew.setCell ⟨g4, 0, none⟩ (.int .u64 (256 * (N : Int) + (x.toNat : Int)))) g4 105 #[.int .u64 (256 * (N : Int) + (x.toNat : Int)), .int .i64 (y.toNat : Int), .int .i64 0] := by simpa using k4.drew.set_ 0 (.int .u64 (256 * (N : Int) + (x.toNat : Int)))
      have HK := hide (And.intro k4' (And.intro k2 bw))
      clear hx hN hNl hnx k4 k2 bw k4' hx8
      go_upto_region 7 with fail
      obtain ⟨w8, hw8⟩ : ∃ w8, w8 = wr := ⟨_, rfl⟩
      rw [← hw8] at c0 z0 HK ⊢
      clear hw8
      refine wp_region_held 9 (fun w' => w'.cell? ⟨g4, 0, none⟩ = some (.int .u64 (N : Int))) (fun _ => false) (by kernel_rfl) (by kernel_rfl) c0 (fun ops hops F hF => ?_)
      clear hops
      simp only [List.take_succ_cons, List.take_zero, List.drop_succ_cons, List.drop_zero] at hF ⊢
      iterate 9 (refine held_q rfl rfl ?_; apply Exists.intro; refine ⟨fun w' hw' => ?_, ?_⟩; (go_simp; rfl); simp only [Act.put, List.setIfInBounds_toArray, List.set_cons_zero, List.set_cons_succ, Nat.reduceAdd])
      refine held_nil (hF _ _ ?_)
      clear hF F
      have d0 : w8.drew.cell? ⟨g4, 0, none⟩ = some (.int .u64 (N : Int)) := c0
      go_wp2
      go_roundw
      case rel => exact ⟨q + 1, by omega, by omega, by go_num, by rw [HNX.out]; exact HK.out.1, HK.out.2.1.drew.far (p := ⟨g4, 0, none⟩) (Nat.ne_of_lt hg4w) _, (HK.out.2.2.drew).setCell (p := ⟨g4, 0, none⟩) (Nat.le_of_lt hg4w) _⟩
      case measure => simp [intOf]; omega
    · obtain rfl : q = 12 := by omega
      have k4 : Blk wr g4 105 #[.int .u64 ((unbe ((xs.drop 4).take 8) : Nat) : Int), .int .i64 (y.toNat : Int), .int .i64 0] := k4
      have b0 := bw
      obtain ⟨G, hG⟩ : ∃ G, G = unbe ((xs.drop 4).take 8) := ⟨_, rfl⟩
      rw [← hG] at k4
      have HG := hide hG
      clear hG bw
      obtain ⟨wo, hwo⟩ : ∃ wo : World, wo = wr := ⟨_, rfl⟩
      rw [← hwo] at k4 k2 b0 ⊢
      clear hwo
      go_wp2_with fail
      go_loopw [6] (fun v wr => ∃ q : Nat, 13 ≤ q ∧ q ≤ 17 ∧ v = .int .i64 (q : Int) ∧ Blk wr g4 105 #[.int .u64 (G : Int), .int .i64 (y.toNat : Int), .int .i64 ((unbe ((xs.drop 13).take (q - 13)) : Nat) : Int)] ∧ Blk wr w.heap.size 105 #[.int .u64 0, .int .i64 0, .int .i64 0] ∧ Below w.heap.size w wr) (fun v _ => 17 - (intOf v).toNat)
      case atStart => exact ⟨13, by omega, by omega, rfl, k4, k2, b0⟩
      case round =>
        clear k4 k2 b0
        obtain ⟨q, hq1, hq2, rfl, k4, k2, bw⟩ := hrel
        by_cases hlt : q < 17
        · have hqz : q < Z.size := by rw [HSZ.out]; omega
          obtain ⟨x, hx⟩ : ∃ x, x = xs.getD q 0 := ⟨_, rfl⟩
          have hzx : Z[q]'hqz = x := by rw [HAT.out, hx]
          obtain ⟨N, hN⟩ : ∃ N, N = unbe ((xs.drop 13).take (q - 13)) := ⟨_, rfl⟩
          have hNl : N < 2 ^ 24 := by
            rw [hN]
            refine Nat.lt_of_lt_of_le (unbe_lt _) (Nat.pow_le_pow_right (by omega) ?_)
            rw [List.length_take]; omega
          have hnx : ((unbe ((xs.drop 13).take (q + 1 - 13)) : Nat) : Int) = 256 * (N : Int) + (x.toNat : Int) := by
            rw [show q + 1 - 13 = (q - 13) + 1 by omega, unbe_step xs 13 (q - 13) (by rw [HXS.out]; omega), show 13 + (q - 13) = q by omega, ← hN, ← hx]; omega
          rw [← hN] at k4
          have hx8 : x.toNat < 256 := x.toNat_lt
          have e1 : IntKind.i64.wrap (256 * (N : Int)) = 256 * (N : Int) := IntWalk.i64_in _ (by omega)
          have e2 : IntKind.i64.wrap (x.toNat : Int) = (x.toNat : Int) := IntWalk.i64_in _ (by omega)
          have e3 : IntKind.i64.wrap (256 * (N : Int) + (x.toNat : Int)) = 256 * (N : Int) + (x.toNat : Int) := IntWalk.i64_in _ (by omega)
          have p0 : (0 : Int) ≤ (q : Int) := by omega
          have p1 : (q : Int) < (Z.size : Int) := by omega
          have HNX := hide hnx
          have c0 : wr.cell? ⟨g4, 2, none⟩ = some (.int .i64 (N : Int)) := (k4.cell 2).trans rfl
          have z0 : wr.drew.frozen? ⟨g4, 2, none⟩ = false := k4.frozen 2
          have k4' : Blk (wr.drew.setCell ⟨g4, 2, none⟩ (.int .i64 (256 * (N : Int) + (x.toNat : Int)))) g4 105 #[.int .u64 (G : Int), .int .i64 (y.toNat : Int), .int .i64 (256 * (N : Int) + (x.toNat : Int))] := by simpa using k4.drew.set_ 2 (.int .i64 (256 * (N : Int) + (x.toNat : Int)))
          have HK := hide (And.intro k4' (And.intro k2 bw))
          clear hx hN hNl hnx k4 k2 bw k4' hx8
          go_upto_region 11 with fail
          obtain ⟨w8, hw8⟩ : ∃ w8, w8 = wr := ⟨_, rfl⟩
          rw [← hw8] at c0 z0 HK ⊢
          clear hw8
          refine wp_region_held 9 (fun w' => w'.cell? ⟨g4, 2, none⟩ = some (.int .i64 (N : Int))) (fun _ => false) (by kernel_rfl) (by kernel_rfl) c0 (fun ops hops F hF => ?_)
          clear hops
          simp only [List.take_succ_cons, List.take_zero, List.drop_succ_cons, List.drop_zero] at hF ⊢
          iterate 9 (refine held_q rfl rfl ?_; apply Exists.intro; refine ⟨fun w' hw' => ?_, ?_⟩; (go_simp; rfl); simp only [Act.put, List.setIfInBounds_toArray, List.set_cons_zero, List.set_cons_succ, Nat.reduceAdd])
          refine held_nil (hF _ _ ?_)
          clear hF F
          have d0 : w8.drew.cell? ⟨g4, 2, none⟩ = some (.int .i64 (N : Int)) := c0
          go_wp2
          go_roundw
          case rel => exact ⟨q + 1, by omega, by omega, by go_num, by rw [HNX.out]; exact HK.out.1, HK.out.2.1.drew.far (p := ⟨g4, 2, none⟩) (Nat.ne_of_lt hg4w) _, (HK.out.2.2.drew).setCell (p := ⟨g4, 2, none⟩) (Nat.le_of_lt hg4w) _⟩
          case measure => simp [intOf]; omega
        · obtain rfl : q = 17 := by omega
          have k4 : Blk wr g4 105 #[.int .u64 (G : Int), .int .i64 (y.toNat : Int), .int .i64 ((unbe ((xs.drop 13).take 4) : Nat) : Int)] := k4
          obtain ⟨M, hM⟩ : ∃ M, M = unbe ((xs.drop 13).take 4) := ⟨_, rfl⟩
          rw [← hM] at k4
          have hsu : unsuper xs = ⟨G, (y.toNat : Int), (M : Int)⟩ := by
            unfold unsuper
            rw [← HG.out, ← hM, HY.out]
            congr 2
            rw [List.drop_eq_getElem_cons (by rw [HXS.out]; omega), List.headD_cons, List.getD_eq_getElem?_getD, List.getElem?_eq_getElem (by rw [HXS.out]; omega)]
            rfl
          have hsv : superV (unsuper xs) = .agg #[.int .u64 (G : Int), .int .i64 (y.toNat : Int), .int .i64 (M : Int)] := by rw [hsu]; rfl
          have hR := fun w => rRight_ok (unsuper xs) w
          rw [hsv] at hR
          have HSV := hide hsv
          clear hM hsu hsv
          have c0 := k4.cell 0
          have c1 := k4.cell 1
          have c2 := k4.cell 2
          simp at c0 c1 c2
          by_cases hr : (unsuper xs).right = true
          · have hW := fun w => rwriteE (unsuper xs) hr w
            rw [HSV.out] at hW
            rw [hr] at hR
            unfold strv at hW
            go_wp2_with fail
            refine (hR _).mono ?_
            rintro e w10 ⟨rfl, b10⟩
            have k10 := k4.below b10 k4.lt
            have k12 := k2.below b10 k2.lt
            have bw10 := bw.trans (b10.mono bw.size)
            clear c0 c1 c2
            have c0 := k10.cell 0
            have c1 := k10.cell 1
            have c2 := k10.cell 2
            simp at c0 c1 c2
            go_wp2_with fail
            refine (hW _).mono ?_
            rintro e w11 ⟨rfl, b11⟩
            have k11 := k10.below b11 k10.lt
            have k13 := k12.below b11 k12.lt
            have bx3 := bw10.trans (b11.mono bw10.size)
            clear c0 c1 c2 hR hW k10 k12 bw10 b10 b11 k4 k2 bw
            have c0 := k11.cell 0
            have c1 := k11.cell 1
            have c2 := k11.cell 2
            have d0 := k13.cell 0
            have d1 := k13.cell 1
            have d2 := k13.cell 2
            have z0 := k13.frozen 0
            have z1 := k13.frozen 1
            have z2 := k13.frozen 2
            simp at c0 c1 c2 d0 d1 d2
            by_cases hq : superBytes (unsuper xs) = xs
            · have hcmp : ((bs (superBytes (unsuper xs))).toList == Z.toList) = true := by rw [bs_toList, HL.out, hq]; simp
              have HRES := hide (show refRes xs = .tuple #[.agg #[.int .u64 (G : Int), .int .i64 (y.toNat : Int), .int .i64 (M : Int)], .bool true] by rw [refRes_some (s := unsuper xs) (by unfold readS; rw [if_pos ⟨HXS.out, hr, hq⟩]), HSV.out])
              clear hq hr
              go_wp2
              refine bodyPost_ret (v := .tuple #[.agg #[.int .u64 (G : Int), .int .i64 (y.toNat : Int), .int .i64 (M : Int)], .bool true]) (by simp [results, Try.results75, go_sem, d0, d1, d2]) rfl ⟨by rw [HRES.out], ?_⟩
              exact ((bx3.setCell (p := ⟨w.heap.size, 0, none⟩) (Nat.le_refl _) _).setCell (p := ⟨w.heap.size, 1, none⟩) (Nat.le_refl _) _).setCell (p := ⟨w.heap.size, 2, none⟩) (Nat.le_refl _) _
            · have hcmp : ((bs (superBytes (unsuper xs))).toList == Z.toList) = false := by rw [bs_toList, HL.out]; simp [hq]
              have HRES := hide (show refRes xs = .tuple #[superV SU.zero, .bool false] from refRes_none (by unfold readS; rw [if_neg (fun h => hq h.2.2)]))
              clear hq hr
              go_wp2
              refine bodyPost_ret (v := .tuple #[superV SU.zero, .bool false]) (by simp [results, Try.results75, go_sem, superV, SU.zero, d0, d1, d2]) rfl ⟨by rw [HRES.out], ?_⟩
              exact ((bx3.setCell (p := ⟨w.heap.size, 0, none⟩) (Nat.le_refl _) _).setCell (p := ⟨w.heap.size, 1, none⟩) (Nat.le_refl _) _).setCell (p := ⟨w.heap.size, 2, none⟩) (Nat.le_refl _) _
          · have HRES := hide (show refRes xs = .tuple #[superV SU.zero, .bool false] from refRes_none (by unfold readS; rw [if_neg (fun h => hr h.2.1)]))
            rw [show (unsuper xs).right = false by simpa using hr] at hR
            clear hr
            go_wp2_with fail
            refine (hR _).mono ?_
            rintro e w10 ⟨rfl, b10⟩
            have k13 := k2.below b10 k2.lt
            have bx3 := bw.trans (b10.mono bw.size)
            have d0 := k13.cell 0
            have d1 := k13.cell 1
            have d2 := k13.cell 2
            have z0 := k13.frozen 0
            have z1 := k13.frozen 1
            have z2 := k13.frozen 2
            simp at d0 d1 d2
            clear c0 c1 c2 hR k4 k2 bw
            go_wp2
            refine bodyPost_ret (v := .tuple #[superV SU.zero, .bool false]) (by simp [results, Try.results75, go_sem, superV, SU.zero, d0, d1, d2]) rfl ⟨by rw [HRES.out], ?_⟩
            exact ((bx3.setCell (p := ⟨w.heap.size, 0, none⟩) (Nat.le_refl _) _).setCell (p := ⟨w.heap.size, 1, none⟩) (Nat.le_refl _) _).setCell (p := ⟨w.heap.size, 2, none⟩) (Nat.le_refl _) _
theorem rreadE (xs : List UInt8) (hm : xs.length ≤ 9223372036854775807) (w : World) : Calls Try.prog 75 #[.string (bs xs)] w fun e w' => e = .returned (refRes xs) ∧ Below w.heap.size w w' := by
  by_cases h : xs.length = 128
  · exact rread_core xs h w
  · exact rread_form xs h hm w
end Go.Proofs.Ytnnhklembdaieaa
