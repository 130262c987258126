/- The document's super (pigeonloftref12): as, Right, bytes. -/
import Derived.Test.YtnnhklembdaieaaAlive12
import Derived.Test.YtnnhklembdaieaaRefD
import Derived.Lib.ConvBytes
namespace Go.Proofs.Ytnnhklembdaieaa
open Go.RowKit
set_option linter.unusedSimpArgs false
set_option linter.unusedVariables false

theorem bs_append (a b : List UInt8) : bs a ++ bs b = bs (a ++ b) := by
  apply ByteArray.ext
  simp [bs]
/-- a string made a slice of bytes. -/
theorem run_conv_bytes (w : World) (l : List UInt8) (n : Nat) (hl : l.length = n) : ∃ (cap : Nat) (w' : World), (convert 9 28 (.string (bs l))).run Try.prog w = .ok (.slice (some ⟨w.heap.size, 0, none⟩) n cap) w' ∧ SlAt w' (some ⟨w.heap.size, 0, none⟩) n (bvs l) ∧ Below w.heap.size w w' := by
  refine ⟨_, _, by rw [Lib.run_convert_string_bytes (P := Try.prog) w 9 28 5 (bs l) Try.underlying9 Try.underlying28 Try.underlying5, bs_size, hl], ?_, ?_⟩
  · refine ⟨by rw [bvs_length, hl], fun hn => ⟨w.heap.size, 0, rfl, by rw [Lib.bytesWorld_size]; omega, fun j v hv => ?_⟩⟩
    rw [Nat.zero_add]
    have hj : j < l.length := by have := (List.getElem?_eq_some_iff.1 hv).1; rwa [bvs_length] at this
    rw [Lib.bytesWorld_cell w 5 (bs l) j (by rw [bs_size]; exact hj), bs_list]
    rw [bvs, List.getElem?_map, List.getElem?_eq_getElem hj] at hv
    rw [List.getD_eq_getElem?_getD, List.getElem?_eq_getElem hj]
    exact hv
  · exact ⟨rfl, rfl, rfl, by rw [Lib.bytesWorld_size]; omega, fun k hk => Lib.bytesWorld_at_old w 5 (bs l) k hk⟩
theorem as_ok (s : SU) (w : World) : Calls Try.prog 72 #[superV s] w fun e w' => e = .returned (superV s) ∧ Below w.heap.size w w' := by
  obtain ⟨g, a, l⟩ := s
  unfold superV
  simp only
  go_enter Try.func72, Try.ntmps72
  go_wp2
  exact bodyPost_ret (v := .agg #[.int .u64 (g : Int), .int .i64 a, .int .i64 l]) (by simp [results, Try.results72, go_sem]) rfl ⟨rfl, ((Below.refl _ _).alloc (Nat.le_refl _) _).alloc (by simp) _⟩

set_option maxRecDepth 100000 in
set_option maxHeartbeats 1600000 in
theorem rRight_ok (s : SU) (w : World) : Calls Try.prog 77 #[superV s] w fun e w' => e = .returned (.bool s.right) ∧ Below w.heap.size w w' := by
  obtain ⟨g, a, l⟩ := s
  have hc : ((SU.mk g a l).right = false ∧ decide (0 < g) = false) ∨ ((SU.mk g a l).right = false ∧ decide (0 < g) = true ∧ decide ((g : Int) ≤ 1099511627776) = false) ∨
      (decide (0 < g) = true ∧ decide ((g : Int) ≤ 1099511627776) = true ∧ (((SU.mk g a l).right = false ∧ decide (a ≥ 0) = false) ∨ ((SU.mk g a l).right = false ∧ decide (a ≥ 0) = true ∧ decide (a < 2) = false) ∨
        ((decide (a ≥ 0) = true ∧ decide (a < 2) = true) ∧ (((SU.mk g a l).right = false ∧ decide (l ≥ 0) = false) ∨ ((SU.mk g a l).right = false ∧ decide (l ≥ 0) = true ∧ decide (l ≤ 1048576) = false) ∨ ((SU.mk g a l).right = true ∧ decide (l ≥ 0) = true ∧ decide (l ≤ 1048576) = true))))) := by
    simp only [SU.right, decide_eq_true_eq, decide_eq_false_iff_not]
    omega
  unfold superV
  simp only
  rcases hc with ⟨hr, h1⟩ | ⟨hr, h1, h2⟩ | ⟨h1, h2, ⟨hr, h3⟩ | ⟨hr, h3, h4⟩ | ⟨⟨h3, h4⟩, ⟨hr, h5⟩ | ⟨hr, h5, h6⟩ | ⟨hr, h5, h6⟩⟩⟩
  all_goals
    rw [hr]
    clear hr
    go_enter Try.func77, Try.ntmps77
    go_wp2
    go_ret
    exact ⟨rfl, (Below.refl _ _).alloc (Nat.le_refl _) _⟩

set_option maxRecDepth 100000 in
set_option maxHeartbeats 1600000 in
theorem rbytes_ok (N size : Nat) (hN : N < 18446744073709551616) (hs : size ≤ 8) (w : World) : Calls Try.prog 108 #[.int .u64 (N : Int), .int .i64 (size : Int)] w fun e w' => e = .returned (strv (beN size N)) ∧ Below w.heap.size w w' := by
  go_enter Try.func108, Try.ntmps108
  go_wp2_with fail
  go_loopw [0, 5, 6] (fun v o i wr => ∃ k : Nat, k ≤ size ∧ i = .int .i64 k ∧ v = .int .u64 ((N / 2 ^ (8 * k) : Nat) : Int) ∧ o = .string (bs (beN k N)) ∧ Below w.heap.size w wr) (fun _ _ i _ => size - (intOf i).toNat)
  case atStart => exact ⟨0, by omega, rfl, by simp, rfl, Below.refl _ _⟩
  case round =>
    obtain ⟨k, hk, rfl, rfl, rfl, hbl⟩ := hrel
    by_cases hlt : k < size
    · obtain ⟨M, hM⟩ : ∃ M, M = N / 2 ^ (8 * k) := ⟨_, rfl⟩
      have hM64 : M < 18446744073709551616 := by rw [hM]; exact Nat.lt_of_le_of_lt (Nat.div_le_self _ _) hN
      have hnext : N / 2 ^ (8 * (k + 1)) = M / 256 := by rw [hM, Nat.mul_add, Nat.pow_add, ← Nat.div_div_eq_div_mul]
      have hbe : beN (k + 1) N = UInt8.ofNat M :: beN k N := by rw [beN_succ, hM]
      have hst : (convert 28 9 (.slice (some ⟨wr.heap.size, 0, none⟩) 1 1)).run Try.prog (wr.alloc (.cells #[.int .u8 ((M : Int) % 256)] 5)) = .ok (.string (bs [UInt8.ofNat M])) (wr.alloc (.cells #[.int .u8 ((M : Int) % 256)] 5)) := by
        refine run_str _ _ 1 1 [UInt8.ofNat M] (SlAt.ofBlk (t := 5) ?_ rfl)
        have e : (bvs [UInt8.ofNat M]).toArray = #[.int .u8 ((M : Int) % 256)] := by simp [bvs, bv]
        rw [e]; exact Blk.new wr 5 _
      rw [← hM]
      have HN := hide (And.intro hnext hbe)
      have hM0 : (0 : Int) ≤ (M : Int) := by omega
      have hsz : ¬ 9223372036854775807 < (bs [UInt8.ofNat M]).size + (bs (beN k N)).size := by rw [bs_size, bs_size, beN_length]; simp; omega
      have hk0 : (0 : Int) ≤ (k : Int) := by omega
      clear hM hnext hbe
      go_wp2
      go_roundw
      case rel => exact ⟨k + 1, by omega, by go_num, by rw [HN.out.1]; go_num, by rw [HN.out.2, bs_append]; rfl, hbl.alloc hbl.size _⟩
      case measure => simp [intOf]; omega
    · obtain rfl : k = size := by omega
      go_wp2
      go_ret
      exact ⟨rfl, hbl⟩

set_option maxRecDepth 100000 in
set_option maxHeartbeats 1600000 in
theorem rwrite_ok (g a l : Nat) (h1 : 1 ≤ g) (h2 : g ≤ 1099511627776) (h3 : a ≤ 1) (h4 : l ≤ 1048576) (w : World) :
    Calls Try.prog 78 #[.agg #[.int .u64 (g : Int), .int .i64 (a : Int), .int .i64 (l : Int)]] w fun e w' => e = .returned (strv (superBytes ⟨g, a, l⟩)) ∧ Below w.heap.size w w' := by
  have b1 : Below w.heap.size w (w.alloc (.cells #[.int .u64 (g : Int), .int .i64 (a : Int), .int .i64 (l : Int)] 105)) := (Below.refl _ _).alloc (Nat.le_refl _) _
  have k1 := Blk.new w 105 #[.int .u64 (g : Int), .int .i64 (a : Int), .int .i64 (l : Int)]
  go_enter Try.func78, Try.ntmps78
  go_upto_region 1 with fail
  obtain ⟨w1, hw1⟩ : ∃ w1, w1 = w.alloc (.cells #[.int .u64 (g : Int), .int .i64 (a : Int), .int .i64 (l : Int)] 105) := ⟨_, rfl⟩
  obtain ⟨b, hb⟩ : ∃ b, b = w.heap.size := ⟨_, rfl⟩
  rw [← hw1] at b1 k1 ⊢
  rw [← hb] at k1 ⊢
  have HB := hide hb
  clear hw1 hb
  have HS := hide (fun w' (h : Below w1.heap.size w1 w') => And.intro ((h.cell (p := ⟨b, 0, none⟩) k1.lt).trans (k1.cell 0)) (And.intro ((h.cell (p := ⟨b, 1, none⟩) k1.lt).trans (k1.cell 1)) ((h.cell (p := ⟨b, 2, none⟩) k1.lt).trans (k1.cell 2))))
  have e1 : IntKind.u64.wrap (a : Int) = (a : Int) := IntWalk.u64_in _ (by omega)
  have e2 : IntKind.u64.wrap (l : Int) = (l : Int) := IntWalk.u64_in _ (by omega)
  obtain ⟨A1, hA1⟩ : ∃ A1, A1 = [80, 76, 70, 84] ++ beN 8 g := ⟨_, rfl⟩
  obtain ⟨A2, hA2⟩ : ∃ A2, A2 = A1 ++ beN 1 a := ⟨_, rfl⟩
  obtain ⟨A3, hA3⟩ : ∃ A3, A3 = A2 ++ beN 4 l := ⟨_, rfl⟩
  have hhead : A3 = superHead ⟨g, a, l⟩ := by rw [hA3, hA2, hA1]; simp [superHead]
  have c1 : (⟨#[80, 76, 70, 84]⟩ : ByteArray) ++ bs (beN 8 g) = bs A1 := by rw [hA1]; exact bs_append [80, 76, 70, 84] (beN 8 g)
  have c2 : bs A1 ++ bs (beN 1 a) = bs A2 := by rw [hA2]; exact bs_append _ _
  have c3 : bs A2 ++ bs (beN 4 l) = bs A3 := by rw [hA3]; exact bs_append _ _
  have l1 : A1.length = 12 := by rw [hA1]; simp [beN_length]
  have l2 : A2.length = 13 := by rw [hA2]; simp [beN_length, l1]
  have l3 : A3.length = 17 := by rw [hA3]; simp [beN_length, l2]
  have s1 : ¬ 9223372036854775807 < (⟨#[80, 76, 70, 84]⟩ : ByteArray).size + (bs (beN 8 g)).size := by rw [bs_size, beN_length]; decide
  have s2 : ¬ 9223372036854775807 < (bs A1).size + (bs (beN 1 a)).size := by rw [bs_size, bs_size, beN_length, l1]; decide
  have s3 : ¬ 9223372036854775807 < (bs A2).size + (bs (beN 4 l)).size := by rw [bs_size, bs_size, beN_length, l2]; decide
  have HH := hide (And.intro hhead l3)
  have rb1 : ∀ w, Calls Try.prog 108 #[.int .u64 (g : Int), .int .i64 8] w fun e w' => e = .returned (.string (bs (beN 8 g))) ∧ Below w.heap.size w w' := fun w => rbytes_ok g 8 (by omega) (by omega) w
  have rb2 : ∀ w, Calls Try.prog 108 #[.int .u64 (a : Int), .int .i64 1] w fun e w' => e = .returned (.string (bs (beN 1 a))) ∧ Below w.heap.size w w' := fun w => rbytes_ok a 1 (by omega) (by omega) w
  have rb3 : ∀ w, Calls Try.prog 108 #[.int .u64 (l : Int), .int .i64 4] w fun e w' => e = .returned (.string (bs (beN 4 l))) ∧ Below w.heap.size w w' := fun w => rbytes_ok l 4 (by omega) (by omega) w
  have HR := hide (And.intro rb1 (And.intro rb2 rb3))
  clear hA1 hA2 hA3 hhead l1 l2 l3 rb1 rb2 rb3
  go_cut [3] (fun s3 wx => s3 = .string (bs A3) ∧ Below w1.heap.size w1 wx)
  case first =>
    refine wp_region_held 14 (fun w' => w'.cell? ⟨b, 0, none⟩ = some (.int .u64 (g : Int)) ∧ w'.cell? ⟨b, 1, none⟩ = some (.int .i64 (a : Int)) ∧ w'.cell? ⟨b, 2, none⟩ = some (.int .i64 (l : Int))) (fun i => i == 2 || i == 7 || i == 12) (by kernel_rfl) (by kernel_rfl) (HS.out w1 (Below.refl _ _)) (fun ops hops F hF => ?_)
    clear hops
    simp only [List.take_succ_cons, List.take_zero, List.drop_succ_cons, List.drop_zero] at hF ⊢
    iterate 2 (refine held_q rfl rfl ?_; apply Exists.intro; refine ⟨fun w' hw' => ?_, ?_⟩; (obtain ⟨q1, q2, q3⟩ := hw'; go_simp; rfl); simp only [Act.put, List.setIfInBounds_toArray, List.set_cons_zero, List.set_cons_succ, Nat.reduceAdd])
    refine held_loud rfl rfl (fun K hK => ?_)
    go_simp
    refine (HR.out.1 _).mono ?_
    rintro e w2 ⟨rfl, b2⟩
    have b2' : Below w1.heap.size w1 w2 := Below.of_drew b2
    refine hK _ _ (HS.out w2 b2') ?_
    clear hK K
    simp only [Act.put, List.setIfInBounds_toArray, List.set_cons_zero, List.set_cons_succ, Nat.reduceAdd]
    iterate 4 (refine held_q rfl rfl ?_; apply Exists.intro; refine ⟨fun w' hw' => ?_, ?_⟩; (obtain ⟨q1, q2, q3⟩ := hw'; go_simp; rfl); simp only [Act.put, List.setIfInBounds_toArray, List.set_cons_zero, List.set_cons_succ, Nat.reduceAdd])
    refine held_loud rfl rfl (fun K hK => ?_)
    go_simp
    refine (HR.out.2.1 _).mono ?_
    rintro e w3 ⟨rfl, b3⟩
    have b3' := b2'.trans (b3.mono b2'.size)
    refine hK _ _ (HS.out w3 b3') ?_
    clear hK K
    simp only [Act.put, List.setIfInBounds_toArray, List.set_cons_zero, List.set_cons_succ, Nat.reduceAdd]
    iterate 4 (refine held_q rfl rfl ?_; apply Exists.intro; refine ⟨fun w' hw' => ?_, ?_⟩; (obtain ⟨q1, q2, q3⟩ := hw'; go_simp; rfl); simp only [Act.put, List.setIfInBounds_toArray, List.set_cons_zero, List.set_cons_succ, Nat.reduceAdd])
    refine held_loud rfl rfl (fun K hK => ?_)
    go_simp
    refine (HR.out.2.2 _).mono ?_
    rintro e w4 ⟨rfl, b4⟩
    have b4' := b3'.trans (b4.mono b3'.size)
    refine hK _ _ (HS.out w4 b4') ?_
    clear hK K
    simp only [Act.put, List.setIfInBounds_toArray, List.set_cons_zero, List.set_cons_succ, Nat.reduceAdd]
    iterate 1 (refine held_q rfl rfl ?_; apply Exists.intro; refine ⟨fun w' hw' => ?_, ?_⟩; (obtain ⟨q1, q2, q3⟩ := hw'; go_simp; rfl); simp only [Act.put, List.setIfInBounds_toArray, List.set_cons_zero, List.set_cons_succ, Nat.reduceAdd])
    refine held_nil (hF _ _ ?_)
    clear hF F
    go_wp2
    go_meet
    exact ⟨rfl, b4'⟩
  case rest =>
    obtain ⟨rfl, b5⟩ := hcut
    have b5' := b1.trans (b5.mono b1.size)
    clear c1 c2 c3 s1 s2 s3 e1 e2 HS k1
    obtain ⟨cap6, w6, hcv, s6, b6⟩ := run_conv_bytes wc A3 17 HH.out.2
    have b6' := b5'.trans (b6.mono b5'.size)
    go_wp2_with fail
    refine (refLong_ok _ 17 cap6 A3 w6 s6 (by omega)).mono ?_
    rintro e w7 ⟨rfl, rfl⟩
    have hLl := longN_lt A3
    obtain ⟨L, hL⟩ : ∃ L, L = longN A3 := ⟨_, rfl⟩
    rw [← hL] at hLl ⊢
    have rb4 : Calls Try.prog 108 #[.int .u64 (L : Int), .int .i64 4] w6 fun e w' => e = .returned (.string (bs (beN 4 L))) ∧ Below w6.heap.size w6 w' := rbytes_ok L 4 (by omega) (by omega) w6
    have c4 : bs A3 ++ bs (beN 4 L) = bs (A3 ++ beN 4 L) := bs_append _ _
    have s4 : ¬ 9223372036854775807 < (bs A3).size + (bs (beN 4 L)).size := by rw [bs_size, bs_size, beN_length, HH.out.2]; decide
    have HL := hide hL
    clear hcv s6 b6 hL
    go_wp2_with fail
    refine rb4.mono ?_
    rintro e w8 ⟨rfl, b8⟩
    have b8' := b6'.trans (b8.mono b6'.size)
    have hsup : superBytes ⟨g, a, l⟩ = (A3 ++ beN 4 L) ++ List.replicate 107 0 := by rw [HL.out, HH.out.1]; simp [superBytes]
    obtain ⟨A4, hA4⟩ : ∃ A4, A4 = A3 ++ beN 4 L := ⟨_, rfl⟩
    have hA4l : A4.length = 21 := by rw [hA4]; simp [beN_length, HH.out.2]
    rw [← hA4] at c4 hsup
    have HF := hide (And.intro hsup hA4l)
    clear rb4 b8 hsup hA4 hA4l
    go_wp2_with fail
    clear c4 s4
    go_loopw [3] (fun v wr => ∃ k : Nat, k ≤ 107 ∧ v = .string (bs (A4 ++ List.replicate k 0)) ∧ w8 = wr) (fun v _ => 128 - (match v with | .string s => s.size | _ => 0))
    case atStart => exact ⟨0, by omega, by simp, rfl⟩
    case round =>
      obtain ⟨k, hk, rfl, rfl⟩ := hrel
      have hsz : (bs (A4 ++ List.replicate k 0)).size = 21 + k := by rw [bs_size, List.length_append, HF.out.2, List.length_replicate]
      obtain ⟨Z, hZ⟩ : ∃ Z, Z = bs (A4 ++ List.replicate k 0) := ⟨_, rfl⟩
      have hnext : Z ++ (⟨#[0]⟩ : ByteArray) = bs (A4 ++ List.replicate (k + 1) 0) := by
        rw [hZ]
        have e : (⟨#[0]⟩ : ByteArray) = bs [0] := rfl
        rw [e, bs_append, List.append_assoc, List.replicate_succ']
      rw [← hZ] at hsz ⊢
      by_cases hlt : k < 107
      · have hs1 : ¬ 9223372036854775807 < Z.size + (⟨#[0]⟩ : ByteArray).size := by rw [hsz]; show ¬ 9223372036854775807 < 21 + k + 1; omega
        have hlt2 : decide ((Z.size : Int) < 128) = true := by simp; omega
        have HZ := hide (And.intro hsz hnext)
        clear hZ hnext hsz
        go_wp2
        go_roundw
        case rel => exact ⟨k + 1, by omega, by rw [HZ.out.2], trivial⟩
        case measure => 
          have h1 : (Z ++ (⟨#[0]⟩ : ByteArray)).size = 21 + (k + 1) := by rw [HZ.out.2, bs_size, List.length_append, HF.out.2, List.length_replicate]
          have h2 := HZ.out.1
          simp only [h1, h2]
          omega
      · obtain rfl : k = 107 := by omega
        have hlt2 : decide ((Z.size : Int) < 128) = false := by simp; omega
        have HZ := hide hZ
        clear hZ hnext hsz
        go_wp2
        go_ret
        exact ⟨by rw [HF.out.1, HZ.out]; rfl, b8'⟩
theorem rwriteE (s : SU) (h : s.right = true) (w : World) : Calls Try.prog 78 #[superV s] w fun e w' => e = .returned (strv (superBytes s)) ∧ Below w.heap.size w w' := by
  obtain ⟨h1, h2, h3, h4, h5⟩ := (s.right_iff).1 h
  obtain ⟨g, a, l⟩ := s
  simp only at h1 h2 h3 h4 h5
  obtain ⟨a, rfl⟩ := Int.eq_ofNat_of_zero_le (a := a) (by omega)
  obtain ⟨l, rfl⟩ := Int.eq_ofNat_of_zero_le (a := l) (by omega)
  exact rwrite_ok g a l h1 h2 (by omega) (by omega) w
end Go.Proofs.Ytnnhklembdaieaa
