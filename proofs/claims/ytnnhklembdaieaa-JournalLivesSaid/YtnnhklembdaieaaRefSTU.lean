/- The document's super (pigeonloftref12): as, Right, bytes. The document's super: Read. The document's super: Newest. -/
import Derived.Test.YtnnhklembdaieaaAlive12
import Derived.Test.YtnnhklembdaieaaRefD
import Derived.Lib.ConvBytes
namespace Go.Proofs.Ytnnhklembdaieaa
open Go.RowKit
set_option linter.unusedSimpArgs false
set_option linter.unusedVariables false

theorem bs_append (a b : List UInt8) : bs a ++ bs b = bs (a ++ b) := by
  apply ByteArray.ext
  simp [bs]
/-- a string made a slice of bytes. -/
theorem run_conv_bytes (w : World) (l : List UInt8) (n : Nat) (hl : l.length = n) : ∃ (cap : Nat) (w' : World), (convert 9 28 (.string (bs l))).run Try.prog w = .ok (.slice (some ⟨w.heap.size, 0, none⟩) n cap) w' ∧ SlAt w' (some ⟨w.heap.size, 0, none⟩) n (bvs l) ∧ Below w.heap.size w w' := by
  refine ⟨_, _, by rw [Lib.run_convert_string_bytes (P := Try.prog) w 9 28 5 (bs l) Try.underlying9 Try.underlying28 Try.underlying5, bs_size, hl], ?_, ?_⟩
  · refine ⟨by rw [bvs_length, hl], fun hn => ⟨w.heap.size, 0, rfl, by rw [Lib.bytesWorld_size]; omega, fun j v hv => ?_⟩⟩
    rw [Nat.zero_add]
    have hj : j < l.length := by have := (List.getElem?_eq_some_iff.1 hv).1; rwa [bvs_length] at this
    rw [Lib.bytesWorld_cell w 5 (bs l) j (by rw [bs_size]; exact hj), bs_list]
    rw [bvs, List.getElem?_map, List.getElem?_eq_getElem hj] at hv
    rw [List.getD_eq_getElem?_getD, List.getElem?_eq_getElem hj]
    exact hv
  · exact ⟨rfl, rfl, rfl, by rw [Lib.bytesWorld_size]; omega, fun k hk => Lib.bytesWorld_at_old w 5 (bs l) k hk⟩
theorem as_ok (s : SU) (w : World) : Calls Try.prog 72 #[superV s] w fun e w' => e = .returned (superV s) ∧ Below w.heap.size w w' := by
  obtain ⟨g, a, l⟩ := s
  unfold superV
  simp only
  go_enter Try.func72, Try.ntmps72
  go_wp2
  exact bodyPost_ret (v := .agg #[.int .u64 (g : Int), .int .i64 a, .int .i64 l]) (by simp [results, Try.results72, go_sem]) rfl ⟨rfl, ((Below.refl _ _).alloc (Nat.le_refl _) _).alloc (by simp) _⟩

set_option maxRecDepth 100000 in
set_option maxHeartbeats 1600000 in
theorem rRight_ok (s : SU) (w : World) : Calls Try.prog 77 #[superV s] w fun e w' => e = .returned (.bool s.right) ∧ Below w.heap.size w w' := by
  obtain ⟨g, a, l⟩ := s
  have hc : ((SU.mk g a l).right = false ∧ decide (0 < g) = false) ∨ ((SU.mk g a l).right = false ∧ decide (0 < g) = true ∧ decide ((g : Int) ≤ 1099511627776) = false) ∨
      (decide (0 < g) = true ∧ decide ((g : Int) ≤ 1099511627776) = true ∧ (((SU.mk g a l).right = false ∧ decide (a ≥ 0) = false) ∨ ((SU.mk g a l).right = false ∧ decide (a ≥ 0) = true ∧ decide (a < 2) = false) ∨
        ((decide (a ≥ 0) = true ∧ decide (a < 2) = true) ∧ (((SU.mk g a l).right = false ∧ decide (l ≥ 0) = false) ∨ ((SU.mk g a l).right = false ∧ decide (l ≥ 0) = true ∧ decide (l ≤ 1048576) = false) ∨ ((SU.mk g a l).right = true ∧ decide (l ≥ 0) = true ∧ decide (l ≤ 1048576) = true))))) := by
    simp only [SU.right, decide_eq_true_eq, decide_eq_false_iff_not]
    omega
  unfold superV
  simp only
  rcases hc with ⟨hr, h1⟩ | ⟨hr, h1, h2⟩ | ⟨h1, h2, ⟨hr, h3⟩ | ⟨hr, h3, h4⟩ | ⟨⟨h3, h4⟩, ⟨hr, h5⟩ | ⟨hr, h5, h6⟩ | ⟨hr, h5, h6⟩⟩⟩
  all_goals
    rw [hr]
    clear hr
    go_enter Try.func77, Try.ntmps77
    go_wp2
    go_ret
    exact ⟨rfl, (Below.refl _ _).alloc (Nat.le_refl _) _⟩

set_option maxRecDepth 100000 in
set_option maxHeartbeats 1600000 in
theorem rbytes_ok (N size : Nat) (hN : N < 18446744073709551616) (hs : size ≤ 8) (w : World) : Calls Try.prog 108 #[.int .u64 (N : Int), .int .i64 (size : Int)] w fun e w' => e = .returned (strv (beN size N)) ∧ Below w.heap.size w w' := by
  go_enter Try.func108, Try.ntmps108
  go_wp2_with fail
  go_loopw [0, 5, 6] (fun v o i wr => ∃ k : Nat, k ≤ size ∧ i = .int .i64 k ∧ v = .int .u64 ((N / 2 ^ (8 * k) : Nat) : Int) ∧ o = .string (bs (beN k N)) ∧ Below w.heap.size w wr) (fun _ _ i _ => size - (intOf i).toNat)
  case atStart => exact ⟨0, by omega, rfl, by simp, rfl, Below.refl _ _⟩
  case round =>
    obtain ⟨k, hk, rfl, rfl, rfl, hbl⟩ := hrel
    by_cases hlt : k < size
    · obtain ⟨M, hM⟩ : ∃ M, M = N / 2 ^ (8 * k) := ⟨_, rfl⟩
      have hM64 : M < 18446744073709551616 := by rw [hM]; exact Nat.lt_of_le_of_lt (Nat.div_le_self _ _) hN
      have hnext : N / 2 ^ (8 * (k + 1)) = M / 256 := by rw [hM, Nat.mul_add, Nat.pow_add, ← Nat.div_div_eq_div_mul]
      have hbe : beN (k + 1) N = UInt8.ofNat M :: beN k N := by rw [beN_succ, hM]
      have hst : (convert 28 9 (.slice (some ⟨wr.heap.size, 0, none⟩) 1 1)).run Try.prog (wr.alloc (.cells #[.int .u8 ((M : Int) % 256)] 5)) = .ok (.string (bs [UInt8.ofNat M])) (wr.alloc (.cells #[.int .u8 ((M : Int) % 256)] 5)) := by
        refine run_str _ _ 1 1 [UInt8.ofNat M] (SlAt.ofBlk (t := 5) ?_ rfl)
        have e : (bvs [UInt8.ofNat M]).toArray = #[.int .u8 ((M : Int) % 256)] := by simp [bvs, bv]
        rw [e]; exact Blk.new wr 5 _
      rw [← hM]
      have HN := hide (And.intro hnext hbe)
      have hM0 : (0 : Int) ≤ (M : Int) := by omega
      have hsz : ¬ 9223372036854775807 < (bs [UInt8.ofNat M]).size + (bs (beN k N)).size := by rw [bs_size, bs_size, beN_length]; simp; omega
      have hk0 : (0 : Int) ≤ (k : Int) := by omega
      clear hM hnext hbe
      go_wp2
      go_roundw
      case rel => exact ⟨k + 1, by omega, by go_num, by rw [HN.out.1]; go_num, by rw [HN.out.2, bs_append]; rfl, hbl.alloc hbl.size _⟩
      case measure => simp [intOf]; omega
    · obtain rfl : k = size := by omega
      go_wp2
      go_ret
      exact ⟨rfl, hbl⟩

set_option maxRecDepth 100000 in
set_option maxHeartbeats 1600000 in
theorem rwrite_ok (g a l : Nat) (h1 : 1 ≤ g) (h2 : g ≤ 1099511627776) (h3 : a ≤ 1) (h4 : l ≤ 1048576) (w : World) :
    Calls Try.prog 78 #[.agg #[.int .u64 (g : Int), .int .i64 (a : Int), .int .i64 (l : Int)]] w fun e w' => e = .returned (strv (superBytes ⟨g, a, l⟩)) ∧ Below w.heap.size w w' := by
  have b1 : Below w.heap.size w (w.alloc (.cells #[.int .u64 (g : Int), .int .i64 (a : Int), .int .i64 (l : Int)] 105)) := (Below.refl _ _).alloc (Nat.le_refl _) _
  have k1 := Blk.new w 105 #[.int .u64 (g : Int), .int .i64 (a : Int), .int .i64 (l : Int)]
  go_enter Try.func78, Try.ntmps78
  go_upto_region 1 with fail
  obtain ⟨w1, hw1⟩ : ∃ w1, w1 = w.alloc (.cells #[.int .u64 (g : Int), .int .i64 (a : Int), .int .i64 (l : Int)] 105) := ⟨_, rfl⟩
  obtain ⟨b, hb⟩ : ∃ b, b = w.heap.size := ⟨_, rfl⟩
  rw [← hw1] at b1 k1 ⊢
  rw [← hb] at k1 ⊢
  have HB := hide hb
  clear hw1 hb
  have HS := hide (fun w' (h : Below w1.heap.size w1 w') => And.intro ((h.cell (p := ⟨b, 0, none⟩) k1.lt).trans (k1.cell 0)) (And.intro ((h.cell (p := ⟨b, 1, none⟩) k1.lt).trans (k1.cell 1)) ((h.cell (p := ⟨b, 2, none⟩) k1.lt).trans (k1.cell 2))))
  have e1 : IntKind.u64.wrap (a : Int) = (a : Int) := IntWalk.u64_in _ (by omega)
  have e2 : IntKind.u64.wrap (l : Int) = (l : Int) := IntWalk.u64_in _ (by omega)
  obtain ⟨A1, hA1⟩ : ∃ A1, A1 = [80, 76, 70, 84] ++ beN 8 g := ⟨_, rfl⟩
  obtain ⟨A2, hA2⟩ : ∃ A2, A2 = A1 ++ beN 1 a := ⟨_, rfl⟩
  obtain ⟨A3, hA3⟩ : ∃ A3, A3 = A2 ++ beN 4 l := ⟨_, rfl⟩
  have hhead : A3 = superHead ⟨g, a, l⟩ := by rw [hA3, hA2, hA1]; simp [superHead]
  have c1 : (⟨#[80, 76, 70, 84]⟩ : ByteArray) ++ bs (beN 8 g) = bs A1 := by rw [hA1]; exact bs_append [80, 76, 70, 84] (beN 8 g)
  have c2 : bs A1 ++ bs (beN 1 a) = bs A2 := by rw [hA2]; exact bs_append _ _
  have c3 : bs A2 ++ bs (beN 4 l) = bs A3 := by rw [hA3]; exact bs_append _ _
  have l1 : A1.length = 12 := by rw [hA1]; simp [beN_length]
  have l2 : A2.length = 13 := by rw [hA2]; simp [beN_length, l1]
  have l3 : A3.length = 17 := by rw [hA3]; simp [beN_length, l2]
  have s1 : ¬ 9223372036854775807 < (⟨#[80, 76, 70, 84]⟩ : ByteArray).size + (bs (beN 8 g)).size := by rw [bs_size, beN_length]; decide
  have s2 : ¬ 9223372036854775807 < (bs A1).size + (bs (beN 1 a)).size := by rw [bs_size, bs_size, beN_length, l1]; decide
  have s3 : ¬ 9223372036854775807 < (bs A2).size + (bs (beN 4 l)).size := by rw [bs_size, bs_size, beN_length, l2]; decide
  have HH := hide (And.intro hhead l3)
  have rb1 : ∀ w, Calls Try.prog 108 #[.int .u64 (g : Int), .int .i64 8] w fun e w' => e = .returned (.string (bs (beN 8 g))) ∧ Below w.heap.size w w' := fun w => rbytes_ok g 8 (by omega) (by omega) w
  have rb2 : ∀ w, Calls Try.prog 108 #[.int .u64 (a : Int), .int .i64 1] w fun e w' => e = .returned (.string (bs (beN 1 a))) ∧ Below w.heap.size w w' := fun w => rbytes_ok a 1 (by omega) (by omega) w
  have rb3 : ∀ w, Calls Try.prog 108 #[.int .u64 (l : Int), .int .i64 4] w fun e w' => e = .returned (.string (bs (beN 4 l))) ∧ Below w.heap.size w w' := fun w => rbytes_ok l 4 (by omega) (by omega) w
  have HR := hide (And.intro rb1 (And.intro rb2 rb3))
  clear hA1 hA2 hA3 hhead l1 l2 l3 rb1 rb2 rb3
  go_cut [3] (fun s3 wx => s3 = .string (bs A3) ∧ Below w1.heap.size w1 wx)
  case first =>
    refine wp_region_held 14 (fun w' => w'.cell? ⟨b, 0, none⟩ = some (.int .u64 (g : Int)) ∧ w'.cell? ⟨b, 1, none⟩ = some (.int .i64 (a : Int)) ∧ w'.cell? ⟨b, 2, none⟩ = some (.int .i64 (l : Int))) (fun i => i == 2 || i == 7 || i == 12) (by kernel_rfl) (by kernel_rfl) (HS.out w1 (Below.refl _ _)) (fun ops hops F hF => ?_)
    clear hops
    simp only [List.take_succ_cons, List.take_zero, List.drop_succ_cons, List.drop_zero] at hF ⊢
    iterate 2 (refine held_q rfl rfl ?_; apply Exists.intro; refine ⟨fun w' hw' => ?_, ?_⟩; (obtain ⟨q1, q2, q3⟩ := hw'; go_simp; rfl); simp only [Act.put, List.setIfInBounds_toArray, List.set_cons_zero, List.set_cons_succ, Nat.reduceAdd])
    refine held_loud rfl rfl (fun K hK => ?_)
    go_simp
    refine (HR.out.1 _).mono ?_
    rintro e w2 ⟨rfl, b2⟩
    have b2' : Below w1.heap.size w1 w2 := Below.of_drew b2
    refine hK _ _ (HS.out w2 b2') ?_
    clear hK K
    simp only [Act.put, List.setIfInBounds_toArray, List.set_cons_zero, List.set_cons_succ, Nat.reduceAdd]
    iterate 4 (refine held_q rfl rfl ?_; apply Exists.intro; refine ⟨fun w' hw' => ?_, ?_⟩; (obtain ⟨q1, q2, q3⟩ := hw'; go_simp; rfl); simp only [Act.put, List.setIfInBounds_toArray, List.set_cons_zero, List.set_cons_succ, Nat.reduceAdd])
    refine held_loud rfl rfl (fun K hK => ?_)
    go_simp
    refine (HR.out.2.1 _).mono ?_
    rintro e w3 ⟨rfl, b3⟩
    have b3' := b2'.trans (b3.mono b2'.size)
    refine hK _ _ (HS.out w3 b3') ?_
    clear hK K
    simp only [Act.put, List.setIfInBounds_toArray, List.set_cons_zero, List.set_cons_succ, Nat.reduceAdd]
    iterate 4 (refine held_q rfl rfl ?_; apply Exists.intro; refine ⟨fun w' hw' => ?_, ?_⟩; (obtain ⟨q1, q2, q3⟩ := hw'; go_simp; rfl); simp only [Act.put, List.setIfInBounds_toArray, List.set_cons_zero, List.set_cons_succ, Nat.reduceAdd])
    refine held_loud rfl rfl (fun K hK => ?_)
    go_simp
    refine (HR.out.2.2 _).mono ?_
    rintro e w4 ⟨rfl, b4⟩
    have b4' := b3'.trans (b4.mono b3'.size)
    refine hK _ _ (HS.out w4 b4') ?_
    clear hK K
    simp only [Act.put, List.setIfInBounds_toArray, List.set_cons_zero, List.set_cons_succ, Nat.reduceAdd]
    iterate 1 (refine held_q rfl rfl ?_; apply Exists.intro; refine ⟨fun w' hw' => ?_, ?_⟩; (obtain ⟨q1, q2, q3⟩ := hw'; go_simp; rfl); simp only [Act.put, List.setIfInBounds_toArray, List.set_cons_zero, List.set_cons_succ, Nat.reduceAdd])
    refine held_nil (hF _ _ ?_)
    clear hF F
    go_wp2
    go_meet
    exact ⟨rfl, b4'⟩
  case rest =>
    obtain ⟨rfl, b5⟩ := hcut
    have b5' := b1.trans (b5.mono b1.size)
    clear c1 c2 c3 s1 s2 s3 e1 e2 HS k1
    obtain ⟨cap6, w6, hcv, s6, b6⟩ := run_conv_bytes wc A3 17 HH.out.2
    have b6' := b5'.trans (b6.mono b5'.size)
    go_wp2_with fail
    refine (refLong_ok _ 17 cap6 A3 w6 s6 (by omega)).mono ?_
    rintro e w7 ⟨rfl, rfl⟩
    have hLl := longN_lt A3
    obtain ⟨L, hL⟩ : ∃ L, L = longN A3 := ⟨_, rfl⟩
    rw [← hL] at hLl ⊢
    have rb4 : Calls Try.prog 108 #[.int .u64 (L : Int), .int .i64 4] w6 fun e w' => e = .returned (.string (bs (beN 4 L))) ∧ Below w6.heap.size w6 w' := rbytes_ok L 4 (by omega) (by omega) w6
    have c4 : bs A3 ++ bs (beN 4 L) = bs (A3 ++ beN 4 L) := bs_append _ _
    have s4 : ¬ 9223372036854775807 < (bs A3).size + (bs (beN 4 L)).size := by rw [bs_size, bs_size, beN_length, HH.out.2]; decide
    have HL := hide hL
    clear hcv s6 b6 hL
    go_wp2_with fail
    refine rb4.mono ?_
    rintro e w8 ⟨rfl, b8⟩
    have b8' := b6'.trans (b8.mono b6'.size)
    have hsup : superBytes ⟨g, a, l⟩ = (A3 ++ beN 4 L) ++ List.replicate 107 0 := by rw [HL.out, HH.out.1]; simp [superBytes]
    obtain ⟨A4, hA4⟩ : ∃ A4, A4 = A3 ++ beN 4 L := ⟨_, rfl⟩
    have hA4l : A4.length = 21 := by rw [hA4]; simp [beN_length, HH.out.2]
    rw [← hA4] at c4 hsup
    have HF := hide (And.intro hsup hA4l)
    clear rb4 b8 hsup hA4 hA4l
    go_wp2_with fail
    clear c4 s4
    go_loopw [3] (fun v wr => ∃ k : Nat, k ≤ 107 ∧ v = .string (bs (A4 ++ List.replicate k 0)) ∧ w8 = wr) (fun v _ => 128 - (match v with | .string s => s.size | _ => 0))
    case atStart => exact ⟨0, by omega, by simp, rfl⟩
    case round =>
      obtain ⟨k, hk, rfl, rfl⟩ := hrel
      have hsz : (bs (A4 ++ List.replicate k 0)).size = 21 + k := by rw [bs_size, List.length_append, HF.out.2, List.length_replicate]
      obtain ⟨Z, hZ⟩ : ∃ Z, Z = bs (A4 ++ List.replicate k 0) := ⟨_, rfl⟩
      have hnext : Z ++ (⟨#[0]⟩ : ByteArray) = bs (A4 ++ List.replicate (k + 1) 0) := by
        rw [hZ]
        have e : (⟨#[0]⟩ : ByteArray) = bs [0] := rfl
        rw [e, bs_append, List.append_assoc, List.replicate_succ']
      rw [← hZ] at hsz ⊢
      by_cases hlt : k < 107
      · have hs1 : ¬ 9223372036854775807 < Z.size + (⟨#[0]⟩ : ByteArray).size := by rw [hsz]; show ¬ 9223372036854775807 < 21 + k + 1; omega
        have hlt2 : decide ((Z.size : Int) < 128) = true := by simp; omega
        have HZ := hide (And.intro hsz hnext)
        clear hZ hnext hsz
        go_wp2
        go_roundw
        case rel => exact ⟨k + 1, by omega, by rw [HZ.out.2], trivial⟩
        case measure => 
          have h1 : (Z ++ (⟨#[0]⟩ : ByteArray)).size = 21 + (k + 1) := by rw [HZ.out.2, bs_size, List.length_append, HF.out.2, List.length_replicate]
          have h2 := HZ.out.1
          simp only [h1, h2]
          omega
      · obtain rfl : k = 107 := by omega
        have hlt2 : decide ((Z.size : Int) < 128) = false := by simp; omega
        have HZ := hide hZ
        clear hZ hnext hsz
        go_wp2
        go_ret
        exact ⟨by rw [HF.out.1, HZ.out]; rfl, b8'⟩
theorem rwriteE (s : SU) (h : s.right = true) (w : World) : Calls Try.prog 78 #[superV s] w fun e w' => e = .returned (strv (superBytes s)) ∧ Below w.heap.size w w' := by
  obtain ⟨h1, h2, h3, h4, h5⟩ := (s.right_iff).1 h
  obtain ⟨g, a, l⟩ := s
  simp only at h1 h2 h3 h4 h5
  obtain ⟨a, rfl⟩ := Int.eq_ofNat_of_zero_le (a := a) (by omega)
  obtain ⟨l, rfl⟩ := Int.eq_ofNat_of_zero_le (a := l) (by omega)
  exact rwrite_ok g a l h1 h2 (by omega) (by omega) w
end Go.Proofs.Ytnnhklembdaieaa
namespace Go.Proofs.Ytnnhklembdaieaa
open Go.RowKit
set_option linter.unusedSimpArgs false
set_option linter.unusedVariables false

/-- what the document's Read answers. -/
def refRes (xs : List UInt8) : Value := match readS xs with | some s => .tuple #[superV s, .bool true] | none => .tuple #[superV SU.zero, .bool false]
theorem refRes_some {xs : List UInt8} {s : SU} (h : readS xs = some s) : refRes xs = .tuple #[superV s, .bool true] := by unfold refRes; rw [h]
theorem refRes_none {xs : List UInt8} (h : readS xs = none) : refRes xs = .tuple #[superV SU.zero, .bool false] := by unfold refRes; rw [h]

theorem bs_at (xs : List UInt8) (i : Nat) (hi : i < (bs xs).size) : (bs xs)[i] = xs.getD i 0 := by
  have h2 : i < xs.length := by rwa [bs_size] at hi
  rw [List.getD_eq_getElem?_getD, List.getElem?_eq_getElem h2]
  rfl
theorem unbe_step (l : List UInt8) (o k : Nat) (h : o + k < l.length) : unbe ((l.drop o).take (k + 1)) = unbe ((l.drop o).take k) * 256 + (l.getD (o + k) 0).toNat := by
  have h2 : k < (l.drop o).length := by rw [List.length_drop]; omega
  rw [List.take_succ_eq_append_getElem h2, unbe_snoc, List.getElem_drop, List.getD_eq_getElem?_getD, List.getElem?_eq_getElem h]
  rfl

theorem rread_form (xs : List UInt8) (hl : xs.length ≠ 128) (hm : xs.length ≤ 9223372036854775807) (w : World) : Calls Try.prog 75 #[.string (bs xs)] w fun e w' => e = .returned (refRes xs) ∧ Below w.heap.size w w' := by
  have hres : refRes xs = .tuple #[superV SU.zero, .bool false] := refRes_none (by unfold readS; rw [if_neg (fun h => hl h.1)])
  have hsz := bs_size xs
  rw [hres]
  obtain ⟨Z, hZ⟩ : ∃ Z, Z = bs xs := ⟨_, rfl⟩
  rw [← hZ] at hsz ⊢
  have h0 : ((Z.size : Int) != 128) = true := by rw [hsz, bne_iff_ne]; omega
  clear hZ hres hl hsz
  go_enter Try.func75, Try.ntmps75
  go_wp2
  exact bodyPost_ret (v := .tuple #[superV SU.zero, .bool false]) (by simp [results, Try.results75, go_sem, superV, SU.zero]) rfl ⟨rfl, (Below.refl _ _).alloc (Nat.le_refl _) _⟩

set_option maxRecDepth 100000 in
set_option maxHeartbeats 3200000 in
theorem rread_core (xs : List UInt8) (hxs : xs.length = 128) (w : World) : Calls Try.prog 75 #[.string (bs xs)] w fun e w' => e = .returned (refRes xs) ∧ Below w.heap.size w w' := by
  have hsz : (bs xs).size = 128 := by rw [bs_size, hxs]
  have hat : ∀ i (hi : i < (bs xs).size), (bs xs)[i] = xs.getD i 0 := fun i hi => bs_at xs i hi
  have hl : (bs xs).toList = xs := bs_toList xs
  obtain ⟨Z, hZ⟩ : ∃ Z, Z = bs xs := ⟨_, rfl⟩
  rw [← hZ] at hsz hat hl ⊢
  clear hZ
  have hz0 : ((Z.size : Int) != 128) = false := by rw [hsz]; rfl
  have hz12 : 12 < Z.size := by omega
  obtain ⟨y, hy⟩ : ∃ y, y = xs.getD 12 0 := ⟨_, rfl⟩
  have hx12 : Z[12]'hz12 = y := by rw [hat, hy]
  have HAT := hide hat
  have HL := hide hl
  have HY := hide hy
  have HXS := hide hxs
  have HSZ := hide hsz
  have hy8 : (y.toNat : Int) < 256 := by have := y.toNat_lt; omega
  have hy0 : (0 : Int) ≤ (y.toNat : Int) := by omega
  clear hat hl hy hxs hsz
  go_enter Try.func75, Try.ntmps75
  go_upto_region 4 with fail
  have k2 : Blk ((w.alloc (.cells #[.int .u64 0, .int .i64 0, .int .i64 0] 105)).alloc (.cells #[.int .u64 0, .int .i64 (y.toNat : Int), .int .i64 0] 105)) w.heap.size 105 #[.int .u64 0, .int .i64 0, .int .i64 0] := (Blk.new w 105 _).alloc _
  have k4 : Blk ((w.alloc (.cells #[.int .u64 0, .int .i64 0, .int .i64 0] 105)).alloc (.cells #[.int .u64 0, .int .i64 (y.toNat : Int), .int .i64 0] 105)) (w.heap.size + 1) 105 #[.int .u64 0, .int .i64 (y.toNat : Int), .int .i64 0] := by simpa using Blk.new (w.alloc (.cells #[.int .u64 0, .int .i64 0, .int .i64 0] 105)) 105 #[.int .u64 0, .int .i64 (y.toNat : Int), .int .i64 0]
  have b0 : Below w.heap.size w ((w.alloc (.cells #[.int .u64 0, .int .i64 0, .int .i64 0] 105)).alloc (.cells #[.int .u64 0, .int .i64 (y.toNat : Int), .int .i64 0] 105)) := ((Below.refl _ _).alloc (Nat.le_refl _) _).alloc (by simp) _
  obtain ⟨w0, hw0⟩ : ∃ w0, w0 = (w.alloc (.cells #[.int .u64 0, .int .i64 0, .int .i64 0] 105)).alloc (.cells #[.int .u64 0, .int .i64 (y.toNat : Int), .int .i64 0] 105) := ⟨_, rfl⟩
  obtain ⟨g4, hg4⟩ : ∃ g4, g4 = w.heap.size + 1 := ⟨_, rfl⟩
  rw [← hw0, ← hg4] at k4
  rw [← hw0] at k2 b0
  rw [← hw0, ← hg4]
  have hg4w : w.heap.size < g4 := by omega
  clear hw0 hg4 hx12 hz12 hz0
  go_wp2_with fail
  go_loopw [5] (fun v wr => ∃ q : Nat, 4 ≤ q ∧ q ≤ 12 ∧ v = .int .i64 (q : Int) ∧ Blk wr g4 105 #[.int .u64 ((unbe ((xs.drop 4).take (q - 4)) : Nat) : Int), .int .i64 (y.toNat : Int), .int .i64 0] ∧ Blk wr w.heap.size 105 #[.int .u64 0, .int .i64 0, .int .i64 0] ∧ Below w.heap.size w wr) (fun v _ => 12 - (intOf v).toNat)
  case atStart => exact ⟨4, by omega, by omega, rfl, k4, k2, b0⟩
  case round =>
    clear k4 k2 b0
    obtain ⟨q, hq1, hq2, rfl, k4, k2, bw⟩ := hrel
    by_cases hlt : q < 12
    · have hqz : q < Z.size := by rw [HSZ.out]; omega
      obtain ⟨x, hx⟩ : ∃ x, x = xs.getD q 0 := ⟨_, rfl⟩
      have hzx : Z[q]'hqz = x := by rw [HAT.out, hx]
      obtain ⟨N, hN⟩ : ∃ N, N = unbe ((xs.drop 4).take (q - 4)) := ⟨_, rfl⟩
      have hNl : N < 2 ^ 56 := by
        rw [hN]
        refine Nat.lt_of_lt_of_le (unbe_lt _) (Nat.pow_le_pow_right (by omega) ?_)
        rw [List.length_take]; omega
      have hnx : ((unbe ((xs.drop 4).take (q + 1 - 4)) : Nat) : Int) = 256 * (N : Int) + (x.toNat : Int) := by
        rw [show q + 1 - 4 = (q - 4) + 1 by omega, unbe_step xs 4 (q - 4) (by rw [HXS.out]; omega), show 4 + (q - 4) = q by omega, ← hN, ← hx]; omega
      rw [← hN] at k4
      have hx8 : x.toNat < 256 := x.toNat_lt
      have e1 : IntKind.u64.wrap (256 * (N : Int)) = 256 * (N : Int) := IntWalk.u64_in _ (by omega)
      have e2 : IntKind.u64.wrap (x.toNat : Int) = (x.toNat : Int) := IntWalk.u64_in _ (by omega)
      have e3 : IntKind.u64.wrap (256 * (N : Int) + (x.toNat : Int)) = 256 * (N : Int) + (x.toNat : Int) := IntWalk.u64_in _ (by omega)
      have p0 : (0 : Int) ≤ (q : Int) := by omega
      have p1 : (q : Int) < (Z.size : Int) := by omega
      have HNX := hide hnx
      have c0 : wr.cell? ⟨g4, 0, none⟩ = some (.int .u64 (N : Int)) := (k4.cell 0).trans rfl
      have z0 : wr.drew.frozen? ⟨g4, 0, none⟩ = false := k4.frozen 0
      have k4' : Blk (wr.drew.setCell ⟨g4, 0, none⟩ (.int .u64 (256 * (N : Int) + (x.toNat : Int)))) g4 105 #[.int .u64 (256 * (N : Int) + (x.toNat : Int)), .int .i64 (y.toNat : Int), .int .i64 0] := by simpa using k4.drew.set_ 0 (.int .u64 (256 * (N : Int) + (x.toNat : Int)))
      have HK := hide (And.intro k4' (And.intro k2 bw))
      clear hx hN hNl hnx k4 k2 bw k4' hx8
      go_upto_region 7 with fail
      obtain ⟨w8, hw8⟩ : ∃ w8, w8 = wr := ⟨_, rfl⟩
      rw [← hw8] at c0 z0 HK ⊢
      clear hw8
      refine wp_region_held 9 (fun w' => w'.cell? ⟨g4, 0, none⟩ = some (.int .u64 (N : Int))) (fun _ => false) (by kernel_rfl) (by kernel_rfl) c0 (fun ops hops F hF => ?_)
      clear hops
      simp only [List.take_succ_cons, List.take_zero, List.drop_succ_cons, List.drop_zero] at hF ⊢
      iterate 9 (refine held_q rfl rfl ?_; apply Exists.intro; refine ⟨fun w' hw' => ?_, ?_⟩; (go_simp; rfl); simp only [Act.put, List.setIfInBounds_toArray, List.set_cons_zero, List.set_cons_succ, Nat.reduceAdd])
      refine held_nil (hF _ _ ?_)
      clear hF F
      have d0 : w8.drew.cell? ⟨g4, 0, none⟩ = some (.int .u64 (N : Int)) := c0
      go_wp2
      go_roundw
      case rel => exact ⟨q + 1, by omega, by omega, by go_num, by rw [HNX.out]; exact HK.out.1, HK.out.2.1.drew.far (p := ⟨g4, 0, none⟩) (Nat.ne_of_lt hg4w) _, (HK.out.2.2.drew).setCell (p := ⟨g4, 0, none⟩) (Nat.le_of_lt hg4w) _⟩
      case measure => simp [intOf]; omega
    · obtain rfl : q = 12 := by omega
      have k4 : Blk wr g4 105 #[.int .u64 ((unbe ((xs.drop 4).take 8) : Nat) : Int), .int .i64 (y.toNat : Int), .int .i64 0] := k4
      have b0 := bw
      obtain ⟨G, hG⟩ : ∃ G, G = unbe ((xs.drop 4).take 8) := ⟨_, rfl⟩
      rw [← hG] at k4
      have HG := hide hG
      clear hG bw
      obtain ⟨wo, hwo⟩ : ∃ wo : World, wo = wr := ⟨_, rfl⟩
      rw [← hwo] at k4 k2 b0 ⊢
      clear hwo
      go_wp2_with fail
      go_loopw [6] (fun v wr => ∃ q : Nat, 13 ≤ q ∧ q ≤ 17 ∧ v = .int .i64 (q : Int) ∧ Blk wr g4 105 #[.int .u64 (G : Int), .int .i64 (y.toNat : Int), .int .i64 ((unbe ((xs.drop 13).take (q - 13)) : Nat) : Int)] ∧ Blk wr w.heap.size 105 #[.int .u64 0, .int .i64 0, .int .i64 0] ∧ Below w.heap.size w wr) (fun v _ => 17 - (intOf v).toNat)
      case atStart => exact ⟨13, by omega, by omega, rfl, k4, k2, b0⟩
      case round =>
        clear k4 k2 b0
        obtain ⟨q, hq1, hq2, rfl, k4, k2, bw⟩ := hrel
        by_cases hlt : q < 17
        · have hqz : q < Z.size := by rw [HSZ.out]; omega
          obtain ⟨x, hx⟩ : ∃ x, x = xs.getD q 0 := ⟨_, rfl⟩
          have hzx : Z[q]'hqz = x := by rw [HAT.out, hx]
          obtain ⟨N, hN⟩ : ∃ N, N = unbe ((xs.drop 13).take (q - 13)) := ⟨_, rfl⟩
          have hNl : N < 2 ^ 24 := by
            rw [hN]
            refine Nat.lt_of_lt_of_le (unbe_lt _) (Nat.pow_le_pow_right (by omega) ?_)
            rw [List.length_take]; omega
          have hnx : ((unbe ((xs.drop 13).take (q + 1 - 13)) : Nat) : Int) = 256 * (N : Int) + (x.toNat : Int) := by
            rw [show q + 1 - 13 = (q - 13) + 1 by omega, unbe_step xs 13 (q - 13) (by rw [HXS.out]; omega), show 13 + (q - 13) = q by omega, ← hN, ← hx]; omega
          rw [← hN] at k4
          have hx8 : x.toNat < 256 := x.toNat_lt
          have e1 : IntKind.i64.wrap (256 * (N : Int)) = 256 * (N : Int) := IntWalk.i64_in _ (by omega)
          have e2 : IntKind.i64.wrap (x.toNat : Int) = (x.toNat : Int) := IntWalk.i64_in _ (by omega)
          have e3 : IntKind.i64.wrap (256 * (N : Int) + (x.toNat : Int)) = 256 * (N : Int) + (x.toNat : Int) := IntWalk.i64_in _ (by omega)
          have p0 : (0 : Int) ≤ (q : Int) := by omega
          have p1 : (q : Int) < (Z.size : Int) := by omega
          have HNX := hide hnx
          have c0 : wr.cell? ⟨g4, 2, none⟩ = some (.int .i64 (N : Int)) := (k4.cell 2).trans rfl
          have z0 : wr.drew.frozen? ⟨g4, 2, none⟩ = false := k4.frozen 2
          have k4' : Blk (wr.drew.setCell ⟨g4, 2, none⟩ (.int .i64 (256 * (N : Int) + (x.toNat : Int)))) g4 105 #[.int .u64 (G : Int), .int .i64 (y.toNat : Int), .int .i64 (256 * (N : Int) + (x.toNat : Int))] := by simpa using k4.drew.set_ 2 (.int .i64 (256 * (N : Int) + (x.toNat : Int)))
          have HK := hide (And.intro k4' (And.intro k2 bw))
          clear hx hN hNl hnx k4 k2 bw k4' hx8
          go_upto_region 11 with fail
          obtain ⟨w8, hw8⟩ : ∃ w8, w8 = wr := ⟨_, rfl⟩
          rw [← hw8] at c0 z0 HK ⊢
          clear hw8
          refine wp_region_held 9 (fun w' => w'.cell? ⟨g4, 2, none⟩ = some (.int .i64 (N : Int))) (fun _ => false) (by kernel_rfl) (by kernel_rfl) c0 (fun ops hops F hF => ?_)
          clear hops
          simp only [List.take_succ_cons, List.take_zero, List.drop_succ_cons, List.drop_zero] at hF ⊢
          iterate 9 (refine held_q rfl rfl ?_; apply Exists.intro; refine ⟨fun w' hw' => ?_, ?_⟩; (go_simp; rfl); simp only [Act.put, List.setIfInBounds_toArray, List.set_cons_zero, List.set_cons_succ, Nat.reduceAdd])
          refine held_nil (hF _ _ ?_)
          clear hF F
          have d0 : w8.drew.cell? ⟨g4, 2, none⟩ = some (.int .i64 (N : Int)) := c0
          go_wp2
          go_roundw
          case rel => exact ⟨q + 1, by omega, by omega, by go_num, by rw [HNX.out]; exact HK.out.1, HK.out.2.1.drew.far (p := ⟨g4, 2, none⟩) (Nat.ne_of_lt hg4w) _, (HK.out.2.2.drew).setCell (p := ⟨g4, 2, none⟩) (Nat.le_of_lt hg4w) _⟩
          case measure => simp [intOf]; omega
        · obtain rfl : q = 17 := by omega
          have k4 : Blk wr g4 105 #[.int .u64 (G : Int), .int .i64 (y.toNat : Int), .int .i64 ((unbe ((xs.drop 13).take 4) : Nat) : Int)] := k4
          obtain ⟨M, hM⟩ : ∃ M, M = unbe ((xs.drop 13).take 4) := ⟨_, rfl⟩
          rw [← hM] at k4
          have hsu : unsuper xs = ⟨G, (y.toNat : Int), (M : Int)⟩ := by
            unfold unsuper
            rw [← HG.out, ← hM, HY.out]
            congr 2
            rw [List.drop_eq_getElem_cons (by rw [HXS.out]; omega), List.headD_cons, List.getD_eq_getElem?_getD, List.getElem?_eq_getElem (by rw [HXS.out]; omega)]
            rfl
          have hsv : superV (unsuper xs) = .agg #[.int .u64 (G : Int), .int .i64 (y.toNat : Int), .int .i64 (M : Int)] := by rw [hsu]; rfl
          have hR := fun w => rRight_ok (unsuper xs) w
          rw [hsv] at hR
          have HSV := hide hsv
          clear hM hsu hsv
          have c0 := k4.cell 0
          have c1 := k4.cell 1
          have c2 := k4.cell 2
          simp at c0 c1 c2
          by_cases hr : (unsuper xs).right = true
          · have hW := fun w => rwriteE (unsuper xs) hr w
            rw [HSV.out] at hW
            rw [hr] at hR
            unfold strv at hW
            go_wp2_with fail
            refine (hR _).mono ?_
            rintro e w10 ⟨rfl, b10⟩
            have k10 := k4.below b10 k4.lt
            have k12 := k2.below b10 k2.lt
            have bw10 := bw.trans (b10.mono bw.size)
            clear c0 c1 c2
            have c0 := k10.cell 0
            have c1 := k10.cell 1
            have c2 := k10.cell 2
            simp at c0 c1 c2
            go_wp2_with fail
            refine (hW _).mono ?_
            rintro e w11 ⟨rfl, b11⟩
            have k11 := k10.below b11 k10.lt
            have k13 := k12.below b11 k12.lt
            have bx3 := bw10.trans (b11.mono bw10.size)
            clear c0 c1 c2 hR hW k10 k12 bw10 b10 b11 k4 k2 bw
            have c0 := k11.cell 0
            have c1 := k11.cell 1
            have c2 := k11.cell 2
            have d0 := k13.cell 0
            have d1 := k13.cell 1
            have d2 := k13.cell 2
            have z0 := k13.frozen 0
            have z1 := k13.frozen 1
            have z2 := k13.frozen 2
            simp at c0 c1 c2 d0 d1 d2
            by_cases hq : superBytes (unsuper xs) = xs
            · have hcmp : ((bs (superBytes (unsuper xs))).toList == Z.toList) = true := by rw [bs_toList, HL.out, hq]; simp
              have HRES := hide (show refRes xs = .tuple #[.agg #[.int .u64 (G : Int), .int .i64 (y.toNat : Int), .int .i64 (M : Int)], .bool true] by rw [refRes_some (s := unsuper xs) (by unfold readS; rw [if_pos ⟨HXS.out, hr, hq⟩]), HSV.out])
              clear hq hr
              go_wp2
              refine bodyPost_ret (v := .tuple #[.agg #[.int .u64 (G : Int), .int .i64 (y.toNat : Int), .int .i64 (M : Int)], .bool true]) (by simp [results, Try.results75, go_sem, d0, d1, d2]) rfl ⟨by rw [HRES.out], ?_⟩
              exact ((bx3.setCell (p := ⟨w.heap.size, 0, none⟩) (Nat.le_refl _) _).setCell (p := ⟨w.heap.size, 1, none⟩) (Nat.le_refl _) _).setCell (p := ⟨w.heap.size, 2, none⟩) (Nat.le_refl _) _
            · have hcmp : ((bs (superBytes (unsuper xs))).toList == Z.toList) = false := by rw [bs_toList, HL.out]; simp [hq]
              have HRES := hide (show refRes xs = .tuple #[superV SU.zero, .bool false] from refRes_none (by unfold readS; rw [if_neg (fun h => hq h.2.2)]))
              clear hq hr
              go_wp2
              refine bodyPost_ret (v := .tuple #[superV SU.zero, .bool false]) (by simp [results, Try.results75, go_sem, superV, SU.zero, d0, d1, d2]) rfl ⟨by rw [HRES.out], ?_⟩
              exact ((bx3.setCell (p := ⟨w.heap.size, 0, none⟩) (Nat.le_refl _) _).setCell (p := ⟨w.heap.size, 1, none⟩) (Nat.le_refl _) _).setCell (p := ⟨w.heap.size, 2, none⟩) (Nat.le_refl _) _
          · have HRES := hide (show refRes xs = .tuple #[superV SU.zero, .bool false] from refRes_none (by unfold readS; rw [if_neg (fun h => hr h.2.1)]))
            rw [show (unsuper xs).right = false by simpa using hr] at hR
            clear hr
            go_wp2_with fail
            refine (hR _).mono ?_
            rintro e w10 ⟨rfl, b10⟩
            have k13 := k2.below b10 k2.lt
            have bx3 := bw.trans (b10.mono bw.size)
            have d0 := k13.cell 0
            have d1 := k13.cell 1
            have d2 := k13.cell 2
            have z0 := k13.frozen 0
            have z1 := k13.frozen 1
            have z2 := k13.frozen 2
            simp at d0 d1 d2
            clear c0 c1 c2 hR k4 k2 bw
            go_wp2
            refine bodyPost_ret (v := .tuple #[superV SU.zero, .bool false]) (by simp [results, Try.results75, go_sem, superV, SU.zero, d0, d1, d2]) rfl ⟨by rw [HRES.out], ?_⟩
            exact ((bx3.setCell (p := ⟨w.heap.size, 0, none⟩) (Nat.le_refl _) _).setCell (p := ⟨w.heap.size, 1, none⟩) (Nat.le_refl _) _).setCell (p := ⟨w.heap.size, 2, none⟩) (Nat.le_refl _) _
theorem rreadE (xs : List UInt8) (hm : xs.length ≤ 9223372036854775807) (w : World) : Calls Try.prog 75 #[.string (bs xs)] w fun e w' => e = .returned (refRes xs) ∧ Below w.heap.size w w' := by
  by_cases h : xs.length = 128
  · exact rread_core xs h w
  · exact rread_form xs h hm w
end Go.Proofs.Ytnnhklembdaieaa
namespace Go.Proofs.Ytnnhklembdaieaa
open Go.RowKit
set_option linter.unusedSimpArgs false
set_option linter.unusedVariables false

def refNewRes (o : Option SU) : Value := match o with | some s => .tuple #[superV s, .bool true] | none => .tuple #[superV SU.zero, .bool false]
/-- what is read of a slot, in three ways. -/
theorem slot_ways (k : Nat) (a : List UInt8) : ∃ (T : SU) (x : Bool), refRes a = .tuple #[superV T, .bool x] ∧ ((x = false ∧ slotS k a = none) ∨ (x = true ∧ T.gen % 2 ≠ k ∧ slotS k a = none) ∨ (x = true ∧ T.gen % 2 = k ∧ slotS k a = some T)) := by
  rcases h : readS a with _ | t
  · exact ⟨SU.zero, false, refRes_none h, .inl ⟨rfl, by unfold slotS; rw [h]⟩⟩
  · refine ⟨t, true, refRes_some h, ?_⟩
    by_cases ht : t.gen % 2 = k
    · exact .inr (.inr ⟨rfl, ht, by unfold slotS; rw [h]; simp [ht]⟩)
    · exact .inr (.inl ⟨rfl, ht, by unfold slotS; rw [h]; simp [ht]⟩)

set_option maxRecDepth 100000 in
set_option maxHeartbeats 3200000 in
theorem rnewest_ok (w : World) (base x : Nat) (lv av tv : Value) (S : DSt) (h : RefAt w base x lv av tv S) (h2 : 2 ≤ S.l.length) (a b : List UInt8) (ha : S.read 0 = a) (hb : S.read 1 = b) :
    Calls Try.prog 99 #[.pointer (some ⟨x, 0, none⟩)] w fun e w' => e = .returned (refNewRes (newestS a b)) ∧ Below w.heap.size w w' := by
  have la : a.length = 128 := by rw [← ha]; exact DSt.read_length h.ok (by omega)
  have lb : b.length = 128 := by rw [← hb]; exact DSt.read_length h.ok (by omega)
  have b0 : Below w.heap.size w (w.alloc (.cells #[.int .u64 0, .int .i64 0, .int .i64 0] 105)) := (Below.refl _ _).alloc (Nat.le_refl _) _
  have k2 := Blk.new w 105 #[.int .u64 0, .int .i64 0, .int .i64 0]
  have h1 := h.below b0 (Nat.le_refl _)
  have hr0 : ∀ w', RefAt w' base x lv av tv S → Calls Try.prog 33 #[.pointer (some ⟨x, 0, none⟩), .int .i64 0] w' fun e w'' => e = .returned (.tuple #[.string (bs a), .int .i64 0]) ∧ w' = w'' := fun w' h => by
    have := refRead_ok w' base x lv av tv S h 0 (by omega)
    rw [ha] at this; exact this
  have hr1 : ∀ w', RefAt w' base x lv av tv S → Calls Try.prog 33 #[.pointer (some ⟨x, 0, none⟩), .int .i64 1] w' fun e w'' => e = .returned (.tuple #[.string (bs b), .int .i64 0]) ∧ w' = w'' := fun w' h => by
    have := refRead_ok w' base x lv av tv S h 1 (by omega)
    rw [hb] at this; exact this
  have hA := fun w => rreadE a (by omega) w
  have hB := fun w => rreadE b (by omega) w
  obtain ⟨⟨ag, aa, al⟩, xa, e1, w1⟩ := slot_ways 0 a
  obtain ⟨⟨bg, ba, bl⟩, xb, e2, w2⟩ := slot_ways 1 b
  rw [e1] at hA
  rw [e2] at hB
  unfold superV at hA hB
  simp only at hA hB w1 w2
  have HW := hide (And.intro w1 w2)
  have HH := hide h1
  obtain ⟨N, hN⟩ : ∃ N, N = newestS a b := ⟨_, rfl⟩
  have HN := hide (show newestS a b = match slotS 0 a, slotS 1 b with | some x, some y => if x.gen < y.gen then some y else some x | some x, none => some x | none, o => o from rfl)
  clear ha hb e1 e2 w1 w2 la lb h h1 h2
  rw [← hN]
  have HNN := hide hN
  clear hN
  go_enter Try.func99, Try.ntmps99
  go_upto_region 1 with fail
  obtain ⟨v1, hv1⟩ : ∃ v1, v1 = w.alloc (.cells #[.int .u64 0, .int .i64 0, .int .i64 0] 105) := ⟨_, rfl⟩
  rw [← hv1] at b0 k2 HH ⊢
  clear hv1
  go_wp2_with fail
  refine (hr0 v1 HH.out).mono ?_
  rintro e w' ⟨rfl, rfl⟩
  go_wp2_with fail
  refine (hr1 v1 HH.out).mono ?_
  rintro e w' ⟨rfl, rfl⟩
  go_wp2_with fail
  refine (hA v1).mono ?_
  rintro e v2 ⟨rfl, b2⟩
  have k22 := (k2.below b2 k2.lt).alloc (.cells #[.int .u64 (ag : Int), .int .i64 aa, .int .i64 al] 105)
  have k82 := Blk.new v2 105 #[.int .u64 (ag : Int), .int .i64 aa, .int .i64 al]
  have b2' := (b0.trans (b2.mono b0.size)).alloc (by have := b0.size; have := b2.size; omega) (.cells #[.int .u64 (ag : Int), .int .i64 aa, .int .i64 al] 105)
  go_upto_region 4 with fail
  obtain ⟨v3, hv3⟩ : ∃ v3, v3 = v2.alloc (.cells #[.int .u64 (ag : Int), .int .i64 aa, .int .i64 al] 105) := ⟨_, rfl⟩
  obtain ⟨g8, hg8⟩ : ∃ g8, g8 = v2.heap.size := ⟨_, rfl⟩
  rw [← hv3] at k22 k82 b2' ⊢
  rw [← hg8] at k82 ⊢
  clear hv3 hg8 b2 k2 b0 hr0 hr1 hA
  go_wp2_with fail
  refine (hB v3).mono ?_
  rintro e v4 ⟨rfl, b4⟩
  have k24 := (k22.below b4 k22.lt).alloc (.cells #[.int .u64 (bg : Int), .int .i64 ba, .int .i64 bl] 105)
  have k84 := (k82.below b4 k82.lt).alloc (.cells #[.int .u64 (bg : Int), .int .i64 ba, .int .i64 bl] 105)
  have k10 := Blk.new v4 105 #[.int .u64 (bg : Int), .int .i64 ba, .int .i64 bl]
  have bx3 := (b2'.trans (b4.mono b2'.size)).alloc (by have := b2'.size; have := b4.size; omega) (.cells #[.int .u64 (bg : Int), .int .i64 ba, .int .i64 bl] 105)
  go_upto_region 5 with fail
  obtain ⟨v5, hv5⟩ : ∃ v5, v5 = v4.alloc (.cells #[.int .u64 (bg : Int), .int .i64 ba, .int .i64 bl] 105) := ⟨_, rfl⟩
  obtain ⟨g10, hg10⟩ : ∃ g10, g10 = v4.heap.size := ⟨_, rfl⟩
  rw [← hv5] at k24 k84 k10 bx3 ⊢
  rw [← hg10] at k10 ⊢
  clear hv5 hg10 b4 k22 k82 b2' hB
  have c0 := k84.cell 0
  have c1 := k84.cell 1
  have c2 := k84.cell 2
  have e0 := k10.cell 0
  have e1 := k10.cell 1
  have e2 := k10.cell 2
  have d0 := k24.cell 0
  have d1 := k24.cell 1
  have d2 := k24.cell 2
  have z0 := k24.frozen 0
  have z1 := k24.frozen 1
  have z2 := k24.frozen 2
  simp at c0 c1 c2 e0 e1 e2 d0 d1 d2
  clear k24 k84 k10
  obtain ⟨w1, w2⟩ := HW.out
  have key : (N = none ∧ (xa = false ∨ (xa = true ∧ ((ag : Int) % 2 == 0) = false)) ∧ (xb = false ∨ (xb = true ∧ ((bg : Int) % 2 == 1) = false))) ∨
      (N = some ⟨bg, ba, bl⟩ ∧ (xa = false ∨ (xa = true ∧ ((ag : Int) % 2 == 0) = false)) ∧ (xb = true ∧ ((bg : Int) % 2 == 1) = true)) ∨
      (N = some ⟨ag, aa, al⟩ ∧ (xa = true ∧ ((ag : Int) % 2 == 0) = true) ∧ (xb = false ∨ (xb = true ∧ ((bg : Int) % 2 == 1) = false))) ∨
      (N = some ⟨bg, ba, bl⟩ ∧ (xa = true ∧ ((ag : Int) % 2 == 0) = true) ∧ (xb = true ∧ ((bg : Int) % 2 == 1) = true) ∧ decide (bg < ag) = false) ∨
      (N = some ⟨ag, aa, al⟩ ∧ (xa = true ∧ ((ag : Int) % 2 == 0) = true) ∧ (xb = true ∧ ((bg : Int) % 2 == 1) = true) ∧ decide (bg < ag) = true) := by
    have hn := HNN.out.trans HN.out
    have t0 : ag % 2 = 0 → ((ag : Int) % 2 == 0) = true := fun h => by rw [beq_iff_eq]; omega
    have t1 : ag % 2 ≠ 0 → ((ag : Int) % 2 == 0) = false := fun h => by rw [beq_eq_false_iff_ne]; omega
    have u0 : bg % 2 = 1 → ((bg : Int) % 2 == 1) = true := fun h => by rw [beq_iff_eq]; omega
    have u1 : bg % 2 ≠ 1 → ((bg : Int) % 2 == 1) = false := fun h => by rw [beq_eq_false_iff_ne]; omega
    rcases w1 with ⟨h1, s1⟩ | ⟨h1, p1, s1⟩ | ⟨h1, p1, s1⟩ <;> rcases w2 with ⟨h2, s2⟩ | ⟨h2, p2, s2⟩ | ⟨h2, p2, s2⟩ <;> rw [s1, s2] at hn <;> simp only at hn
    · exact .inl ⟨hn, .inl h1, .inl h2⟩
    · exact .inl ⟨hn, .inl h1, .inr ⟨h2, u1 p2⟩⟩
    · exact .inr (.inl ⟨hn, .inl h1, h2, u0 p2⟩)
    · exact .inl ⟨hn, .inr ⟨h1, t1 p1⟩, .inl h2⟩
    · exact .inl ⟨hn, .inr ⟨h1, t1 p1⟩, .inr ⟨h2, u1 p2⟩⟩
    · exact .inr (.inl ⟨hn, .inr ⟨h1, t1 p1⟩, h2, u0 p2⟩)
    · exact .inr (.inr (.inl ⟨hn, ⟨h1, t0 p1⟩, .inl h2⟩))
    · exact .inr (.inr (.inl ⟨hn, ⟨h1, t0 p1⟩, .inr ⟨h2, u1 p2⟩⟩))
    · by_cases hg : ag < bg
      · rw [if_pos hg] at hn
        exact .inr (.inr (.inr (.inl ⟨hn, ⟨h1, t0 p1⟩, ⟨h2, u0 p2⟩, by simp; omega⟩)))
      · rw [if_neg hg] at hn
        exact .inr (.inr (.inr (.inr ⟨hn, ⟨h1, t0 p1⟩, ⟨h2, u0 p2⟩, by simp; omega⟩)))
  clear w1 w2 HN HNN HW HH
  have B3 : ∀ V0 V1 V2, Below w.heap.size w (((v5.setCell ⟨w.heap.size, 0, none⟩ V0).setCell ⟨w.heap.size, 1, none⟩ V1).setCell ⟨w.heap.size, 2, none⟩ V2) := fun V0 V1 V2 =>
    ((bx3.setCell (p := ⟨w.heap.size, 0, none⟩) (Nat.le_refl _) _).setCell (p := ⟨w.heap.size, 1, none⟩) (Nat.le_refl _) _).setCell (p := ⟨w.heap.size, 2, none⟩) (Nat.le_refl _) _
  have HB3 := hide B3
  clear B3 bx3
  have R1 : refNewRes none = .tuple #[superV SU.zero, .bool false] := rfl
  have R2 : ∀ s, refNewRes (some s) = .tuple #[superV s, .bool true] := fun _ => rfl
  rcases key with ⟨rfl, q1 | ⟨q1, q2⟩, q3 | ⟨q3, q4⟩⟩ | ⟨rfl, q1 | ⟨q1, q2⟩, q3, q4⟩ | ⟨rfl, ⟨q1, q2⟩, q3 | ⟨q3, q4⟩⟩ | ⟨rfl, ⟨q1, q2⟩, ⟨q3, q4⟩, q5⟩ | ⟨rfl, ⟨q1, q2⟩, ⟨q3, q4⟩, q5⟩
  all_goals
    subst q1 q3
    go_wp2
    first
    | exact bodyPost_ret (v := .tuple #[superV SU.zero, .bool false]) (by simp [results, Try.results99, go_sem, superV, SU.zero, d0, d1, d2]) rfl ⟨rfl, HB3.out _ _ _⟩
    | exact bodyPost_ret (v := .tuple #[superV ⟨bg, ba, bl⟩, .bool true]) (by simp [results, Try.results99, go_sem, superV, d0, d1, d2]) rfl ⟨rfl, HB3.out _ _ _⟩
    | exact bodyPost_ret (v := .tuple #[superV ⟨ag, aa, al⟩, .bool true]) (by simp [results, Try.results99, go_sem, superV, d0, d1, d2]) rfl ⟨rfl, HB3.out _ _ _⟩
end Go.Proofs.Ytnnhklembdaieaa
