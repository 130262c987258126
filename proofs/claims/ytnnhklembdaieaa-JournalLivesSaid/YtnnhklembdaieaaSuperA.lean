/- The super's small functions: Right, slot, put, get, bytes.Equal. -/
import Derived.Test.YtnnhklembdaieaaSuperL
import Derived.Test.YtnnhklembdaieaaAppZ
import Derived.Test.YtnnhklembdaieaaAreaE
import Derived.ArgAppend
namespace Go.Proofs.Ytnnhklembdaieaa
open Go.RowKit
set_option linter.unusedSimpArgs false
set_option linter.unusedVariables false

/-- a super as a value. -/
def superV (s : SU) : Value := .agg #[.int .u64 (s.gen : Int), .int .i64 s.area, .int .i64 s.len]
theorem own_base {w : World} {b b' : Nat} {e : TypeId} {size n : Nat} {v : Value} {xs : List Value} (h : w.ownsRow b e size v n xs) (hb : b' ≤ b) : w.ownsRow b' e size v n xs := by
  refine ⟨h.1, ?_⟩
  rcases h.2 with h2 | ⟨g, cap, cur, hv, hbg, r⟩
  · exact .inl h2
  · exact .inr ⟨g, cap, cur, hv, Nat.le_trans hb hbg, r⟩

set_option maxRecDepth 100000 in
set_option maxHeartbeats 1600000 in
theorem sRight_ok (s : SU) (w : World) : Calls Try.prog 76 #[superV s] w fun e w' => e = .returned (.bool s.right) ∧ Below w.heap.size w w' := by
  obtain ⟨g, a, l⟩ := s
  have hc : ((SU.mk g a l).right = false ∧ decide ((g : Int) ≥ 1) = false) ∨ ((SU.mk g a l).right = false ∧ decide ((g : Int) ≥ 1) = true ∧ decide ((g : Int) ≤ 1099511627776) = false) ∨
      (decide ((g : Int) ≥ 1) = true ∧ decide ((g : Int) ≤ 1099511627776) = true ∧ (((SU.mk g a l).right = false ∧ (a == 0) = false ∧ (a == 1) = false) ∨
        (((a == 0) = true ∨ ((a == 0) = false ∧ (a == 1) = true)) ∧ (((SU.mk g a l).right = false ∧ decide (l ≥ 0) = false) ∨ ((SU.mk g a l).right = false ∧ decide (l ≥ 0) = true ∧ decide (l ≤ 1048576) = false) ∨ ((SU.mk g a l).right = true ∧ decide (l ≥ 0) = true ∧ decide (l ≤ 1048576) = true))))) := by
    simp only [SU.right, decide_eq_true_eq, decide_eq_false_iff_not, beq_iff_eq, beq_eq_false_iff_ne]
    omega
  unfold superV
  simp only
  rcases hc with ⟨hr, h1⟩ | ⟨hr, h1, h2⟩ | ⟨h1, h2, ⟨hr, h3, h4⟩ | ⟨h3 | ⟨h3, h4⟩, ⟨hr, h5⟩ | ⟨hr, h5, h6⟩ | ⟨hr, h5, h6⟩⟩⟩
  all_goals
    rw [hr]
    clear hr
    go_enter Try.func76, Try.ntmps76
    go_wp2
    go_ret
    exact ⟨rfl, (Below.refl _ _).alloc (Nat.le_refl _) _⟩

theorem slot_ok (s : SU) (hg : s.gen < 18446744073709551616) (w : World) : Calls Try.prog 109 #[superV s] w fun e w' => e = .returned (.int .i64 ((s.gen % 2 : Nat) : Int)) ∧ Below w.heap.size w w' := by
  obtain ⟨g, a, l⟩ := s
  have h1 : ((g % 2 : Nat) : Int) = (g : Int) % 2 := by omega
  have h2 : (0 : Int) ≤ (g : Int) := by omega
  simp only at hg
  unfold superV
  simp only
  rw [h1]
  go_enter Try.func109, Try.ntmps109
  go_wp2
  go_ret
  exact ⟨rfl, (Below.refl _ _).alloc (Nat.le_refl _) _⟩

theorem equal_ok (A B : Option Addr) (n m c c' : Nat) (xs ys : List UInt8) (w : World) (hx : SlAt w A n (bvs xs)) (hy : SlAt w B m (bvs ys)) :
    Calls Try.prog 107 #[.slice A n c, .slice B m c'] w fun e w' => e = .returned (.bool (decide (xs = ys))) ∧ w = w' := by
  have h1 := run_str w A n c xs hx
  have h2 := run_str w B m c' ys hy
  have h3 : ((bs xs).toList == (bs ys).toList) = decide (xs = ys) := by rw [bs_toList, bs_toList]; by_cases h : xs = ys <;> simp [h]
  go_enter Try.func107, Try.ntmps107
  go_wp2
  go_ret
  exact ⟨by simp [bs_toList], rfl⟩

set_option maxRecDepth 100000 in
theorem get_num (A : Option Addr) (n c : Nat) (xs : List UInt8) (hn : n ≤ 8) (w : World) (hx : SlAt w A n (bvs xs)) :
    Calls Try.prog 106 #[.slice A n c] w fun e w' => e = .returned (.int .u64 (unbe xs : Nat)) ∧ w = w' := by
  have hlen : xs.length = n := by have := hx.1; rwa [bvs_length] at this
  have HL := hide hlen
  clear hlen
  go_enter Try.func106, Try.ntmps106
  go_wp2_with fail
  go_loopw [3, 8] (fun v i wr => ∃ k : Nat, k ≤ n ∧ i = .int .i64 k ∧ v = .int .u64 (unbe (xs.take k) : Nat) ∧ w = wr) (fun _ i _ => n - (intOf i).toNat)
  case atStart => exact ⟨0, by omega, rfl, rfl, rfl⟩
  case round =>
    obtain ⟨k, hk, rfl, rfl, rfl⟩ := hrel
    by_cases hlt : k < n
    · obtain ⟨g, o, rfl, hg, hr⟩ := hx.2 (by omega)
      have hkl : k < xs.length := by rw [HL.out]; exact hlt
      obtain ⟨x, hxk⟩ : ∃ x, x = xs[k] := ⟨_, rfl⟩
      have hc : w.cell? ⟨g, o + k, none⟩ = some (.int .u8 (x.toNat : Int)) := hr k _ (by rw [hxk]; simp [bvs, bv, hkl])
      obtain ⟨y, hy⟩ : ∃ y, y = unbe (xs.take k) := ⟨_, rfl⟩
      have hyl : y < 2 ^ 56 := by
        rw [hy]
        have := unbe_lt (xs.take k)
        rw [List.length_take, HL.out, Nat.min_eq_left (by omega)] at this
        exact Nat.lt_of_lt_of_le this (Nat.pow_le_pow_right (by omega) (by omega))
      have hsn : unbe (xs.take (k + 1)) = y * 256 + x.toNat := by rw [take_snoc _ _ hkl, unbe_snoc, hy, hxk]
      rw [← hy]
      have hx8 : x.toNat < 256 := x.toNat_lt
      have hor : bits .or .u64 ((y : Int) * 256) (x.toNat : Int) = ((y * 256 + x.toNat : Nat) : Int) := by
        have := u64_or_nat (y * 256) x.toNat (by omega) (by omega)
        rw [show y * 256 = 2 ^ 8 * y by omega] at this ⊢
        rw [← Nat.two_pow_add_eq_or_of_lt (by omega)] at this
        rw [← this]
        congr 1
        omega
      have HS := hide hsn
      have hk0 : (0 : Int) ≤ (k : Int) := by omega
      have hk1 : (k : Int) < (n : Int) := by omega
      clear hxk hsn hr hy
      go_wp2
      go_roundw
      case rel => exact ⟨k + 1, by omega, by go_num, by rw [HS.out]; congr 1, trivial⟩
      case measure => simp [intOf] <;> omega
    · obtain rfl : k = n := by omega
      rw [List.take_of_length_le (by rw [HL.out]; omega)]
      go_wp2
      go_ret
      exact ⟨rfl, rfl⟩

theorem be_byte (N : Nat) (e : Nat) : (N : Int) / 2 ^ e % 256 = ((UInt8.ofNat (N / 2 ^ e)).toNat : Int) := by
  rw [UInt8.toNat_ofNat']
  have : ((N : Int) / 2 ^ e) = ((N / 2 ^ e : Nat) : Int) := by simp
  rw [this]; omega
theorem be_snoc (xs : List UInt8) (size k N : Nat) : bvs (xs ++ beTo size k N) ++ [Value.int .u8 ((N : Int) / 2 ^ (8 * (size - 1 - k)) % 256)] = bvs (xs ++ beTo size (k + 1) N) := by
  rw [beTo_snoc, ← List.append_assoc, bvs_append (xs ++ beTo size k N), be_byte]; rfl

set_option maxRecDepth 100000 in
set_option maxHeartbeats 1600000 in
/-- onto a row of the call's own. -/
theorem sput_own (w : World) (base : Nat) (hbase : base ≤ w.heap.size) (v : Value) (n : Nat) (xs : List UInt8) (hown : w.ownsRow base 5 1 v n (bvs xs)) (hn : n ≤ 1000) (N size : Nat) (hN : N < 18446744073709551616) (hs1 : 1 ≤ size) (hs8 : size ≤ 8) :
    Calls Try.prog 105 #[v, .int .u64 (N : Int), .int .i64 (size : Int)] w fun e w' => ∃ v', e = .returned v' ∧ w'.ownsRow base 5 1 v' (n + size) (bvs (xs ++ beN size N)) ∧ Fr (fun k => v.ownBlock = some k) w w' ∧ (∀ k, v'.ownBlock = some k → v.ownBlock = some k ∨ w.heap.size ≤ k) := by
  obtain ⟨i0, hi0, hz0, hss0, hb0⟩ := info_parts info5'
  go_enter Try.func105, Try.ntmps105
  go_wp2_with fail
  go_loopw [0, 9] (fun vk i wr => ∃ k : Nat, k ≤ size ∧ i = .int .i64 k ∧ wr.ownsRow base 5 1 vk (n + k) (bvs (xs ++ beTo size k N)) ∧ Fr (fun k => v.ownBlock = some k) w wr ∧ (∀ k, vk.ownBlock = some k → v.ownBlock = some k ∨ w.heap.size ≤ k)) (fun _ i _ => size - (intOf i).toNat)
  case atStart => exact ⟨0, by omega, rfl, by simpa [beTo_zero] using hown, Fr.refl _ _, fun k hk => .inl hk⟩
  case round =>
    clear hown
    obtain ⟨k, hk, rfl, hown, hfr, how⟩ := hrel
    have HO := hide (And.intro hown (And.intro hfr how))
    clear hown hfr how
    by_cases hlt : k < size
    · have hk0 : (0 : Int) ≤ (k : Int) := by omega
      have hk1 : (k : Int) < (size : Int) := by omega
      have hk8 : (size : Int) ≤ 8 := by omega
      go_wp2_with (at_builtin; refine wpList_append_own_at _ rfl _ _ 28 rfl base 5 i0 _ 1 1 Try.underlying28 hi0 hz0 hss0 hb0 rfl (by omega) u0 (n + k) _ rfl (HO.out.1.alloc _) ⟨wr.heap.size, 0, none⟩ 1 1 [_] rfl rfl (cell_one_new _ _ _) (by simp [Value.oneCell']) (by unfold maxLen; omega) (by omega) ?_ ?_; (have := HO.out.2.1.size; simp; omega); intro v3 w3 hown3 hgrow3 _ hat3)
      rw [be_snoc] at hown3
      have f3 : Fr (fun k => v.ownBlock = some k) w w3 := (HO.out.2.1.alloc _).grown hgrow3 (fun j hj => HO.out.2.2 j hj)
      have h3 : ∀ j, v3.ownBlock = some j → v.ownBlock = some j ∨ w.heap.size ≤ j := fun j hj => by
        rcases hat3 with h1 | h1
        · exact HO.out.2.2 j (h1 ▸ hj)
        · rw [h1] at hj
          injection hj with hj
          right; have := HO.out.2.1.size; simp at hj; omega
      go_roundw
      case rel => exact ⟨k + 1, by omega, by go_num, hown3, f3, h3⟩
      case measure => simp [intOf]; omega
    · obtain rfl : k = size := by omega
      go_wp2
      go_ret
      exact ⟨_, rfl, HO.out.1, HO.out.2.1, HO.out.2.2⟩

set_option maxRecDepth 100000 in
set_option maxHeartbeats 1600000 in
/-- onto a slice that is full. -/
theorem sput_full (w : World) (A : Option Addr) (n : Nat) (xs : List UInt8) (hx : SlAt w A n (bvs xs)) (hn : n ≤ 1000) (hn0 : 0 < n) (N size : Nat) (hN : N < 18446744073709551616) (hs1 : 1 ≤ size) (hs8 : size ≤ 8) :
    Calls Try.prog 105 #[.slice A n n, .int .u64 (N : Int), .int .i64 (size : Int)] w fun e w' => ∃ v', e = .returned v' ∧ w'.ownsRow w.heap.size 5 1 v' (n + size) (bvs (xs ++ beN size N)) ∧ Below w.heap.size w w' := by
  obtain ⟨i0, hi0, hz0, hss0, hb0⟩ := info_parts info5'
  obtain ⟨gb, ob, rfl, hgb, hrb⟩ := hx.2 hn0
  have hxl : xs.length = n := by have := hx.1; rwa [bvs_length] at this
  have HXL := hide hxl
  clear hx hxl
  go_enter Try.func105, Try.ntmps105
  go_wp2_with fail
  go_loopw [0, 9] (fun vk i wr => ∃ k : Nat, k ≤ size ∧ i = .int .i64 k ∧ ((k = 0 ∧ vk = .slice (some ⟨gb, ob, none⟩) n n) ∨ wr.ownsRow w.heap.size 5 1 vk (n + k) (bvs (xs ++ beTo size k N))) ∧ Below w.heap.size w wr) (fun _ i _ => size - (intOf i).toNat)
  case atStart => exact ⟨0, by omega, rfl, .inl ⟨rfl, rfl⟩, Below.refl _ _⟩
  case round =>
    obtain ⟨k, hk, rfl, hor, hbel⟩ := hrel
    by_cases hlt : k < size
    · have hk0 : (0 : Int) ≤ (k : Int) := by omega
      have hk1 : (k : Int) < (size : Int) := by omega
      have hk8 : (size : Int) ≤ 8 := by omega
      rcases hor with ⟨rfl, rfl⟩ | hown
      · have HR := hide (fun (o : Obj) (b : Addr) (hb : some (⟨gb, ob, none⟩ : Addr) = some b) j u (hu : (bvs xs)[j]? = some u) => show (wr.alloc o).cell? (b.add j) = some u by
          injection hb with hb
          subst hb
          rw [Addr.add_mid, World.cell?_alloc_lt _ _ _ (Nat.lt_of_lt_of_le hgb hbel.size)]
          exact (hbel.cell (p := ⟨gb, ob + j, none⟩) hgb).trans (hrb j u hu))
        have hnl : (bvs xs).length = n * 1 := by rw [bvs_length, HXL.out, Nat.mul_one]
        have HNL := hide hnl
        clear hnl
        go_wp2_with (at_builtin; refine wpList_append_grows _ rfl _ _ 28 rfl 5 i0 _ 1 1 Try.underlying28 hi0 hz0 hss0 hb0 rfl (by omega) (some ⟨gb, ob, none⟩) n n (bvs xs) rfl (by simp) HNL.out (HR.out _) ⟨wr.heap.size, 0, none⟩ 1 1 [_] rfl rfl (cell_one_new _ _ _) (by simp [Value.oneCell']) (by omega) (by unfold maxLen; omega) (by omega) ?_; intro v3 w3 hown3 hgrow3)
        have e0 : bvs xs = bvs (xs ++ beTo size 0 N) := by rw [beTo_zero, List.append_nil]
        rw [e0] at hown3
        have hown4 : w3.ownsRow w.heap.size 5 1 v3 (n + 1) (bvs (xs ++ beTo size (0 + 1) N)) := by
          rw [← be_snoc]
          simpa using own_base hown3 (by have := hbel.size; simp; omega)
        have hb3 : Below w.heap.size w w3 := (hbel.alloc hbel.size _).grown hgrow3 (by have := hbel.size; simp; omega) (fun k hk => by cases hk)
        go_roundw
        case rel => exact ⟨1, by omega, by simp, .inr hown4, hb3⟩
        case measure => simp [intOf]; omega
      · have HO := hide hown
        clear hown
        go_wp2_with (at_builtin; refine wpList_append_own_at _ rfl _ _ 28 rfl w.heap.size 5 i0 _ 1 1 Try.underlying28 hi0 hz0 hss0 hb0 rfl (by omega) u0 (n + k) _ rfl (HO.out.alloc _) ⟨wr.heap.size, 0, none⟩ 1 1 [_] rfl rfl (cell_one_new _ _ _) (by simp [Value.oneCell']) (by unfold maxLen; omega) (by omega) ?_ ?_; (have := hbel.size; simp; omega); intro v3 w3 hown3 hgrow3 _ _)
        rw [be_snoc] at hown3
        have hb3 : Below w.heap.size w w3 := (hbel.alloc hbel.size _).grown hgrow3 (by have := hbel.size; simp; omega) (fun j hj => (HO.out.lt j hj).1)
        go_roundw
        case rel => exact ⟨k + 1, by omega, by go_num, .inr hown3, hb3⟩
        case measure => simp [intOf]; omega
    · obtain rfl : k = size := by omega
      rcases hor with ⟨rfl, _⟩ | hown
      · omega
      · have HO := hide hown
        clear hown
        go_wp2
        go_ret
        exact ⟨_, rfl, HO.out, hbel⟩
end Go.Proofs.Ytnnhklembdaieaa
