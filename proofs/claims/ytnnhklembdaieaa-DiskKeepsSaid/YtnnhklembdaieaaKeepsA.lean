/- DiskKeeps: what all sectors say. -/
import Derived.Test.YtnnhklembdaieaaLastW
namespace Go.Proofs.Ytnnhklembdaieaa
open Go.RowKit
set_option linter.unusedSimpArgs false
set_option linter.unusedVariables false

theorem bs_append (a b : List UInt8) : bs a ++ bs b = bs (a ++ b) := by
  simp [bs, ByteArray.ext_iff]
/-- what the first k say. -/
def firstOf (s : DSt) (k : Nat) : List UInt8 := (List.range k).flatMap s.read
theorem firstOf_succ (s : DSt) (k : Nat) : firstOf s (k + 1) = firstOf s k ++ s.read k := by
  simp [firstOf, List.range_succ]
theorem firstOf_length {s : DSt} (h : s.Ok) (k : Nat) (hk : k ≤ s.l.length) : (firstOf s k).length = k * 128 := by
  induction k with
  | zero => rfl
  | succ k ih => rw [firstOf_succ, List.length_append, ih (by omega), DSt.read_length h (by omega)]; omega
/-- what all eight say. -/
def allOf (s : DSt) : List UInt8 := firstOf s 8

set_option maxRecDepth 100000 in
set_option maxHeartbeats 800000 in
theorem all_ok (w : World) (base d bl : Nat) (wv : Value) (s : DSt) (h : DiskAt w base d bl wv s) (hn : s.l.length = 8) :
    Calls Try.prog 37 #[.pointer (some ⟨d, 0, none⟩)] w fun e w' => e = .returned (.string (bs (allOf s))) ∧ Below w.heap.size w w' := by
  have hb0 : (bs [] : ByteArray) = ⟨#[]⟩ := rfl
  go_enter Try.func37, Try.ntmps37
  go_wp2_with fail
  go_loopw [3, 4] (fun t i wr => ∃ k : Nat, k ≤ 8 ∧ i = .int .i64 k ∧ t = .string (bs (firstOf s k)) ∧ DiskAt wr base d bl wv s ∧ Below w.heap.size w wr) (fun _ i _ => 8 - (intOf i).toNat)
  case atStart => exact ⟨0, by omega, rfl, rfl, h, Below.refl _ _⟩
  case round =>
    obtain ⟨k, hk, rfl, rfl, hd, hb⟩ := hrel
    have hc0 := hd.hd.cell 0
    simp at hc0
    rw [hn] at hc0
    have HD := hide hd
    clear hd
    by_cases hlt : k < 8
    · have hk8 : k < s.l.length := by omega
      go_wp2_with (go_at_call 28; refine (sectors_any _ _ _ _ _ hc0).mono ?_; rintro e w' ⟨rfl, rfl⟩)
      refine (readE _ _ _ _ _ _ HD.out k hk8).mono ?_
      rintro e w4 ⟨g4, rfl, hg4, k4, hD4, n4, b4⟩
      have hst := run_str w4 (some ⟨g4, 0, none⟩) 128 128 (s.read k) (SlAt.ofBlk k4 (by rw [bvs_length]; exact DSt.read_length HD.out.ok hk8))
      have H4 := hide hD4
      have z1 : (bs (firstOf s k)).size = k * 128 := by rw [bs_size, firstOf_length HD.out.ok k (by omega)]
      have z2 : (bs (s.read k)).size = 128 := by rw [bs_size, DSt.read_length HD.out.ok hk8]
      clear k4 hD4
      go_wp2_with fail
      · go_roundw
        case rel => exact ⟨k + 1, by omega, by go_num, by rw [bs_append, firstOf_succ], H4.out, hb.trans (b4.mono hb.size)⟩
        case measure => simp [intOf]; omega
    · obtain rfl : k = 8 := by omega
      go_wp2_with (go_at_call 28; refine (sectors_any _ _ _ _ _ hc0).mono ?_; rintro e w' ⟨rfl, rfl⟩)
      go_ret
      exact ⟨rfl, hb⟩

theorem bs_extract (l : List UInt8) (a b : Nat) : (bs l).extract a b = bs ((l.drop a).take (b - a)) := by
  apply ByteArray.ext
  simp only [ByteArray.data_extract, bs]
  apply Array.ext'
  simp [Array.toList_extract, List.extract]
theorem part_of {s : DSt} (h : s.Ok) (hn : s.l.length = 8) (i : Nat) (hi : i < 8) : (bs (allOf s)).extract (128 * i) (128 * i + 128) = bs (s.read i) := by
  rw [bs_extract, show 128 * i + 128 - 128 * i = 128 by omega]
  congr 1
  have := flat_at (fun k => bvs (s.read k)) 128 (List.range 8) (fun x hx => by rw [bvs_length]; exact DSt.read_length h (by rw [hn]; exact List.mem_range.1 hx)) i (by simpa using hi)
  simp only [List.getElem_range] at this
  have e : (List.range 8).flatMap (fun k => bvs (s.read k)) = bvs (allOf s) := by
    simp only [bvs, allOf, firstOf, List.map_flatMap]
  rw [e] at this
  have inj : ∀ a b : List UInt8, bvs a = bvs b → a = b := by
    intro a b hab
    refine List.map_inj_right (f := bv) ?_ |>.1 hab
    intro x y hxy
    simp only [bv, Value.int.injEq, true_and] at hxy
    exact UInt8.toNat_inj.1 (by omega)
  refine inj _ _ ?_
  rw [← this]
  simp only [bvs, List.map_take, List.map_drop]
  rw [Nat.mul_comm]

/-- behind a crash each sector has what it had, or what some write that waited said. -/
theorem keep_or (ks : List Bool) (i : Nat) : ∀ (ws : List (Nat × List UInt8)) (l : List (List UInt8)), i < l.length → (∀ p ∈ ws, p.1 < l.length) →
    (doneKeep l ws ks).getD i [] = l.getD i [] ∨ ∃ p ∈ ws, p.1 = i ∧ p.2 = (doneKeep l ws ks).getD i [] := by
  intro ws
  obtain ⟨r, rfl⟩ : ∃ r : List (Nat × List UInt8), ws = r.reverse := ⟨ws.reverse, by simp⟩
  induction r with
  | nil => intro l _ _; exact .inl rfl
  | cons p r ih =>
    intro l hi hw
    rw [List.reverse_cons] at hw ⊢
    obtain ⟨ws, hws⟩ : ∃ ws, ws = r.reverse := ⟨_, rfl⟩
    rw [← hws] at hw ih ⊢
    have ih' := ih l hi (fun q hq => hw q (by simp [hq]))
    rw [doneKeep_snoc]
    split
    · by_cases hp : p.1 = i
      · right
        refine ⟨p, by simp, hp, ?_⟩
        have : i < (doneKeep l ws ks).length := by rw [doneKeep_length]; exact hi
        rw [List.getD_eq_getElem?_getD, hp, List.getElem?_set_self this]; rfl
      · have e : ((doneKeep l ws ks).set p.1 p.2).getD i [] = (doneKeep l ws ks).getD i [] := by
          rw [List.getD_eq_getElem?_getD, List.getD_eq_getElem?_getD, List.getElem?_set_ne hp]
        rw [e]
        rcases ih' with h | ⟨q, h1, h2, h3⟩
        · exact .inl h
        · exact .inr ⟨q, by simp [h1], h2, h3⟩
    · rcases ih' with h | ⟨q, h1, h2, h3⟩
      · exact .inl h
      · exact .inr ⟨q, by simp [h1], h2, h3⟩
end Go.Proofs.Ytnnhklembdaieaa
