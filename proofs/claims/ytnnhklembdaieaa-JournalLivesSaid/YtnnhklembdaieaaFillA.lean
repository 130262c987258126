/- The statements' helper Fill: bytes, filled up with noughts. -/
import Derived.Test.YtnnhklembdaieaaDiskF
namespace Go.Proofs.Ytnnhklembdaieaa
open Go.RowKit
set_option linter.unusedSimpArgs false
set_option linter.unusedVariables false

theorem info5 : (Try.prog.info? 5).map (fun i => (i.zero, i.size, i.bytes)) = some (some (.int .u8 0), 1, 1) := by kernel_rfl

def pad (m : Nat) (xs : List UInt8) : List UInt8 := xs.take m ++ List.replicate (m - xs.length) 0
theorem pad_length (m : Nat) (xs : List UInt8) : (pad m xs).length = m := by unfold pad; simp; omega
theorem pad_at (m k : Nat) (xs : List UInt8) (h : k = m ∨ k = xs.length) (hm : k ≤ m) (hx : k ≤ xs.length) : xs.take k ++ List.replicate (m - k) 0 = pad m xs := by
  unfold pad
  rcases h with rfl | rfl
  · have : k - xs.length = 0 := by omega
    rw [this, Nat.sub_self]
  · rw [List.take_of_length_le (Nat.le_refl _), List.take_of_length_le hm]
theorem pad_step (m k : Nat) (xs : List UInt8) (hk : k < m) (hx : k < xs.length) : (bvs (xs.take k ++ List.replicate (m - k) 0)).set k (bv xs[k]) = bvs (xs.take (k + 1) ++ List.replicate (m - (k + 1)) 0) := by
  have e : m - k = (m - (k + 1)) + 1 := by omega
  rw [e, List.replicate_succ, take_snoc _ _ hx]
  simp only [bvs, List.map_append, List.map_cons, List.map_nil, List.append_assoc, List.cons_append, List.nil_append]
  rw [List.set_append_right _ _ (by simp; omega)]
  simp [Nat.min_eq_left (Nat.le_of_lt hx)]

/-- noughts, as cells. -/
def zcells (m : Nat) : List Value := bvs (List.replicate m 0)
theorem zcells_eq (m : Nat) : zcells m = bvs (List.replicate m 0) := rfl
theorem zcells_length (m : Nat) : (zcells m).length = m := by simp [zcells, bvs_length]
theorem mk_bytes (m : Nat) (mi : Int) (h : mi = (m : Int)) (hm : m ≤ 1000000000) (W : World) :
    (Instr.makeSlice 28 (.int .i64 mi) (.int .i64 mi)).run Try.prog W = .ok (.slice (some ⟨W.heap.size, 0, none⟩) m m) (W.alloc (.cells (zcells m).toArray 5)) := by
  subst h
  obtain ⟨i, hi, hz, hs, hb⟩ := info_parts info5
  have hr := run_make (P := Try.prog) W 28 5 i _ Try.underlying28 hi hz .i64 .i64 m m (by omega) (by omega) (by rw [hb]; omega) (by omega)
  have e : madeCells (Value.int .u8 0).cells (m * 1) = (List.replicate (m * 1) (Value.int .u8 0)).toArray := madeCells_replicate _ (.int .u8 0) 1 _ (by omega) rfl
  rw [hr, hs]
  simp only [Int.toNat_natCast]
  rw [e]
  simp [zcells, bvs, bv]

/-- the first k bytes, filled up. -/
def padTo (m k : Nat) (xs : List UInt8) : List UInt8 := xs.take k ++ List.replicate (m - k) 0
theorem padTo_zero (m : Nat) (xs : List UInt8) : bvs (padTo m 0 xs) = zcells m := by simp [padTo, zcells]
theorem padTo_length (m k : Nat) (xs : List UInt8) (h : k ≤ m) (hx : k ≤ xs.length) : (bvs (padTo m k xs)).length = m := by simp only [padTo, bvs_length, List.length_append, List.length_take, List.length_replicate]; omega

set_option maxRecDepth 100000 in
set_option maxHeartbeats 1600000 in
theorem fill_core (A : Option Addr) (n c : Nat) (extra : Int) (m : Nat) (xs : List UInt8) (w : World) (hx : SlAt w A n (bvs xs)) (hmk : (m = 128 ∧ extra ≤ 0) ∨ (m = 128 ∧ 0 < extra ∧ ¬ extra < 4) ∨ (m = 129 ∧ extra = 1) ∨ (m = 130 ∧ extra = 2) ∨ (m = 131 ∧ extra = 3)) (hn : n ≤ 9223372036854775807) :
    Calls Try.prog 23 #[.slice A n c, .int .i64 extra] w fun e w' => e = .returned (.slice (some ⟨w.heap.size, 0, none⟩) m m) ∧ Blk w' w.heap.size 5 (bvs (pad m xs)).toArray ∧ Below w.heap.size w w' := by
  have hxl : xs.length = n := by have := hx.1; rwa [bvs_length] at this
  have HXL := hide hxl
  have hx2 := hx.2
  clear hxl hx
  have HM := hide hmk
  rcases hmk with ⟨rfl, h1⟩ | ⟨rfl, h1, h2⟩ | ⟨rfl, rfl⟩ | ⟨rfl, rfl⟩ | ⟨rfl, rfl⟩
  · have hmk2 := mk_bytes 128 128 (by rfl) (by omega)
    go_enter Try.func23, Try.ntmps23
    go_wp2
    clear hmk2
    have hb0 := Blk.new w 5 (zcells 128).toArray
    have hbel0 : Below w.heap.size w (w.alloc (.cells (zcells 128).toArray 5)) := (Below.refl _ _).alloc (Nat.le_refl _) _
    obtain ⟨w1, hw1⟩ : ∃ w1, w1 = w.alloc (.cells (zcells 128).toArray 5) := ⟨_, rfl⟩
    rw [← hw1] at hb0 hbel0 ⊢
    clear hw1
    go_loopw [7] (fun v wr => ∃ k : Nat, k ≤ 128 ∧ k ≤ n ∧ v = .int .i64 k ∧ Blk wr w.heap.size 5 (bvs (padTo 128 k xs)).toArray ∧ Below w.heap.size w wr) (fun v _ => 128 - (intOf v).toNat)
    case atStart => exact ⟨0, by omega, by omega, rfl, by rw [padTo_zero]; exact hb0, hbel0⟩
    case round =>
      obtain ⟨k, hk, hkn, rfl, hblk, hbel⟩ := hrel
      by_cases hlt : k < 128 ∧ k < n
      · obtain ⟨hlt1, hlt2⟩ := hlt
        obtain ⟨gb, ob, rfl, hgl, hgr⟩ := hx2 (by omega)
        have hxk : k < xs.length := by rw [HXL.out]; exact hlt2
        have hc : wr.cell? ⟨gb, ob + k, none⟩ = some (bv xs[k]) := (hbel.cell (p := ⟨gb, ob + k, none⟩) hgl).trans (hgr k _ (by rw [bvs, List.getElem?_map, List.getElem?_eq_getElem hxk]; rfl))
        have hlen : (bvs (padTo 128 k xs)).length = 128 := padTo_length _ _ _ hk (by rw [HXL.out]; exact hkn)
        have hd : ∃ u, wr.cell? ⟨w.heap.size, k, none⟩ = some u := ⟨_, by rw [hblk.cell, Array.getElem?_eq_getElem (by simp only [List.size_toArray]; omega)]⟩
        obtain ⟨u, hd⟩ := hd
        have hf := hblk.frozen k
        have hset := hblk.set_ k (bv xs[k])
        simp only [List.setIfInBounds_toArray] at hset
        unfold padTo at hset
        rw [pad_step 128 k xs hlt1 hxk] at hset
        have hbel2 : Below w.heap.size w (wr.setCell ⟨w.heap.size, k, none⟩ (bv xs[k])) := hbel.setCell (p := ⟨w.heap.size, k, none⟩) (Nat.le_refl _) _
        have HS := hide hset
        have HB2 := hide hbel2
        clear hset hbel2 hgr hlen hblk
        unfold bv at hc HS HB2
        go_wp2
        go_roundw
        case rel => exact ⟨k + 1, by omega, by omega, by go_num, HS.out, HB2.out⟩
        case measure => simp [intOf]; omega
      · have hor : k = 128 ∨ k = n := by omega
        have hp := pad_at 128 k xs (by rw [HXL.out]; exact hor) hk (by rw [HXL.out]; exact hkn)
        unfold padTo at hblk
        rw [hp] at hblk
        clear hp
        by_cases hl1 : k < 128
        · have hl2 : ¬ k < n := by omega
          go_wp2
          go_ret
          exact ⟨rfl, hblk, hbel⟩
        · go_wp2
          go_ret
          exact ⟨rfl, hblk, hbel⟩
  · have hmk2 := mk_bytes 128 128 (by rfl) (by omega)
    go_enter Try.func23, Try.ntmps23
    go_wp2
    clear hmk2
    have hb0 := Blk.new w 5 (zcells 128).toArray
    have hbel0 : Below w.heap.size w (w.alloc (.cells (zcells 128).toArray 5)) := (Below.refl _ _).alloc (Nat.le_refl _) _
    obtain ⟨w1, hw1⟩ : ∃ w1, w1 = w.alloc (.cells (zcells 128).toArray 5) := ⟨_, rfl⟩
    rw [← hw1] at hb0 hbel0 ⊢
    clear hw1
    go_loopw [7] (fun v wr => ∃ k : Nat, k ≤ 128 ∧ k ≤ n ∧ v = .int .i64 k ∧ Blk wr w.heap.size 5 (bvs (padTo 128 k xs)).toArray ∧ Below w.heap.size w wr) (fun v _ => 128 - (intOf v).toNat)
    case atStart => exact ⟨0, by omega, by omega, rfl, by rw [padTo_zero]; exact hb0, hbel0⟩
    case round =>
      obtain ⟨k, hk, hkn, rfl, hblk, hbel⟩ := hrel
      by_cases hlt : k < 128 ∧ k < n
      · obtain ⟨hlt1, hlt2⟩ := hlt
        obtain ⟨gb, ob, rfl, hgl, hgr⟩ := hx2 (by omega)
        have hxk : k < xs.length := by rw [HXL.out]; exact hlt2
        have hc : wr.cell? ⟨gb, ob + k, none⟩ = some (bv xs[k]) := (hbel.cell (p := ⟨gb, ob + k, none⟩) hgl).trans (hgr k _ (by rw [bvs, List.getElem?_map, List.getElem?_eq_getElem hxk]; rfl))
        have hlen : (bvs (padTo 128 k xs)).length = 128 := padTo_length _ _ _ hk (by rw [HXL.out]; exact hkn)
        have hd : ∃ u, wr.cell? ⟨w.heap.size, k, none⟩ = some u := ⟨_, by rw [hblk.cell, Array.getElem?_eq_getElem (by simp only [List.size_toArray]; omega)]⟩
        obtain ⟨u, hd⟩ := hd
        have hf := hblk.frozen k
        have hset := hblk.set_ k (bv xs[k])
        simp only [List.setIfInBounds_toArray] at hset
        unfold padTo at hset
        rw [pad_step 128 k xs hlt1 hxk] at hset
        have hbel2 : Below w.heap.size w (wr.setCell ⟨w.heap.size, k, none⟩ (bv xs[k])) := hbel.setCell (p := ⟨w.heap.size, k, none⟩) (Nat.le_refl _) _
        have HS := hide hset
        have HB2 := hide hbel2
        clear hset hbel2 hgr hlen hblk
        unfold bv at hc HS HB2
        go_wp2
        go_roundw
        case rel => exact ⟨k + 1, by omega, by omega, by go_num, HS.out, HB2.out⟩
        case measure => simp [intOf]; omega
      · have hor : k = 128 ∨ k = n := by omega
        have hp := pad_at 128 k xs (by rw [HXL.out]; exact hor) hk (by rw [HXL.out]; exact hkn)
        unfold padTo at hblk
        rw [hp] at hblk
        clear hp
        by_cases hl1 : k < 128
        · have hl2 : ¬ k < n := by omega
          go_wp2
          go_ret
          exact ⟨rfl, hblk, hbel⟩
        · go_wp2
          go_ret
          exact ⟨rfl, hblk, hbel⟩
  · have hmk2 := mk_bytes 129 129 (by rfl) (by omega)
    go_enter Try.func23, Try.ntmps23
    go_wp2
    clear hmk2
    have hb0 := Blk.new w 5 (zcells 129).toArray
    have hbel0 : Below w.heap.size w (w.alloc (.cells (zcells 129).toArray 5)) := (Below.refl _ _).alloc (Nat.le_refl _) _
    obtain ⟨w1, hw1⟩ : ∃ w1, w1 = w.alloc (.cells (zcells 129).toArray 5) := ⟨_, rfl⟩
    rw [← hw1] at hb0 hbel0 ⊢
    clear hw1
    go_loopw [7] (fun v wr => ∃ k : Nat, k ≤ 129 ∧ k ≤ n ∧ v = .int .i64 k ∧ Blk wr w.heap.size 5 (bvs (padTo 129 k xs)).toArray ∧ Below w.heap.size w wr) (fun v _ => 129 - (intOf v).toNat)
    case atStart => exact ⟨0, by omega, by omega, rfl, by rw [padTo_zero]; exact hb0, hbel0⟩
    case round =>
      obtain ⟨k, hk, hkn, rfl, hblk, hbel⟩ := hrel
      by_cases hlt : k < 129 ∧ k < n
      · obtain ⟨hlt1, hlt2⟩ := hlt
        obtain ⟨gb, ob, rfl, hgl, hgr⟩ := hx2 (by omega)
        have hxk : k < xs.length := by rw [HXL.out]; exact hlt2
        have hc : wr.cell? ⟨gb, ob + k, none⟩ = some (bv xs[k]) := (hbel.cell (p := ⟨gb, ob + k, none⟩) hgl).trans (hgr k _ (by rw [bvs, List.getElem?_map, List.getElem?_eq_getElem hxk]; rfl))
        have hlen : (bvs (padTo 129 k xs)).length = 129 := padTo_length _ _ _ hk (by rw [HXL.out]; exact hkn)
        have hd : ∃ u, wr.cell? ⟨w.heap.size, k, none⟩ = some u := ⟨_, by rw [hblk.cell, Array.getElem?_eq_getElem (by simp only [List.size_toArray]; omega)]⟩
        obtain ⟨u, hd⟩ := hd
        have hf := hblk.frozen k
        have hset := hblk.set_ k (bv xs[k])
        simp only [List.setIfInBounds_toArray] at hset
        unfold padTo at hset
        rw [pad_step 129 k xs hlt1 hxk] at hset
        have hbel2 : Below w.heap.size w (wr.setCell ⟨w.heap.size, k, none⟩ (bv xs[k])) := hbel.setCell (p := ⟨w.heap.size, k, none⟩) (Nat.le_refl _) _
        have HS := hide hset
        have HB2 := hide hbel2
        clear hset hbel2 hgr hlen hblk
        unfold bv at hc HS HB2
        go_wp2
        go_roundw
        case rel => exact ⟨k + 1, by omega, by omega, by go_num, HS.out, HB2.out⟩
        case measure => simp [intOf]; omega
      · have hor : k = 129 ∨ k = n := by omega
        have hp := pad_at 129 k xs (by rw [HXL.out]; exact hor) hk (by rw [HXL.out]; exact hkn)
        unfold padTo at hblk
        rw [hp] at hblk
        clear hp
        by_cases hl1 : k < 129
        · have hl2 : ¬ k < n := by omega
          go_wp2
          go_ret
          exact ⟨rfl, hblk, hbel⟩
        · go_wp2
          go_ret
          exact ⟨rfl, hblk, hbel⟩
  · have hmk2 := mk_bytes 130 130 (by rfl) (by omega)
    go_enter Try.func23, Try.ntmps23
    go_wp2
    clear hmk2
    have hb0 := Blk.new w 5 (zcells 130).toArray
    have hbel0 : Below w.heap.size w (w.alloc (.cells (zcells 130).toArray 5)) := (Below.refl _ _).alloc (Nat.le_refl _) _
    obtain ⟨w1, hw1⟩ : ∃ w1, w1 = w.alloc (.cells (zcells 130).toArray 5) := ⟨_, rfl⟩
    rw [← hw1] at hb0 hbel0 ⊢
    clear hw1
    go_loopw [7] (fun v wr => ∃ k : Nat, k ≤ 130 ∧ k ≤ n ∧ v = .int .i64 k ∧ Blk wr w.heap.size 5 (bvs (padTo 130 k xs)).toArray ∧ Below w.heap.size w wr) (fun v _ => 130 - (intOf v).toNat)
    case atStart => exact ⟨0, by omega, by omega, rfl, by rw [padTo_zero]; exact hb0, hbel0⟩
    case round =>
      obtain ⟨k, hk, hkn, rfl, hblk, hbel⟩ := hrel
      by_cases hlt : k < 130 ∧ k < n
      · obtain ⟨hlt1, hlt2⟩ := hlt
        obtain ⟨gb, ob, rfl, hgl, hgr⟩ := hx2 (by omega)
        have hxk : k < xs.length := by rw [HXL.out]; exact hlt2
        have hc : wr.cell? ⟨gb, ob + k, none⟩ = some (bv xs[k]) := (hbel.cell (p := ⟨gb, ob + k, none⟩) hgl).trans (hgr k _ (by rw [bvs, List.getElem?_map, List.getElem?_eq_getElem hxk]; rfl))
        have hlen : (bvs (padTo 130 k xs)).length = 130 := padTo_length _ _ _ hk (by rw [HXL.out]; exact hkn)
        have hd : ∃ u, wr.cell? ⟨w.heap.size, k, none⟩ = some u := ⟨_, by rw [hblk.cell, Array.getElem?_eq_getElem (by simp only [List.size_toArray]; omega)]⟩
        obtain ⟨u, hd⟩ := hd
        have hf := hblk.frozen k
        have hset := hblk.set_ k (bv xs[k])
        simp only [List.setIfInBounds_toArray] at hset
        unfold padTo at hset
        rw [pad_step 130 k xs hlt1 hxk] at hset
        have hbel2 : Below w.heap.size w (wr.setCell ⟨w.heap.size, k, none⟩ (bv xs[k])) := hbel.setCell (p := ⟨w.heap.size, k, none⟩) (Nat.le_refl _) _
        have HS := hide hset
        have HB2 := hide hbel2
        clear hset hbel2 hgr hlen hblk
        unfold bv at hc HS HB2
        go_wp2
        go_roundw
        case rel => exact ⟨k + 1, by omega, by omega, by go_num, HS.out, HB2.out⟩
        case measure => simp [intOf]; omega
      · have hor : k = 130 ∨ k = n := by omega
        have hp := pad_at 130 k xs (by rw [HXL.out]; exact hor) hk (by rw [HXL.out]; exact hkn)
        unfold padTo at hblk
        rw [hp] at hblk
        clear hp
        by_cases hl1 : k < 130
        · have hl2 : ¬ k < n := by omega
          go_wp2
          go_ret
          exact ⟨rfl, hblk, hbel⟩
        · go_wp2
          go_ret
          exact ⟨rfl, hblk, hbel⟩
  · have hmk2 := mk_bytes 131 131 (by rfl) (by omega)
    go_enter Try.func23, Try.ntmps23
    go_wp2
    clear hmk2
    have hb0 := Blk.new w 5 (zcells 131).toArray
    have hbel0 : Below w.heap.size w (w.alloc (.cells (zcells 131).toArray 5)) := (Below.refl _ _).alloc (Nat.le_refl _) _
    obtain ⟨w1, hw1⟩ : ∃ w1, w1 = w.alloc (.cells (zcells 131).toArray 5) := ⟨_, rfl⟩
    rw [← hw1] at hb0 hbel0 ⊢
    clear hw1
    go_loopw [7] (fun v wr => ∃ k : Nat, k ≤ 131 ∧ k ≤ n ∧ v = .int .i64 k ∧ Blk wr w.heap.size 5 (bvs (padTo 131 k xs)).toArray ∧ Below w.heap.size w wr) (fun v _ => 131 - (intOf v).toNat)
    case atStart => exact ⟨0, by omega, by omega, rfl, by rw [padTo_zero]; exact hb0, hbel0⟩
    case round =>
      obtain ⟨k, hk, hkn, rfl, hblk, hbel⟩ := hrel
      by_cases hlt : k < 131 ∧ k < n
      · obtain ⟨hlt1, hlt2⟩ := hlt
        obtain ⟨gb, ob, rfl, hgl, hgr⟩ := hx2 (by omega)
        have hxk : k < xs.length := by rw [HXL.out]; exact hlt2
        have hc : wr.cell? ⟨gb, ob + k, none⟩ = some (bv xs[k]) := (hbel.cell (p := ⟨gb, ob + k, none⟩) hgl).trans (hgr k _ (by rw [bvs, List.getElem?_map, List.getElem?_eq_getElem hxk]; rfl))
        have hlen : (bvs (padTo 131 k xs)).length = 131 := padTo_length _ _ _ hk (by rw [HXL.out]; exact hkn)
        have hd : ∃ u, wr.cell? ⟨w.heap.size, k, none⟩ = some u := ⟨_, by rw [hblk.cell, Array.getElem?_eq_getElem (by simp only [List.size_toArray]; omega)]⟩
        obtain ⟨u, hd⟩ := hd
        have hf := hblk.frozen k
        have hset := hblk.set_ k (bv xs[k])
        simp only [List.setIfInBounds_toArray] at hset
        unfold padTo at hset
        rw [pad_step 131 k xs hlt1 hxk] at hset
        have hbel2 : Below w.heap.size w (wr.setCell ⟨w.heap.size, k, none⟩ (bv xs[k])) := hbel.setCell (p := ⟨w.heap.size, k, none⟩) (Nat.le_refl _) _
        have HS := hide hset
        have HB2 := hide hbel2
        clear hset hbel2 hgr hlen hblk
        unfold bv at hc HS HB2
        go_wp2
        go_roundw
        case rel => exact ⟨k + 1, by omega, by omega, by go_num, HS.out, HB2.out⟩
        case measure => simp [intOf]; omega
      · have hor : k = 131 ∨ k = n := by omega
        have hp := pad_at 131 k xs (by rw [HXL.out]; exact hor) hk (by rw [HXL.out]; exact hkn)
        unfold padTo at hblk
        rw [hp] at hblk
        clear hp
        by_cases hl1 : k < 131
        · have hl2 : ¬ k < n := by omega
          go_wp2
          go_ret
          exact ⟨rfl, hblk, hbel⟩
        · go_wp2
          go_ret
          exact ⟨rfl, hblk, hbel⟩

/-- how many bytes. -/
def fillN (extra : Int) : Nat := if 0 < extra ∧ extra < 4 then (128 + extra).toNat else 128
theorem fill_any (A : Option Addr) (n c : Nat) (extra : Int) (xs : List UInt8) (w : World) (hx : SlAt w A n (bvs xs)) (hn : n ≤ 9223372036854775807) :
    Calls Try.prog 23 #[.slice A n c, .int .i64 extra] w fun e w' => e = .returned (.slice (some ⟨w.heap.size, 0, none⟩) (fillN extra) (fillN extra)) ∧ Blk w' w.heap.size 5 (bvs (pad (fillN extra) xs)).toArray ∧ Below w.heap.size w w' := by
  refine fill_core A n c extra (fillN extra) xs w hx ?_ hn
  unfold fillN
  split
  · rename_i h
    have : extra = 1 ∨ extra = 2 ∨ extra = 3 := by omega
    rcases this with rfl | rfl | rfl
    · exact .inr (.inr (.inl ⟨rfl, rfl⟩))
    · exact .inr (.inr (.inr (.inl ⟨rfl, rfl⟩)))
    · exact .inr (.inr (.inr (.inr ⟨rfl, rfl⟩)))
  · omega
end Go.Proofs.Ytnnhklembdaieaa
