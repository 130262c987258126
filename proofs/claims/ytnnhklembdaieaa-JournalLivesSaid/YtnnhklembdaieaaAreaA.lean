/- The area's small functions: Right, Room, Halves, ask. -/
import Derived.Test.YtnnhklembdaieaaAreaL
import Derived.ScopeJumps
import Derived.WalkMore
import Derived.Deep.CutRange
import Derived.Deep.CutBlock
import Derived.Deep.DeepCutAuto
namespace Go.Proofs.Ytnnhklembdaieaa
open Go.RowKit
set_option linter.unusedSimpArgs false
set_option linter.unusedVariables false

/-- a disk's pointer, of so many sectors, now and later. -/
def SecOf (dp : Value) (n : Nat) (w : World) : Prop := ∀ w', Below w.heap.size w w' → Calls Try.prog 28 #[dp] w' fun e w'' => e = .returned (.int .i64 (n : Int)) ∧ w' = w''
theorem secNil (w : World) : SecOf (.pointer none) 0 w := fun w' _ => sectors_nil w'
theorem secDisk {w : World} {base d bl : Nat} {wv : Value} {s : DSt} (h : DiskAt w base d bl wv s) : SecOf (.pointer (some ⟨d, 0, none⟩)) s.l.length w := fun w' hb =>
  sectors_any d _ _ _ w' (by have := (h.hd.below hb h.hd.lt).cell 0; simpa using this)
theorem SecOf.later {dp : Value} {n : Nat} {w w' : World} (h : SecOf dp n w) (hb : Below w.heap.size w w') : SecOf dp n w' := fun w2 h2 => h w2 (hb.trans (h2.mono hb.size))

def arV (f c : Int) : Value := .agg #[.int .i64 f, .int .i64 c]
/-- may an area be? -/
def rightA (n : Nat) (f c : Int) : Bool := decide (2 ≤ f ∧ f < n ∧ 1 ≤ c ∧ c ≤ n - f)

set_option maxRecDepth 100000 in
set_option maxHeartbeats 800000 in
theorem right_ok (dp : Value) (n : Nat) (hn : n ≤ 4096) (f c : Int) (w : World) (hs : SecOf dp n w) (hf : -9223372036854775808 ≤ f ∧ f ≤ 9223372036854775807) :
    Calls Try.prog 69 #[dp, .agg #[.int .i64 f, .int .i64 c]] w fun e w' => e = .returned (.bool (rightA n f c)) ∧ Below w.heap.size w w' := by
  have hs1 := hs (w.alloc (.cells #[.int .i64 f, .int .i64 c] 113)) ((Below.refl _ _).alloc (Nat.le_refl _) _)
  clear hs
  have hc : (rightA n f c = false ∧ decide (f ≥ 2) = false) ∨ (rightA n f c = false ∧ 2 ≤ f ∧ decide (f ≥ 2) = true ∧ decide (f < (n : Int)) = false) ∨
      (rightA n f c = false ∧ 2 ≤ f ∧ f < n ∧ decide (f ≥ 2) = true ∧ decide (f < (n : Int)) = true ∧ decide (c ≥ 1) = false) ∨
      (2 ≤ f ∧ f < n ∧ 1 ≤ c ∧ decide (f ≥ 2) = true ∧ decide (f < (n : Int)) = true ∧ decide (c ≥ 1) = true ∧ decide (c ≤ (n : Int) - f) = rightA n f c) := by
    unfold rightA
    by_cases h1 : 2 ≤ f
    · by_cases h2 : f < n
      · by_cases h3 : 1 ≤ c
        · right; right; right
          simp [h1, h2, h3]
        · right; right; left
          simp [h1, h2]; omega
      · right; left
        simp [h1]; omega
    · left
      simp; omega
  rcases hc with ⟨hr, h1⟩ | ⟨hr, h0, h1, h2⟩ | ⟨hr, h0, h00, h1, h2, h3⟩ | ⟨h0, h00, h000, h1, h2, h3, h4⟩
  all_goals try rw [hr]
  all_goals
    go_enter Try.func69, Try.ntmps69
    go_wp2_with (go_at_call 28; refine hs1.mono ?_; rintro e w' ⟨rfl, rfl⟩)
    go_ret
    exact ⟨rfl, (Below.refl _ _).alloc (Nat.le_refl _) _⟩

/-- how many bytes an area has. -/
def roomA (c : Int) : Int := if c < 1 ∨ 4096 < c then 0 else c * 128
theorem room_ok (f c : Int) (w : World) :
    Calls Try.prog 70 #[.agg #[.int .i64 f, .int .i64 c]] w fun e w' => e = .returned (.int .i64 (roomA c)) ∧ Below w.heap.size w w' := by
  have hc : (roomA c = 0 ∧ decide (c < 1) = true) ∨ (roomA c = 0 ∧ decide (c < 1) = false ∧ decide (c > 4096) = true) ∨ (roomA c = c * 128 ∧ 1 ≤ c ∧ c ≤ 4096 ∧ decide (c < 1) = false ∧ decide (c > 4096) = false) := by
    unfold roomA
    by_cases h1 : c < 1
    · left; simp [h1]
    · by_cases h2 : 4096 < c
      · right; left; simp [h1, h2]
      · right; right; simp [h1, h2]; omega
  rcases hc with ⟨hr, h1⟩ | ⟨hr, h1, h2⟩ | ⟨hr, h1, h2, h3, h4⟩
  all_goals
    rw [hr]
    go_enter Try.func70, Try.ntmps70
    go_wp2
    go_ret
    exact ⟨rfl, (Below.refl _ _).alloc (Nat.le_refl _) _⟩

/-- are bytes of an area there: 0, 3 (no such area), 1 (not in it). -/
def askA (n : Nat) (f c at_ k : Int) : Int := if rightA n f c = false then 3 else if 0 ≤ at_ ∧ 0 ≤ k ∧ at_ + k ≤ c * 128 then 0 else 1
set_option maxRecDepth 100000 in
set_option maxHeartbeats 1600000 in
theorem askA_ok (dp : Value) (n : Nat) (hn : n ≤ 4096) (f c at_ k : Int) (w : World) (hs : SecOf dp n w) (hf : -9223372036854775808 ≤ f ∧ f ≤ 9223372036854775807) (hat : -9223372036854775808 ≤ at_ ∧ at_ ≤ 9223372036854775807) :
    Calls Try.prog 104 #[dp, .agg #[.int .i64 f, .int .i64 c], .int .i64 at_, .int .i64 k] w fun e w' => e = .returned (.int .i64 (askA n f c at_ k)) ∧ Below w.heap.size w w' := by
  have b1 : Below w.heap.size w (w.alloc (.cells #[.int .i64 f, .int .i64 c] 113)) := (Below.refl _ _).alloc (Nat.le_refl _) _
  have hs1 := right_ok dp n hn f c _ (hs.later b1) hf
  have hbl : Blk (w.alloc (.cells #[.int .i64 f, .int .i64 c] 113)) w.heap.size 113 #[.int .i64 f, .int .i64 c] := Blk.new ..
  clear hs
  by_cases hr : rightA n f c = false
  · have hres : askA n f c at_ k = 3 := if_pos hr
    rw [hres]
    rw [hr] at hs1
    clear hres hr
    go_enter Try.func104, Try.ntmps104
    go_wp2_with (go_at_call 69; refine hs1.mono ?_; rintro e w1 ⟨rfl, h1⟩)
    go_ret
    exact ⟨rfl, b1.trans (h1.mono (by simp))⟩
  · have hr' : rightA n f c = true := by simpa using hr
    rw [hr'] at hs1
    have hR : 2 ≤ f ∧ f < n ∧ 1 ≤ c ∧ c ≤ n - f := by simpa [rightA] using hr'
    have hroom : roomA c = c * 128 := if_neg (by omega)
    have hc : (askA n f c at_ k = 1 ∧ decide (at_ < 0) = true) ∨ (askA n f c at_ k = 1 ∧ decide (at_ < 0) = false ∧ decide (k < 0) = true) ∨
        (askA n f c at_ k = 1 ∧ 0 ≤ at_ ∧ decide (at_ < 0) = false ∧ decide (k < 0) = false ∧ decide (at_ > c * 128) = true) ∨
        (askA n f c at_ k = 1 ∧ 0 ≤ at_ ∧ at_ ≤ c * 128 ∧ decide (at_ < 0) = false ∧ decide (k < 0) = false ∧ decide (at_ > c * 128) = false ∧ decide (k > c * 128 - at_) = true) ∨
        (askA n f c at_ k = 0 ∧ 0 ≤ at_ ∧ at_ ≤ c * 128 ∧ decide (at_ < 0) = false ∧ decide (k < 0) = false ∧ decide (at_ > c * 128) = false ∧ decide (k > c * 128 - at_) = false) := by
      unfold askA
      rw [if_neg hr]
      by_cases h1 : at_ < 0
      · left; rw [if_neg (by omega)]; simp [h1]
      · by_cases h2 : k < 0
        · right; left; rw [if_neg (by omega)]; simp [h2]; omega
        · by_cases h3 : at_ > c * 128
          · right; right; left; rw [if_neg (by omega)]; simp; omega
          · by_cases h4 : k > c * 128 - at_
            · right; right; right; left; rw [if_neg (by omega)]; simp; omega
            · right; right; right; right; rw [if_pos (by omega)]; simp; omega
    have hroomc := fun w => room_ok f c w
    rw [hroom] at hroomc
    obtain ⟨q1, q2, q3, q4⟩ := hR
    have hcu : c ≤ 4096 := by omega
    clear hr hr' hroom
    rcases hc with ⟨hres, t1⟩ | ⟨hres, t1, t2⟩ | ⟨hres, t0, t1, t2, t3⟩ | ⟨hres, t0, t00, t1, t2, t3, t4⟩ | ⟨hres, t0, t00, t1, t2, t3, t4⟩
    all_goals
      rw [hres]
      clear hres
      go_enter Try.func104, Try.ntmps104
      go_wp2_with (first
        | (go_at_call 69; refine hs1.mono ?_; rintro e w1 ⟨rfl, h1⟩; have hb1 := hbl.below h1 hbl.lt; have hc0 := hb1.cell 0; have hc1 := hb1.cell 1; simp at hc0 hc1))
    · go_ret
      exact ⟨rfl, b1.trans (h1.mono (by simp))⟩
    · go_ret
      exact ⟨rfl, b1.trans (h1.mono (by simp))⟩
    · refine (hroomc _).mono ?_
      rintro e w2 ⟨rfl, h2⟩
      go_wp2
      go_ret
      exact ⟨rfl, (b1.trans (h1.mono (by simp))).trans (h2.mono (by have := h1.size; simp at this; omega))⟩
    all_goals
      refine (hroomc _).mono ?_
      rintro e w2 ⟨rfl, h2⟩
      have hb2 := hb1.below h2 hb1.lt
      have hc2 := hb2.cell 0
      have hc3 := hb2.cell 1
      simp at hc2 hc3
      go_wp2_with fail
      refine (hroomc _).mono ?_
      rintro e w3 ⟨rfl, h3⟩
      go_wp2
      go_ret
      exact ⟨rfl, ((b1.trans (h1.mono (by simp))).trans (h2.mono (by have := h1.size; simp at this; omega))).trans (h3.mono (by have := h1.size; have := h2.size; simp at *; omega))⟩

theorem halves_nil (w : World) :
    Calls Try.prog 66 #[.pointer none] w fun e w' => e = .returned (.tuple #[.agg #[.int .i64 0, .int .i64 0], .agg #[.int .i64 0, .int .i64 0], .int .i64 6]) ∧ Below w.heap.size w w' := by
  go_enter Try.func66, Try.ntmps66
  go_wp2_with (go_at_call 28; refine (sectors_nil _).mono ?_; rintro e w' ⟨rfl, rfl⟩)
  exact bodyPost_ret (v := .tuple #[.agg #[.int .i64 0, .int .i64 0], .agg #[.int .i64 0, .int .i64 0], .int .i64 6]) (by simp [results, Try.results66, go_sem]) rfl ⟨rfl, ((Below.refl _ _).alloc (Nat.le_refl _) _).alloc (by simp) _⟩

theorem halves_ok (dp : Value) (n : Nat) (hn2 : 2 ≤ n) (hn : n ≤ 4096) (w : World) (hs : SecOf dp n w) :
    Calls Try.prog 66 #[dp] w fun e w' => e = .returned (.tuple #[.agg #[.int .i64 2, .int .i64 (((n - 2) / 2 : Nat) : Int)], .agg #[.int .i64 ((2 + (n - 2) / 2 : Nat) : Int), .int .i64 (((n - 2) / 2 : Nat) : Int)], .int .i64 0]) ∧ Below w.heap.size w w' := by
  have h0 : ((n : Int) == 0) = false := by simp; omega
  have hn2' : (2 : Int) ≤ n := by omega
  have e1 : ((n : Int) - 2) / 2 = (((n - 2) / 2 : Nat) : Int) := by omega
  have b1 : Below w.heap.size w ((w.alloc (.cells #[.int .i64 0, .int .i64 0] 113)).alloc (.cells #[.int .i64 0, .int .i64 0] 113)) := ((Below.refl _ _).alloc (Nat.le_refl _) _).alloc (by simp) _
  have hs1 := hs _ b1
  obtain ⟨m, hm⟩ : ∃ m, m = (n - 2) / 2 := ⟨_, rfl⟩
  rw [← hm] at e1 ⊢
  have hm2 : m ≤ 4096 := by omega
  have hm3 : ((2 + m : Nat) : Int) = 2 + (m : Int) := by omega
  rw [hm3]
  clear hm hs hm3
  go_enter Try.func66, Try.ntmps66
  go_wp2_with (go_at_call 28; refine hs1.mono ?_; rintro e w' ⟨rfl, rfl⟩)
  exact bodyPost_ret (v := .tuple #[.agg #[.int .i64 2, .int .i64 (m : Int)], .agg #[.int .i64 (2 + (m : Int)), .int .i64 (m : Int)], .int .i64 0]) (by simp [results, Try.results66, go_sem]) rfl ⟨rfl, ((Below.refl _ _).alloc (Nat.le_refl _) _).alloc (by simp) _⟩
end Go.Proofs.Ytnnhklembdaieaa
