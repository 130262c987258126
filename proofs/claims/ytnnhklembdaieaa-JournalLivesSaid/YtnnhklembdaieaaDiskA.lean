/- The disk's words: its state as plain lists, how it lies in memory; the small functions of the disk: Sectors, ask, New, the counters. -/
import Derived.Test.YtnnhklembdaieaaProg
import Derived.Test.YtnnhklembdaieaaBase
import Derived.KernelRfl
namespace Go.Proofs.Ytnnhklembdaieaa
open Go.RowKit

/-- a byte as a cell. -/
def bv (x : UInt8) : Value := .int .u8 (x.toNat : Int)
def bvs (l : List UInt8) : List Value := l.map bv
theorem bvs_length (l : List UInt8) : (bvs l).length = l.length := by simp [bvs]
theorem bvs_one (l : List UInt8) : ∀ v ∈ bvs l, v.oneCell' = true := by
  intro v hv; simp only [bvs, List.mem_map] at hv; obtain ⟨x, _, rfl⟩ := hv; rfl
theorem bvs_append (a b : List UInt8) : bvs (a ++ b) = bvs a ++ bvs b := by simp [bvs]

/-- a disk, as plain lists: the sectors, the writes that wait, two counts. -/
structure DSt where
  l : List (List UInt8)
  waits : List (Nat × List UInt8)
  writes : Nat
  syncs : Nat

/-- a wait's cells. -/
def waitCells (p : Nat × List UInt8) : List Value := .int .i64 (p.1 : Int) :: bvs p.2

structure DSt.Ok (s : DSt) : Prop where
  sec : ∀ x ∈ s.l, x.length = 128
  wat : ∀ p ∈ s.waits, p.1 < s.l.length ∧ p.2.length = 128
  num : s.l.length ≤ 4096
  cnt : s.waits.length ≤ 1000000000 ∧ s.writes ≤ 1000000000000 ∧ s.syncs ≤ 1000000000000

/-- how it lies in memory: the struct at block d, the sectors at block bl, the waits' slice value wv. -/
structure DiskAt (w : World) (base d bl : Nat) (wv : Value) (s : DSt) : Prop where
  ok : s.Ok
  hd : Blk w d 61 #[.slice (some ⟨bl, 0, none⟩) s.l.length s.l.length, wv, .int .i64 (s.writes : Int), .int .i64 (s.syncs : Int)]
  hl : Blk w bl 151 (bvs s.l.flatten).toArray
  hw : w.ownsRow base 153 129 wv s.waits.length (s.waits.flatMap waitCells)
  bd : base ≤ d
  bb : base ≤ bl

/-- the blocks of a disk. -/
def dfoot (d bl : Nat) (wv : Value) : Nat → Prop := fun k => k = d ∨ k = bl ∨ wv.ownBlock = some k

theorem DiskAt.off {w : World} {base d bl : Nat} {wv : Value} {s : DSt} (h : DiskAt w base d bl wv s) {k : Nat} {t : TypeId} {cs : Array Value} (hk : Blk w k t cs) (h1 : t ≠ 61) (h2 : t ≠ 153) (h3 : t ≠ 151 ∨ k ≠ bl) : ¬ dfoot d bl wv k := by
  rintro (rfl | rfl | h4)
  · exact Blk.ne_ hk h.hd h1 rfl
  · rcases h3 with h3 | h3
    · exact Blk.ne_ hk h.hl h3 rfl
    · exact h3 rfl
  · exact own_ne h.hw hk (Ne.symm h2) h4

theorem DiskAt.fr {w w' : World} {S : Nat → Prop} {base d bl : Nat} {wv : Value} {s : DSt} (h : DiskAt w base d bl wv s) (hf : Fr S w w') (hS : ∀ k, dfoot d bl wv k → ¬ S k) : DiskAt w' base d bl wv s :=
  ⟨h.ok, h.hd.fr hf (hS d (.inl rfl)), h.hl.fr hf (hS bl (.inr (.inl rfl))), Fr.own h.hw hf (fun k hk => hS k (.inr (.inr hk))), h.bd, h.bb⟩
theorem DiskAt.low {w : World} {base d bl : Nat} {wv : Value} {s : DSt} (h : DiskAt w base d bl wv s) : ∀ k, dfoot d bl wv k → base ≤ k ∧ k < w.heap.size := by
  rintro k (rfl | rfl | h4)
  · exact ⟨h.bd, h.hd.lt⟩
  · exact ⟨h.bb, h.hl.lt⟩
  · exact h.hw.lt k h4
theorem DiskAt.nodb {w : World} {base d bl : Nat} {wv : Value} {s : DSt} (h : DiskAt w base d bl wv s) : d ≠ bl := Blk.ne_ h.hd h.hl (by decide)

section
theorem add_any (b o : Nat) (n k : Int) (w : World) (hc : w.cell? ⟨b, o, none⟩ = some (.int .i64 n)) (hf : w.frozen? ⟨b, o, none⟩ = false) (h0 : 0 ≤ n) (h1 : 0 ≤ k) (h2 : n + k < 9223372036854775808) :
    Calls Try.prog 83 #[.pointer (some ⟨b, o, none⟩), .int .i64 k] w fun e w' => e = .returned (.int .i64 (n + k)) ∧ w.setCell ⟨b, o, none⟩ (.int .i64 (n + k)) = w' := by
  have hadd := run_call_add (P := Try.prog) Try.func110 (by kernel_rfl) (by kernel_rfl) (by kernel_rfl) .i64 (by kernel_rfl) (y := k) (s := n + k) hc hf (by simp [go_sem]; exact IntWalk.i64_in _ (by omega))
  go_enter Try.func83, Try.ntmps83
  go_wp2
  go_ret
  exact ⟨rfl, rfl⟩

theorem load64_any (b o : Nat) (n : Int) (w : World) (hc : w.cell? ⟨b, o, none⟩ = some (.int .i64 n)) :
    Calls Try.prog 84 #[.pointer (some ⟨b, o, none⟩)] w fun e w' => e = .returned (.int .i64 n) ∧ w = w' := by
  have hadd := run_call_load (P := Try.prog) Try.func111 (by kernel_rfl) (by kernel_rfl) (by kernel_rfl) .i64 (by kernel_rfl) hc
  go_enter Try.func84, Try.ntmps84
  go_wp2
  go_ret
  exact ⟨rfl, rfl⟩

theorem sectors_nil (w : World) : Calls Try.prog 28 #[.pointer none] w fun e w' => e = .returned (.int .i64 0) ∧ w = w' := by
  go_enter Try.func28, Try.ntmps28
  go_wp2
  go_ret
  exact ⟨rfl, rfl⟩

theorem sectors_any (b : Nat) (ao : Option Addr) (n c : Nat) (w : World) (hc : w.cell? ⟨b, 0, none⟩ = some (.slice ao n c)) : Calls Try.prog 28 #[.pointer (some ⟨b, 0, none⟩)] w fun e w' => e = .returned (.int .i64 n) ∧ w = w' := by
  go_enter Try.func28, Try.ntmps28
  go_wp2
  go_ret
  exact ⟨rfl, rfl⟩

theorem ask_nil (i : Int) (w : World) : Calls Try.prog 82 #[.pointer none, .int .i64 i] w fun e w' => e = .returned (.int .i64 6) ∧ w = w' := by
  go_enter Try.func82, Try.ntmps82
  go_wp2_with (go_at_call 28; refine (sectors_nil _).mono ?_; rintro e w' ⟨rfl, rfl⟩)
  go_ret
  exact ⟨rfl, rfl⟩

/-- a disk that no call made. -/
theorem ask_zero (b : Nat) (i : Int) (ao : Option Addr) (c : Nat) (w : World) (hc : w.cell? ⟨b, 0, none⟩ = some (.slice ao 0 c)) : Calls Try.prog 82 #[.pointer (some ⟨b, 0, none⟩), .int .i64 i] w fun e w' => e = .returned (.int .i64 6) ∧ w = w' := by
  go_enter Try.func82, Try.ntmps82
  go_wp2_with (go_at_call 28; refine (sectors_any _ _ _ _ _ hc).mono ?_; rintro e w' ⟨rfl, rfl⟩)
  go_ret
  exact ⟨rfl, rfl⟩

theorem ask_any (b : Nat) (i : Int) (ao : Option Addr) (n c : Nat) (w : World) (hc : w.cell? ⟨b, 0, none⟩ = some (.slice ao n c)) (hn : 0 < n) (hn2 : n ≤ 4096) :
    Calls Try.prog 82 #[.pointer (some ⟨b, 0, none⟩), .int .i64 i] w fun e w' => e = .returned (.int .i64 (if 0 ≤ i ∧ i < n then 0 else 1)) ∧ w = w' := by
  have h0 : ((n : Int) == 0) = false := by simp; omega
  by_cases h1 : i < 0
  · rw [if_neg (by omega)]
    go_enter Try.func82, Try.ntmps82
    go_wp2_with (go_at_call 28; refine (sectors_any _ _ _ _ _ hc).mono ?_; rintro e w' ⟨rfl, rfl⟩)
    go_ret
    exact ⟨rfl, rfl⟩
  · by_cases h2 : i < n
    · rw [if_pos (by omega)]
      go_enter Try.func82, Try.ntmps82
      go_wp2_with (go_at_call 28; refine (sectors_any _ _ _ _ _ hc).mono ?_; rintro e w' ⟨rfl, rfl⟩)
      go_ret
      exact ⟨rfl, rfl⟩
    · rw [if_neg (by omega)]
      go_enter Try.func82, Try.ntmps82
      go_wp2_with (go_at_call 28; refine (sectors_any _ _ _ _ _ hc).mono ?_; rintro e w' ⟨rfl, rfl⟩)
      go_ret
      exact ⟨rfl, rfl⟩
end
end Go.Proofs.Ytnnhklembdaieaa
