/- The counter: Do, Long, Asked. -/
import Derived.Test.YtnnhklembdaieaaSumL
namespace Go.Proofs.Ytnnhklembdaieaa
open Go.RowKit
set_option linter.unusedSimpArgs false
set_option linter.unusedVariables false

def zero256 : List Value := List.replicate 256 (.int .u32 0)
theorem zero256_length : zero256.length = 256 := List.length_replicate ..
def ctTab (done : Bool) : List Value := if done then tabTo 256 zero256 else zero256
def ctW (done : Bool) : Int := if done then 1 else 0
/-- a counter: is its table there; how often was it asked. -/
def CtAt (w : World) (b : Nat) (done : Bool) (k : Nat) : Prop := Blk w b 78 (.int .u32 (ctW done) :: .int .i32 0 :: .int .u32 0 :: (ctTab done ++ [.int .i64 (k : Int)])).toArray
theorem ctTab_length (done : Bool) : (ctTab done).length = 256 := by
  unfold ctTab
  split
  · rw [tabTo_length _ _ (by rw [zero256_length]; omega)]; exact zero256_length
  · exact zero256_length
theorem CtAt.asked {w : World} {b k : Nat} {done : Bool} (h : CtAt w b done k) : w.cell? ⟨b, 259, none⟩ = some (.int .i64 (k : Int)) := by
  have := Blk.cell h 259
  rw [this]
  simp [ctTab_length]
theorem CtAt.tab {w : World} {b k : Nat} (h : CtAt w b true k) (i : Nat) (hi : i < 256) : w.cell? ⟨b, 3 + i, none⟩ = some (.int .u32 (tabN i : Int)) := by
  have := Blk.cell h (3 + i)
  rw [this, show 3 + i = i + 1 + 1 + 1 by omega]
  have hl : (tabTo 256 zero256).length = 256 := ctTab_length true
  simp only [List.getElem?_toArray, List.getElem?_cons_succ, ctTab, if_true]
  rw [List.getElem?_append_left (by omega)]
  unfold tabTo
  rw [List.getElem?_append_left (by simp; omega), List.getElem?_map, List.getElem?_range hi]
  rfl
theorem CtAt.fr {w w' : World} {S : Nat → Prop} {b k : Nat} {done : Bool} (h : CtAt w b done k) (hf : Fr S w w') (hS : ¬ S b) : CtAt w' b done k := Blk.fr h hf hS

set_option maxRecDepth 100000 in
set_option maxHeartbeats 1600000 in
theorem do_ok (w : World) (b k : Nat) (done : Bool) (h : CtAt w b done k) :
    Calls Try.prog 85 #[.pointer (some ⟨b, 0, none⟩), .func (.func 86) #[.pointer (some ⟨b, 0, none⟩)] #[]] w fun e w' => e = .returned (.tuple #[]) ∧ CtAt w' b true k ∧ Fr (fun k => k = b) w w' := by
  have hnot : ∀ (x : Bool) (w : World), (Op.unary .not (.bool x)).run Try.prog w = .ok (.bool (!x)) w := fun _ _ => rfl
  cases done with
  | true =>
    have c0 : w.cell? ⟨b, 0, none⟩ = some (.int .u32 1) := (Blk.cell h 0).trans rfl
    have hl := run_call_load (P := Try.prog) Try.func120 (by kernel_rfl) (by kernel_rfl) (by kernel_rfl) .u32 (by kernel_rfl) c0
    have H := hide h
    clear h
    go_enter Try.func85, Try.ntmps85
    go_wp2_with (first | (go_at_call 112; go_in))
    go_end0
    exact ⟨rfl, H.out, Fr.refl _ _⟩
  | false =>
    have c0 : w.cell? ⟨b, 0, none⟩ = some (.int .u32 0) := (Blk.cell h 0).trans rfl
    have hl := run_call_load (P := Try.prog) Try.func120 (by kernel_rfl) (by kernel_rfl) (by kernel_rfl) .u32 (by kernel_rfl) c0
    have hs := slow_ok w b (.int .u32 0) zero256 [.int .i64 (k : Int)] zero256_length h
    clear h
    go_enter Try.func85, Try.ntmps85
    go_wp2_with (first | (go_at_call 112; go_in) | (go_at_call 113; refine hs.mono ?_; rintro e w' ⟨rfl, h', f'⟩))
    go_end0
    exact ⟨rfl, h', f'⟩

set_option maxRecDepth 100000 in
set_option maxHeartbeats 1600000 in
theorem cLong_ok (w : World) (b k : Nat) (done : Bool) (h : CtAt w b done k) (hk : k < 1000000) (A : Option Addr) (n c : Nat) (l : List UInt8) (hl : SlAt w A n (bvs l)) (hn : n ≤ 9223372036854775807) (hA : ∀ a, A = some a → 0 < n → a.block ≠ b) :
    Calls Try.prog 39 #[.pointer (some ⟨b, 0, none⟩), .slice A n c] w fun e w' => e = .returned (.int .u32 (longN l : Int)) ∧ CtAt w' b true (k + 1) ∧ Fr (fun k => k = b) w w' := by
  have hmf : ∀ (fn : Fn) (first cap : Array Value) (w : World), (Instr.makeFunc fn first cap).run Try.prog w = .ok (.func fn first cap) w := fun _ _ _ _ => rfl
  have hlen : l.length = n := by have := hl.1; rwa [bvs_length] at this
  have HL := hide hlen
  clear hlen
  have hd := do_ok w b k done h
  clear h
  go_enter Try.func39, Try.ntmps39
  go_wp2_with fail
  refine hd.mono ?_
  rintro e w1 ⟨rfl, h1, f1⟩
  have c1 := h1.asked
  have z1 : w1.frozen? ⟨b, 259, none⟩ = false := Blk.frozen h1 259
  go_wp2_with fail
  refine (add_any b 259 k 1 w1 c1 z1 (by omega) (by omega) (by omega)).mono ?_
  rintro e w2 ⟨rfl, hw2⟩
  have h2 : CtAt w2 b true (k + 1) := by
    have := Blk.set_ h1 259 (.int .i64 ((k : Int) + 1))
    rw [hw2] at this
    have e : (Value.int IntKind.u32 (ctW true) :: Value.int IntKind.i32 0 :: Value.int IntKind.u32 0 :: (ctTab true ++ [Value.int IntKind.i64 (k : Int)])).set 259 (.int .i64 ((k : Int) + 1)) = Value.int IntKind.u32 (ctW true) :: Value.int IntKind.i32 0 :: Value.int IntKind.u32 0 :: (ctTab true ++ [Value.int IntKind.i64 ((k + 1 : Nat) : Int)]) := by
      rw [show (259 : Nat) = 256 + 1 + 1 + 1 by omega]
      simp only [List.set_cons_succ]
      rw [List.set_append_right _ _ (by rw [ctTab_length]; omega), ctTab_length]
      rfl
    rw [List.setIfInBounds_toArray, e] at this
    exact this
  have f2 : Fr (fun k => k = b) w w2 := by rw [← hw2]; exact f1.setCell (p := ⟨b, 259, none⟩) (.inl rfl) _
  have hl2 : SlAt w2 A n (bvs l) := hl.fr f2 (fun a ha hn' e => hA a ha hn' e)
  have H2 := hide (And.intro h2 f2)
  have HT := hide (fun i hi => h2.tab i hi)
  clear hw2 h1 f1 c1 z1 h2 f2 hd hl
  go_wp2_with fail
  go_loopw [5, 24] (fun v i wr => ∃ j : Nat, j ≤ n ∧ i = .int .i64 j ∧ v = .int .u32 (runN 2197175160 4294967295 (l.take j) : Nat) ∧ w2 = wr) (fun _ i _ => n - (intOf i).toNat)
  case atStart => exact ⟨0, by omega, rfl, rfl, rfl⟩
  case round =>
    obtain ⟨j, hj, rfl, rfl, rfl⟩ := hrel
    by_cases hlt : j < n
    · obtain ⟨g, o, rfl, hg, hr⟩ := hl2.2 (by omega)
      have hjl : j < l.length := by rw [HL.out]; exact hlt
      obtain ⟨x, hx⟩ : ∃ x, x = l[j] := ⟨_, rfl⟩
      have hc : w2.cell? ⟨g, o + j, none⟩ = some (.int .u8 (x.toNat : Int)) := hr j _ (by rw [hx]; simp [bvs, bv, hjl])
      obtain ⟨s, hs⟩ : ∃ s, s = runN 2197175160 4294967295 (l.take j) := ⟨_, rfl⟩
      have hs32 : s < 4294967296 := by rw [hs]; exact runN_lt 2197175160 32 (by omega) (by omega) _ _ (by omega)
      have hnext : runN 2197175160 4294967295 (l.take (j + 1)) = (s / 256) ^^^ tabN ((s % 256) ^^^ x.toNat) := by
        rw [take_snoc _ _ hjl, runN_snoc, ← hs, ← hx]; exact byteN_table s x hs32
      rw [← hs]
      have hxl : x.toNat < 256 := x.toNat_lt
      obtain ⟨xn, hxn⟩ : ∃ xn, xn = x.toNat := ⟨_, rfl⟩
      rw [← hxn] at hc hnext hxl
      have hil : (s % 256) ^^^ xn < 256 := Nat.xor_lt_two_pow (n := 8) (by omega) hxl
      obtain ⟨i, hi⟩ : ∃ i, i = (s % 256) ^^^ xn := ⟨_, rfl⟩
      have h8 : bits .xor .u8 ((s : Int) % 256) (xn : Int) = (i : Int) := by rw [hi]; exact u8_xor_nat (s % 256) xn (by omega) hxl
      rw [← hi] at hil hnext
      have hct := HT.out i hil
      have htl : tabN i < 4294967296 := byteN_lt 2197175160 0 32 _ (by omega) (by omega) (by omega)
      obtain ⟨t, ht⟩ : ∃ t, t = tabN i := ⟨_, rfl⟩
      rw [← ht] at hct htl hnext
      have h32 : bits .xor .u32 ((s : Int) / 256) (t : Int) = (((s / 256) ^^^ t : Nat) : Int) := u32_xor_nat (s / 256) t (by omega) htl
      have hcv : IntKind.u8.wrap (s : Int) = (s : Int) % 256 := IntKind.wrap_u8' _
      have HN := hide hnext
      have hj0 : (0 : Int) ≤ (j : Int) := by omega
      have hj1 : (j : Int) < (n : Int) := by omega
      have hi0 : (0 : Int) ≤ (i : Int) := by omega
      have hi1 : (i : Int) < 256 := by omega
      clear hx hs hnext hxn hi ht hr
      go_wp2
      go_roundw
      case rel => exact ⟨j + 1, by omega, by go_num, by rw [HN.out], trivial⟩
      case measure => simp [intOf] <;> omega
    · obtain rfl : j = n := by omega
      rw [List.take_of_length_le (by rw [HL.out]; omega)]
      have hb : runN 2197175160 4294967295 l < 4294967296 := runN_lt 2197175160 32 (by omega) (by omega) _ _ (by omega)
      go_wp2
      go_ret
      exact ⟨by rw [not32 _ hb]; rfl, H2.out.1, H2.out.2⟩

theorem cLong_nil (A : Option Addr) (n c : Nat) (l : List UInt8) (w : World) (hl : SlAt w A n (bvs l)) (hn : n ≤ 9223372036854775807) :
    Calls Try.prog 39 #[.pointer none, .slice A n c] w fun e w' => e = .returned (.int .u32 (longN l : Int)) ∧ w = w' := by
  go_enter Try.func39, Try.ntmps39
  go_wp2_with fail
  refine (long_ok A n c l w hl hn).mono ?_
  rintro e w1 ⟨rfl, rfl⟩
  go_wp2
  go_ret
  exact ⟨rfl, rfl⟩
theorem asked_ok (w : World) (b k : Nat) (done : Bool) (h : CtAt w b done k) : Calls Try.prog 44 #[.pointer (some ⟨b, 0, none⟩)] w fun e w' => e = .returned (.int .i64 (k : Int)) ∧ w = w' := by
  have c1 := h.asked
  clear h
  go_enter Try.func44, Try.ntmps44
  go_wp2_with fail
  refine (load64_any b 259 k w c1).mono ?_
  rintro e w1 ⟨rfl, rfl⟩
  go_wp2
  go_ret
  exact ⟨rfl, rfl⟩
theorem asked_nil (w : World) : Calls Try.prog 44 #[.pointer none] w fun e w' => e = .returned (.int .i64 0) ∧ w = w' := by
  go_enter Try.func44, Try.ntmps44
  go_wp2
  go_ret
  exact ⟨rfl, rfl⟩
end Go.Proofs.Ytnnhklembdaieaa
