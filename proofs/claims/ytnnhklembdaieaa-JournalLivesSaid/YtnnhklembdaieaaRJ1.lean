/- The document's Put writes sector by sector what Put writes: plain. The document's area: text, Right, Get. The document's area: Put. The document's journal: how it lies in memory; count, first, Frame, begin. The document's journal: Fits, Append. The document's journal: Step. The document's journal: Anew. -/
import Derived.Test.YtnnhklembdaieaaBackL
import Derived.Test.YtnnhklembdaieaaRefSTU
import Derived.Test.YtnnhklembdaieaaJouE
namespace Go.Proofs.Ytnnhklembdaieaa
open Go.RowKit
set_option linter.unusedSimpArgs false
set_option linter.unusedVariables false

theorem put_append : ∀ (N : Nat) (s : DSt) (q : Nat) (b1 b2 : List UInt8), b1.length ≤ N → (b1 = [] ∨ (q + b1.length) % 128 = 0) → s.put q (b1 ++ b2) = (s.put q b1).put (q + b1.length) b2
  | 0, s, q, b1, b2, h, _ => by
    obtain rfl : b1 = [] := List.eq_nil_of_length_eq_zero (by omega)
    simp [put_nil]
  | N + 1, s, q, b1, b2, h, ha => by
    by_cases hb : b1 = []
    · subst hb; simp [put_nil]
    · have h0 : 0 < b1.length := List.length_pos_iff.2 hb
      have hal := ha.resolve_left hb
      have hm : q % 128 < 128 := Nat.mod_lt _ (by omega)
      have hge : 128 - q % 128 ≤ b1.length := by omega
      rw [put_step s q (b1 ++ b2) (by rw [List.length_append]; omega), put_step s q b1 h0]
      have e1 : min (b1 ++ b2).length (128 - q % 128) = 128 - q % 128 := by rw [List.length_append]; omega
      have e2 : min b1.length (128 - q % 128) = 128 - q % 128 := by omega
      rw [e1, e2]
      have e3 : s.put1 q (b1 ++ b2) = s.put1 q b1 := by unfold DSt.put1; rw [List.take_append_of_le_length hge]
      rw [e3, List.drop_append_of_le_length hge]
      have ih := put_append N (s.put1 q b1) (q + (128 - q % 128)) (b1.drop (128 - q % 128)) b2 (by rw [List.length_drop]; omega) (.inr (by rw [List.length_drop]; rw [show q + (128 - q % 128) + (b1.length - (128 - q % 128)) = q + b1.length by omega]; exact hal))
      rw [ih, List.length_drop]
      congr 1
      omega
theorem put_one (s : DSt) (q : Nat) (b : List UInt8) (h0 : 0 < b.length) (h : q % 128 + b.length ≤ 128) : s.put q b = s.write (q / 128) (over (s.read (q / 128)) (q % 128) b) := by
  rw [put_step s q b h0, show min b.length (128 - q % 128) = b.length by omega, List.drop_length, put_nil]
  unfold DSt.put1
  rw [List.take_of_length_le (by omega)]
/-- one more sector of a put. -/
theorem put_part {s : DSt} (hok : s.Ok) (f c at_ : Nat) (b : List UInt8) (hfc : f + c ≤ s.l.length) (hat : at_ + b.length ≤ c * 128) (hc : s.waits.length + b.length ≤ 1000000000 ∧ s.writes + b.length ≤ 1000000000000) (k : Nat) (hk : k < c) :
    s.put (f * 128 + at_) (b.take ((k + 1) * 128 - at_)) = if 0 < b.length ∧ 128 * k < at_ + b.length ∧ at_ < 128 * k + 128 then (s.put (f * 128 + at_) (b.take (k * 128 - at_))).write (f + k) (((over (s.seg (f * 128) (c * 128)) at_ b).drop (128 * k)).take 128) else s.put (f * 128 + at_) (b.take (k * 128 - at_)) := by
  obtain ⟨n, hn⟩ : ∃ n, n = b.length := ⟨_, rfl⟩
  split
  · rename_i hov
    rw [← hn] at hov hat hc
    obtain ⟨m, hm⟩ : ∃ m, m = k * 128 - at_ := ⟨_, rfl⟩
    obtain ⟨L, hL⟩ : ∃ L, L = (k + 1) * 128 - at_ - m := ⟨_, rfl⟩
    have hmn : m < n := by omega
    have e1 : b.take ((k + 1) * 128 - at_) = b.take m ++ (b.drop m).take L := by
      rw [show (k + 1) * 128 - at_ = m + L by omega, List.take_add]
    have hl1 : (b.take m).length = m := by rw [List.length_take]; omega
    rw [e1, ← hm, put_append _ s _ (b.take m) _ (Nat.le_refl _) (by
      by_cases h0 : m = 0
      · left; rw [h0]; simp
      · right; rw [hl1]; omega), hl1]
    obtain ⟨b2, hb2⟩ : ∃ x, x = (b.drop m).take L := ⟨_, rfl⟩
    have hl2 : b2.length = min L (n - m) := by rw [hb2, List.length_take, List.length_drop, hn]
    rw [← hb2]
    have hq : (f * 128 + at_ + m) / 128 = f + k ∧ (f * 128 + at_ + m) % 128 = at_ + m - k * 128 := by omega
    rw [put_one _ _ _ (by omega) (by omega), hq.1, hq.2]
    congr 1
    have hP := put_Ok hok (f * 128 + at_) (b.take m) (by rw [hl1]; omega) (by rw [hl1]; omega)
    have hrl := DSt.read_length hP.1 (i := f + k) (by rw [put_l]; omega)
    have hwl : (s.seg (f * 128) (c * 128)).length = c * 128 := seg_length _ _ _
    have hov1 : (over (s.seg (f * 128) (c * 128)) at_ b).length = c * 128 := by rw [over_length _ _ _ (by rw [hwl, ← hn]; omega), hwl]
    refine ext_getD ?_ (fun j hj => ?_)
    · rw [over_length _ _ _ (by rw [hrl]; omega), hrl, List.length_take, List.length_drop, hov1]; omega
    · rw [over_length _ _ _ (by rw [hrl]; omega), hrl] at hj
      rw [over_getD _ _ _ (by rw [hrl]; omega)]
      have e4 : (((over (s.seg (f * 128) (c * 128)) at_ b).drop (128 * k)).take 128).getD j 0 = (over (s.seg (f * 128) (c * 128)) at_ b).getD (128 * k + j) 0 := by
        rw [List.getD_eq_getElem?_getD, List.getD_eq_getElem?_getD, List.getElem?_take_of_lt hj, List.getElem?_drop]
      rw [e4, over_getD _ _ _ (by rw [hwl, ← hn]; omega), ← hn]
      by_cases hin : at_ + m - k * 128 ≤ j ∧ j < at_ + m - k * 128 + b2.length
      · rw [if_pos hin, if_pos (by omega), hb2, List.getD_eq_getElem?_getD, List.getD_eq_getElem?_getD, List.getElem?_take_of_lt (by omega), List.getElem?_drop]
        congr 2; omega
      · rw [if_neg hin, if_neg (by omega), seg_getD _ _ _ _ (by omega)]
        have e5 : ((s.put (f * 128 + at_) (b.take m)).read (f + k)).getD j 0 = (s.put (f * 128 + at_) (b.take m)).byteAt ((f + k) * 128 + j) := by
          unfold DSt.byteAt
          rw [show ((f + k) * 128 + j) / 128 = f + k by omega, show ((f + k) * 128 + j) % 128 = j by omega]
        rw [e5, put_byteAt hok _ _ (by rw [hl1]; omega) (by rw [hl1]; omega), hl1, if_neg (by omega)]
        congr 1; omega
  · rename_i hov
    rw [← hn] at hov hat
    congr 1
    by_cases h1 : n = 0
    · obtain rfl : b = [] := List.eq_nil_of_length_eq_zero (by omega)
      simp
    · by_cases h2 : 128 * k < at_ + n
      · rw [show (k + 1) * 128 - at_ = 0 by omega, show k * 128 - at_ = 0 by omega]
      · rw [List.take_of_length_le (by omega), List.take_of_length_le (by omega)]
end Go.Proofs.Ytnnhklembdaieaa
namespace Go.Proofs.Ytnnhklembdaieaa
open Go.RowKit
set_option linter.unusedSimpArgs false
set_option linter.unusedVariables false

theorem bs_cut (l : List UInt8) (a b : Nat) : (bs l).extract a b = bs ((l.drop a).take (b - a)) := by
  apply ByteArray.ext
  simp only [ByteArray.data_extract, bs]
  apply Array.ext'
  simp [Array.toList_extract, List.extract]
theorem read_seg {s : DSt} (hok : s.Ok) (i : Nat) (hi : i < s.l.length) : s.read i = s.seg (i * 128) 128 := by
  have h := seg_sector hok i 0 128 hi (by omega)
  rw [List.drop_zero, List.take_of_length_le (by rw [DSt.read_length hok hi]; omega)] at h
  exact h
set_option maxRecDepth 100000 in
set_option maxHeartbeats 800000 in
theorem rtext_ok (w : World) (base x : Nat) (lv av tv : Value) (s : DSt) (h : RefAt w base x lv av tv s) (f c : Nat) (hf : f + c ≤ s.l.length) :
    Calls Try.prog 119 #[.pointer (some ⟨x, 0, none⟩), .int .i64 (f : Int), .int .i64 (c : Int)] w fun e w' => e = .returned (strv (s.seg (f * 128) (c * 128))) ∧ w' = w := by
  have hnum := h.ok.num
  have hb0 : (bs [] : ByteArray) = ⟨#[]⟩ := rfl
  go_enter Try.func119, Try.ntmps119
  go_wp2_with fail
  go_loopw [7, 8] (fun t i wr => ∃ k : Nat, k ≤ c ∧ i = .int .i64 k ∧ t = .string (bs (s.seg (f * 128) (k * 128))) ∧ w = wr) (fun _ i _ => c - (intOf i).toNat)
  case atStart => exact ⟨0, by omega, rfl, by rw [Nat.zero_mul]; rfl, rfl⟩
  case round =>
    obtain ⟨k, hk, rfl, rfl, rfl⟩ := hrel
    by_cases hlt : k < c
    · have hr := refRead_ok w base x lv av tv s h (f + k) (by omega)
      have z1 : (bs (s.seg (f * 128) (k * 128))).size = k * 128 := by rw [bs_size, seg_length]
      have z2 : (bs (s.read (f + k))).size = 128 := by rw [bs_size, DSt.read_length h.ok (by omega)]
      have he := read_seg h.ok (f + k) (by omega)
      rw [show ((f + k : Nat) : Int) = (f : Int) + (k : Int) by omega] at hr
      unfold strv at hr
      have HE := hide he
      have HH := hide h
      clear he h
      go_wp2_with (go_at_call 33; refine hr.mono ?_; rintro e w' ⟨rfl, rfl⟩)
      go_roundw
      case rel => exact ⟨k + 1, by omega, by go_num, by rw [bs_append, HE.out, Nat.succ_mul, seg_add, show f * 128 + k * 128 = (f + k) * 128 by omega], by trivial⟩
      case measure => simp [intOf]; omega
    · obtain rfl : k = c := by omega
      go_wp2
      go_ret
      exact ⟨rfl, rfl⟩
theorem rright13_ok (n f c : Nat) (hn : n ≤ 4096) (hf : 2 ≤ f) (hfc : f + c ≤ n) (hc : 1 ≤ c) (w : World) : Calls Try.prog 118 #[.int .i64 (n : Int), .int .i64 (f : Int), .int .i64 (c : Int)] w fun e w' => e = .returned (.bool true) ∧ w = w' := by
  have t1 : decide ((f : Int) ≥ 2) = true := by simp; omega
  have t2 : decide ((f : Int) < (n : Int)) = true := by simp; omega
  have t3 : decide ((c : Int) > 0) = true := by simp; omega
  have t4 : decide ((c : Int) ≤ (n : Int) - (f : Int)) = true := by simp; omega
  have t1' : decide (2 ≤ f) = true := by simp; omega
  have t2' : decide (f < n) = true := by simp; omega
  have t3' : decide (0 < c) = true := by simp; omega
  go_enter Try.func118, Try.ntmps118
  go_wp2
  go_ret
  exact ⟨rfl, rfl⟩
set_option maxRecDepth 100000 in
set_option maxHeartbeats 1600000 in
theorem rget_ok (w : World) (base x : Nat) (lv av tv : Value) (s : DSt) (h : RefAt w base x lv av tv s) (f c at_ k : Nat) (hf : 2 ≤ f) (hfc : f + c ≤ s.l.length) (hc1 : 1 ≤ c) (hk : at_ + k ≤ c * 128) (fi ci ai ki : Int) (e1 : fi = f) (e2 : ci = c) (e3 : ai = at_) (e4 : ki = k) :
    Calls Try.prog 100 #[.pointer (some ⟨x, 0, none⟩), .int .i64 fi, .int .i64 ci, .int .i64 ai, .int .i64 ki] w fun e w' => e = .returned (.tuple #[strv (s.seg (f * 128 + at_) k), .int .i64 0]) ∧ w' = w := by
  subst e1 e2 e3 e4
  have hnum := h.ok.num
  obtain ⟨A, cap, hlv, -, -, -⟩ := own_shape h.hl
  have hc0 : w.cell? ⟨x, 0, none⟩ = some (.slice A s.l.length cap) := (h.hx.cell 0).trans (by rw [hlv]; rfl)
  have hT := rtext_ok w base x lv av tv s h f c hfc
  have hR := rright13_ok s.l.length f c hnum hf hfc hc1
  obtain ⟨X, hX⟩ : ∃ X, X = s.seg (f * 128) (c * 128) := ⟨_, rfl⟩
  have hXl : X.length = c * 128 := by rw [hX, seg_length]
  have hsg : (X.drop at_).take k = s.seg (f * 128 + at_) k := by
    refine ext_getD (by rw [List.length_take, List.length_drop, hXl, seg_length]; omega) (fun j hj => ?_)
    rw [List.length_take, List.length_drop, hXl] at hj
    rw [List.getD_eq_getElem?_getD, List.getElem?_take_of_lt (by omega), List.getElem?_drop, ← List.getD_eq_getElem?_getD, hX, seg_getD _ _ _ _ (by omega), seg_getD _ _ _ _ (by omega)]
    congr 1; omega
  rw [← hX] at hT
  rw [← hsg]
  obtain ⟨N, hN⟩ : ∃ N, N = s.l.length := ⟨_, rfl⟩
  rw [← hN] at hc0 hR hnum hfc
  unfold strv at hT ⊢
  have z1 : (bs X).size = c * 128 := by rw [bs_size, hXl]
  have hcut := bs_cut X at_ (at_ + k)
  rw [show at_ + k - at_ = k by omega] at hcut
  have t1 : decide ((at_ : Int) > 128 * (c : Int)) = false := by simp; omega
  have t2 : decide ((k : Int) > 128 * (c : Int) - (at_ : Int)) = false := by simp; omega
  have t1' : decide (128 * (c : Int) < (at_ : Int)) = false := by simp; omega
  have HR := hide (hR w)
  have HC := hide hcut
  have hatk : (at_ : Int) ≤ (at_ : Int) + (k : Int) := by omega
  clear h hlv hX hsg hN hR hcut
  go_enter Try.func100, Try.ntmps100
  go_wp2_with (first
    | (go_at_call 118; refine HR.out.mono ?_; rintro e w' ⟨rfl, rfl⟩)
    | (go_at_call 119; refine hT.mono ?_; rintro e w' ⟨rfl, rfl⟩))
  go_ret2
  refine ⟨?_, rfl⟩
  rw [← HC.out]
  rfl
end Go.Proofs.Ytnnhklembdaieaa
namespace Go.Proofs.Ytnnhklembdaieaa
open Go.RowKit
set_option linter.unusedSimpArgs false
set_option linter.unusedVariables false

/-- w' is w but for the blocks of S, new ones, and rows of the document's disk. -/
structure TFr (base : Nat) (S : Nat → Prop) (w w' : World) : Prop where
  os : w'.os = w.os
  tape : w'.tape = w.tape
  output : w'.output = w.output
  size : w.heap.size ≤ w'.heap.size
  block : ∀ k, k < w.heap.size → ¬ S k → (k < base ∨ ∃ t cs, Blk w k t cs ∧ t ≠ 52 ∧ t ≠ 9 ∧ t ≠ 3) → w'.heap[k]? = w.heap[k]?
section
variable {base : Nat} {S T : Nat → Prop} {w w' w1 : World}
theorem TFr.refl (base : Nat) (S : Nat → Prop) (w : World) : TFr base S w w := ⟨rfl, rfl, rfl, Nat.le_refl _, fun _ _ _ _ => rfl⟩
theorem TFr.trans (h : TFr base S w w') (h' : TFr base T w' w1) (hs : ∀ k, T k → S k ∨ w.heap.size ≤ k) : TFr base S w w1 :=
  ⟨h'.os.trans h.os, h'.tape.trans h.tape, h'.output.trans h.output, Nat.le_trans h.size h'.size, fun k hk hS hc => by
    have e := h.block k hk hS hc
    refine (h'.block k (Nat.lt_of_lt_of_le hk h.size) (fun hT => by rcases hs k hT with h1 | h1; exact hS h1; omega) ?_).trans e
    rcases hc with hc | ⟨t, cs, hb, ht⟩
    · exact .inl hc
    · exact .inr ⟨t, cs, e.trans hb, ht⟩⟩
theorem TFr.mono (h : TFr base S w w') (hs : ∀ k, S k → T k) : TFr base T w w' := ⟨h.os, h.tape, h.output, h.size, fun k hk hT hc => h.block k hk (fun hS => hT (hs k hS)) hc⟩
theorem TFr.ofFr (h : Fr S w w') : TFr base S w w' := ⟨h.os, h.tape, h.output, h.size, fun k hk hS _ => h.block k hk hS⟩
theorem TFr.ofBelow (h : Below w.heap.size w w') : TFr base S w w' := ⟨h.os, h.tape, h.output, h.size, fun k hk _ _ => h.block k hk⟩
theorem TFr.ofRef {x : Nat} {lv av tv : Value} {s : DSt} (hx : RefAt w base x lv av tv s) (h : Fr (rfoot x lv av tv) w w') : TFr base S w w' :=
  ⟨h.os, h.tape, h.output, h.size, fun k hk _ hc => h.block k hk (fun hr => by
    rcases hc with hc | ⟨t, cs, hb, h1, h2, h3⟩
    · have := (hx.low k hr).1; omega
    · exact hx.off hb h1 h2 h3 hr)⟩
theorem TFr.below (h : TFr base S w w') (hb : base ≤ w.heap.size) (hs : ∀ k, S k → base ≤ k) : Below base w w' :=
  ⟨h.os, h.tape, h.output, h.size, fun k hk => h.block k (by omega) (fun hS => by have := hs k hS; omega) (.inl hk)⟩
theorem TFr.blk {k : Nat} {t : TypeId} {cs : Array Value} (h : TFr base S w w') (hk : Blk w k t cs) (hS : ¬ S k) (h1 : t ≠ 52) (h2 : t ≠ 9) (h3 : t ≠ 3) : Blk w' k t cs :=
  (h.block k hk.lt hS (.inr ⟨t, cs, hk, h1, h2, h3⟩)).trans hk
theorem TFr.own {b2 : Nat} {e : TypeId} {size n : Nat} {v : Value} {xs : List Value} (h : TFr base S w w') (ho : w.ownsRow b2 e size v n xs) (hS : ∀ k, v.ownBlock = some k → ¬ S k) (h1 : e ≠ 52) (h2 : e ≠ 9) (h3 : e ≠ 3) : w'.ownsRow b2 e size v n xs := by
  refine ⟨ho.1, ?_⟩
  rcases ho.2 with h4 | ⟨g, cap, cur, hv, hb, hh, r⟩
  · exact .inl h4
  · exact .inr ⟨g, cap, cur, hv, hb, h.blk (cs := cur) hh (hS g (by rw [hv]; rfl)) h1 h2 h3, r⟩
theorem DiskAt.tfr {b2 d bl : Nat} {wv : Value} {D : DSt} (h : DiskAt w b2 d bl wv D) (hf : TFr base S w w') (hS : ∀ k, dfoot d bl wv k → ¬ S k) : DiskAt w' b2 d bl wv D :=
  ⟨h.ok, hf.blk h.hd (hS _ (.inl rfl)) (by decide) (by decide) (by decide), hf.blk h.hl (hS _ (.inr (.inl rfl))) (by decide) (by decide) (by decide), hf.own h.hw (fun k hk => hS k (.inr (.inr hk))) (by decide) (by decide) (by decide), h.bd, h.bb⟩
theorem JAt.tfr {b2 j d c : Nat} {nv : Value} {J : JSt} (h : JAt w b2 j d c nv J) (hf : TFr base S w w') (hS : ∀ k, jfoot j nv k → ¬ S k) : JAt w' b2 j d c nv J :=
  ⟨hf.blk h.hj (hS _ (.inl rfl)) (by decide) (by decide) (by decide), hf.own h.hn (fun k hk => hS k (.inr hk)) (by decide) (by decide) (by decide), h.bj⟩
end

set_option maxRecDepth 100000 in
set_option maxHeartbeats 3200000 in
theorem rput_ok (w : World) (base x : Nat) (lv av tv : Value) (s : DSt) (h : RefAt w base x lv av tv s) (f c at_ : Nat) (hf : 2 ≤ f) (hfc : f + c ≤ s.l.length) (hc1 : 1 ≤ c) (A : Option Addr) (n cap : Nat) (b : List UInt8) (hb : b.length = n) (hA : SlAt w A n (bvs b)) (hat : at_ + n ≤ c * 128)
    (hcnt : s.waits.length + n ≤ 500000000 ∧ s.writes + n ≤ 500000000000) (fi ci ai : Int) (e1 : fi = f) (e2 : ci = c) (e3 : ai = at_) :
    Calls Try.prog 117 #[.pointer (some ⟨x, 0, none⟩), .int .i64 fi, .int .i64 ci, .int .i64 ai, .slice A n cap] w fun e w' => e = .returned (.int .i64 0) ∧ ∃ av' tv', RefAt w' base x lv av' tv' (s.put (f * 128 + at_) b) ∧ TFr base nob w w' := by
  subst e1 e2 e3
  have hnum := h.ok.num
  have hG := rget_ok w base x lv av tv s h f c at_ n hf hfc hc1 hat (f : Int) (c : Int) (at_ : Int) (n : Int) rfl rfl rfl rfl
  have hT := rtext_ok w base x lv av tv s h f c hfc
  have hst := run_str w.drew A n cap b (hA.below (B := w.heap.size) ((Below.refl _ _).drew) (Nat.le_refl _))
  obtain ⟨G, hGe⟩ : ∃ G, G = s.seg (f * 128 + at_) n := ⟨_, rfl⟩
  rw [← hGe] at hG
  clear hGe
  obtain ⟨X, hX⟩ : ∃ X, X = s.seg (f * 128) (c * 128) := ⟨_, rfl⟩
  have hXl : X.length = c * 128 := by rw [hX, seg_length]
  rw [← hX] at hT
  unfold strv at hT hG
  have z1 : (bs X).size = c * 128 := by rw [bs_size, hXl]
  have z2 : (bs b).size = n := by rw [bs_size, hb]
  have z3 : ((bs X).extract 0 at_).size = at_ := by rw [bs_cut, bs_size, List.length_take, List.length_drop, hXl]; omega
  have z4 : ((bs X).extract 0 at_ ++ bs b).size = at_ + n := by rw [ByteArray.size_append, z3, z2]
  have z5 : ((bs X).extract (at_ + n) (c * 128)).size = c * 128 - (at_ + n) := by rw [bs_cut, bs_size, List.length_take, List.length_drop, hXl]; omega
  have HH := hide h
  have HX := hide hX
  have HBL := hide hb
  clear h hX hb
  go_enter Try.func117, Try.ntmps117
  go_wp2_with (first
    | (go_at_call 100; refine hG.mono ?_; rintro e w' ⟨rfl, hw⟩; rw [hw]; clear hw w')
    | (go_at_call 119; refine hT.mono ?_; rintro e w' ⟨rfl, hw⟩; rw [hw]; clear hw w'))
  have hlo : (0 : Int) ≤ (at_ : Int) + (n : Int) := by omega
  have hle1 : (at_ : Int) ≤ (c : Int) * 128 := by omega
  have hn1 : ¬ 9223372036854775807 < at_ + n := by omega
  have hn2 : ¬ 9223372036854775807 < c * 128 := by omega
  have hwr : IntKind.i64.wrap ((at_ : Int) + (n : Int)) = (at_ : Int) + (n : Int) := IntWalk.i64_in _ (by omega)
  have htn : ((at_ : Int) + (n : Int)).toNat = at_ + n := by omega
  have hle2 : (at_ : Int) + (n : Int) ≤ (c : Int) * 128 := by omega
  refine wp_region_held 14 (fun w' => (convert 28 9 (.slice A n cap)).run Try.prog w' = .ok (.string (bs b)) w') (fun i => false) (by kernel_rfl) (by kernel_rfl) hst (fun ops hops F hF => ?_)
  clear hops
  simp only [List.take_succ_cons, List.take_zero, List.drop_succ_cons, List.drop_zero] at hF ⊢
  iterate 14 (refine held_q rfl rfl ?_; apply Exists.intro; refine ⟨fun w' hw' => ?_, ?_⟩; (go_simp; rfl); simp only [Act.put, List.setIfInBounds_toArray, List.set_cons_zero, List.set_cons_succ, Nat.reduceAdd])
  refine held_nil (hF _ _ ?_)
  clear hF F
  obtain ⟨Y, hY⟩ : ∃ Y, Y = over X at_ b := ⟨_, rfl⟩
  have hYe : (bs X).extract 0 at_ ++ bs b ++ (bs X).extract (at_ + n) (c * 128) = bs Y := by
    rw [bs_cut, bs_cut, bs_append, bs_append, hY]
    congr 1
    unfold over
    rw [List.drop_zero, Nat.sub_zero, List.append_assoc, HBL.out]
    congr 2
    exact List.take_of_length_le (by rw [List.length_drop, hXl]; omega)
  have hYl : Y.length = c * 128 := by rw [hY, over_length _ _ _ (by rw [hXl, HBL.out]; exact hat), hXl]
  rw [hYe]
  have zy : (bs Y).size = c * 128 := by rw [bs_size, hYl]
  have HY := hide hY
  clear hY hYe hwr htn hlo hle1 hle2 hn1 hn2 z1 z2 z3 z4 z5 hG hT hst
  have hcc := hcnt
  go_wp2_with fail
  go_loopw [15] (fun i wr => ∃ (k : Nat) (av' tv' : Value), k ≤ c ∧ i = .int .i64 k ∧ RefAt wr base x lv av' tv' (s.put (f * 128 + at_) (b.take (k * 128 - at_))) ∧ TFr base nob w wr) (fun i _ => c - (intOf i).toNat)
  case atStart => exact ⟨0, av, tv, by omega, rfl, by rw [show 0 * 128 - at_ = 0 by omega, List.take_zero, put_nil]; exact HH.out.fr (Fr.refl nob w).drew (fun _ _ h => h), TFr.ofFr (Fr.refl nob w).drew⟩
  case round =>
    obtain ⟨k, av', tv', hk, rfl, hx, hf1⟩ := hrel
    have HX1 := hide hx
    have HF1 := hide hf1
    clear hx hf1
    by_cases hlt : k < c
    · have hpp := put_part HH.out.ok f c at_ b hfc (by rw [HBL.out]; exact hat) (by rw [HBL.out]; omega) k hlt
      rw [HBL.out, ← HX.out, ← HY.out] at hpp
      have HPP := hide hpp
      clear hpp
      by_cases h1 : 0 < n ∧ 128 * k < at_ + n ∧ at_ < 128 * k + 128
      · obtain ⟨h11, h12, h13⟩ := h1
        obtain ⟨Z, hZ⟩ : ∃ Z, Z = (Y.drop (128 * k)).take 128 := ⟨_, rfl⟩
        have hZl : Z.length = 128 := by rw [hZ, List.length_take, List.length_drop, hYl]; omega
        have hcut : (bs Y).extract (128 * k) (128 * k + 128) = bs Z := by rw [bs_cut, show 128 * k + 128 - 128 * k = 128 by omega, hZ]
        obtain ⟨cp, w2, hcv, hsl, hb2⟩ := run_conv_bytes wr Z 128 hZl
        have t1 : decide (0 < n) = true := by simpa using h11
        have t2 : decide (128 * (k : Int) < (at_ : Int) + (n : Int)) = true := by simp; omega
        have t3 : decide ((at_ : Int) < 128 * (k : Int) + 128) = true := by simp; omega
        rw [← hZ] at HPP
        clear hZ
        have l1 : (0 : Int) ≤ 128 * (k : Int) := by omega
        have l2 : 128 * (k : Int) ≤ 128 * (k : Int) + 128 := by omega
        have l3 : 128 * (k : Int) + 128 ≤ (c : Int) * 128 := by omega
        have hput := put_Ok HH.out.ok (f * 128 + at_) (b.take (k * 128 - at_)) (by rw [List.length_take, HBL.out]; omega) (by rw [List.length_take, HBL.out]; omega)
        have htl : (b.take (k * 128 - at_)).length ≤ n := by rw [List.length_take, HBL.out]; omega
        have hx2 := HX1.out.below hb2 (Nat.le_refl _)
        obtain ⟨gs, os, hgs, hgsl, hrs⟩ := hsl.2 (by omega)
        injection hgs with hgs
        injection hgs with hg1 hg2
        subst hg1 hg2
        have hw := refWrite_ok w2 base x lv av' tv' _ hx2 (f + k) (by rw [put_l]; omega) wr.heap.size 0 cp Z hZl hrs (fun he => by
          have := (HX1.out.low _ (.inr (.inr (.inl he)))).2
          omega) (fun he => by
          have := (HX1.out.low _ (.inr (.inr (.inr he)))).2
          omega) (by omega)
        rw [show ((f + k : Nat) : Int) = (f : Int) + (k : Int) by omega] at hw
        have HW := hide hw
        have HX2 := hide hx2
        have HB2 := hide hb2
        clear hw hx2 hput htl hsl hrs hgsl hb2
        go_wp2_with fail
        refine HW.out.mono ?_
        rintro e w3 ⟨rfl, av3, tv3, hx3, f3⟩
        rw [if_pos ⟨h11, h12, h13⟩] at HPP
        rw [← HPP.out] at hx3
        have HX3 := hide hx3
        have HF3 := hide (HF1.out.trans ((TFr.ofBelow (S := nob) HB2.out).trans (TFr.ofRef (S := nob) HX2.out f3) (fun k hk => .inl hk)) (fun k hk => .inl hk))
        clear hx3 f3 HW HB2 HX2 HPP hcv t1 t2 t3 l1 l2 l3
        go_wp2
        go_roundw
        case rel => exact ⟨k + 1, av3, tv3, by omega, by go_num, HX3.out, HF3.out⟩
        case measure => simp [intOf]; omega
      · have hno : 0 < n → ¬ (128 * (k : Int) < (at_ : Int) + (n : Int) ∧ (at_ : Int) < 128 * (k : Int) + 128) := by omega
        rw [if_neg h1] at HPP
        clear h1
        go_wp2_with fail
        all_goals
          refine ⟨⟨k + 1, av', tv', by omega, by go_num, by rw [HPP.out]; exact HX1.out, HF1.out⟩, ?_⟩
          simp [intOf]; omega
    · obtain rfl : k = c := by omega
      go_wp2
      go_ret
      refine ⟨rfl, av', tv', ?_, HF1.out⟩
      have := HX1.out
      rwa [List.take_of_length_le (by rw [HBL.out]; omega)] at this
end Go.Proofs.Ytnnhklembdaieaa
namespace Go.Proofs.Ytnnhklembdaieaa
open Go.RowKit
set_option linter.unusedSimpArgs false
set_option linter.unusedVariables false

def xcells (x : Nat) (nx : Value) (J : JSt) (hf lg su : Nat) : Array Value :=
  #[.pointer (some ⟨x, 0, none⟩), .int .u64 (J.gen : Int), .int .i64 (J.area : Int), .int .i64 (J.len : Int), nx, .int .i64 (hf : Int), .int .i64 (lg : Int), .int .i64 (su : Int), .int .i64 (J.stage : Int), .int .i64 (J.all : Int), .int .i64 (J.done : Int)]
/-- the document's journal; its plan's numbers stay as they are behind a plan's end. -/
structure XAt (w : World) (base y x : Nat) (nx : Value) (J : JSt) (hf lg su : Nat) : Prop where
  hy : Blk w y 107 (xcells x nx J hf lg su)
  hn : w.ownsRow base 5 1 nx J.next.length (bvs J.next)
  pl : J.stage ≠ 0 → hf = J.half ∧ lg = J.length ∧ su = J.pdone
  by_ : base ≤ y
  bd : hf ≤ 1 ∧ lg ≤ 1000000
def xfoot (y : Nat) (nx : Value) : Nat → Prop := fun k => k = y ∨ nx.ownBlock = some k
section
variable {w w' : World} {base y x hf lg su : Nat} {nx : Value} {J : JSt}
theorem XAt.fr {S : Nat → Prop} (h : XAt w base y x nx J hf lg su) (hf' : Fr S w w') (hS : ∀ k, xfoot y nx k → ¬ S k) : XAt w' base y x nx J hf lg su :=
  ⟨h.hy.fr hf' (hS y (.inl rfl)), Fr.own h.hn hf' (fun k hk => hS k (.inr hk)), h.pl, h.by_, h.bd⟩
theorem XAt.tfr {S : Nat → Prop} (h : XAt w base y x nx J hf lg su) (hf' : TFr base S w w') (hS : ∀ k, xfoot y nx k → ¬ S k) : XAt w' base y x nx J hf lg su :=
  ⟨hf'.blk h.hy (hS y (.inl rfl)) (by decide) (by decide) (by decide), hf'.own h.hn (fun k hk => hS k (.inr hk)) (by decide) (by decide) (by decide), h.pl, h.by_, h.bd⟩
theorem XAt.low (h : XAt w base y x nx J hf lg su) : ∀ k, xfoot y nx k → base ≤ k ∧ k < w.heap.size := by
  rintro k (rfl | hk)
  · exact ⟨h.by_, h.hy.lt⟩
  · exact h.hn.lt k hk
theorem XAt.below {B : Nat} (h : XAt w base y x nx J hf lg su) (hb : Below B w w') (hB : w.heap.size ≤ B) : XAt w' base y x nx J hf lg su :=
  h.fr (Fr.ofBelow hb) (fun k hk => by have := (h.low k hk).2; omega)
theorem XAt.off (h : XAt w base y x nx J hf lg su) {k : Nat} {t : TypeId} {cs : Array Value} (hk : Blk w k t cs) (h1 : t ≠ 107) (h2 : t ≠ 5) : ¬ xfoot y nx k := by
  rintro (rfl | h4)
  · exact Blk.ne_ hk h.hy h1 rfl
  · exact own_ne h.hn hk (Ne.symm h2) h4
/-- the disk's rows are none of the journal's. -/
theorem XAt.offRef {lv av tv : Value} {D : DSt} (h : XAt w base y x nx J hf lg su) (hx : RefAt w base x lv av tv D) : ∀ k, xfoot y nx k → ¬ rfoot x lv av tv k := by
  rintro k (rfl | hk)
  · exact hx.off h.hy (by decide) (by decide) (by decide)
  · obtain ⟨cs, hcs⟩ := own_blk h.hn hk
    exact hx.off hcs (by decide) (by decide) (by decide)
end
/-- the document's journal and its disk. -/
structure XRun (w : World) (base x y c : Nat) (lv av tv nx : Value) (D : DSt) (J : JSt) (hf lg su : Nat) : Prop where
  hx : RefAt w base x lv av tv D
  hy : XAt w base y x nx J hf lg su
  ok : JOk c J
  hc : c = (D.l.length - 2) / 2
  cnt : D.waits.length ≤ 490000000 ∧ D.writes ≤ 490000000000 ∧ D.syncs ≤ 490000000000
theorem XRun.below {w w' : World} {base x y c hf lg su : Nat} {lv av tv nx : Value} {D : DSt} {J : JSt} (h : XRun w base x y c lv av tv nx D J hf lg su) (hb : Below w.heap.size w w') : XRun w' base x y c lv av tv nx D J hf lg su :=
  ⟨h.hx.below hb (Nat.le_refl _), h.hy.below hb (Nat.le_refl _), h.ok, h.hc, h.cnt⟩
theorem XRun.dl {w : World} {base x y c hf lg su : Nat} {lv av tv nx : Value} {D : DSt} {J : JSt} (h : XRun w base x y c lv av tv nx D J hf lg su) : 2 + 2 * c ≤ D.l.length ∧ 1 ≤ c := by
  have h1 := h.hc
  have h2 := h.ok.c1
  omega

theorem xcount_ok (w : World) (y x n c : Nat) (A : Option Addr) (cap : Nat) (h0 : w.cell? ⟨y, 0, none⟩ = some (.pointer (some ⟨x, 0, none⟩))) (h1 : w.cell? ⟨x, 0, none⟩ = some (.slice A n cap)) (hn : n ≤ 4096) (h2 : 2 ≤ n) (hc : c = (n - 2) / 2) :
    Calls Try.prog 98 #[.pointer (some ⟨y, 0, none⟩)] w fun e w' => e = .returned (.int .i64 (c : Int)) ∧ w = w' := by
  have hq : ((n : Int) - 2).tdiv 2 = (c : Int) := by
    rw [Int.tdiv_eq_ediv_of_nonneg (by omega)]; omega
  go_enter Try.func98, Try.ntmps98
  go_wp2
  go_ret
  refine ⟨?_, rfl⟩
  show Ending.returned (.int .i64 (((n - 2 : Nat) : Int) / 2)) = _
  congr 2
  omega
theorem xfirst_ok (w : World) (y x n c half : Nat) (A : Option Addr) (cap : Nat) (h0 : w.cell? ⟨y, 0, none⟩ = some (.pointer (some ⟨x, 0, none⟩))) (h1 : w.cell? ⟨x, 0, none⟩ = some (.slice A n cap)) (hn : n ≤ 4096) (h2 : 2 ≤ n) (hc : c = (n - 2) / 2) (hh : half ≤ 1) :
    Calls Try.prog 101 #[.pointer (some ⟨y, 0, none⟩), .int .i64 (half : Int)] w fun e w' => e = .returned (.int .i64 ((2 + half * c : Nat) : Int)) ∧ w = w' := by
  have HC := hide (xcount_ok w y x n c A cap h0 h1 hn h2 hc)
  have hcn : c ≤ 4096 := by omega
  clear hc h1 h0
  rcases (show half = 0 ∨ half = 1 by omega) with rfl | rfl
  all_goals
    go_enter Try.func101, Try.ntmps101
    go_wp2_with (go_at_call 98; refine HC.out.mono ?_; rintro e w' ⟨rfl, rfl⟩)
    go_ret
    refine ⟨?_, rfl⟩
    first | rfl | simp | (congr 2; simp; omega)
set_option maxRecDepth 100000 in
theorem xframe_ok (A : Option Addr) (n c : Nat) (r : List UInt8) (hn0 : 1 ≤ n) (hn : n ≤ 9223372036854) (w : World) (hr : SlAt w A n (bvs r)) : Calls Try.prog 96 #[.slice A n c] w fun e w' => ∃ v, e = .returned v ∧ w'.ownsRow w.heap.size 5 1 v (n + 2) (bvs (frameL r)) ∧ Below w.heap.size w w' := by
  obtain ⟨i0, hi0, hz0, hs0, hb0⟩ := info_parts info5'
  have hrl : r.length = n := by have := hr.1; rwa [bvs_length] at this
  obtain ⟨gb, ob, rfl, hgb, hrb⟩ := hr.2 (by omega)
  have HL := hide hrl
  have hbl := hr.1
  have HBL := hide hbl
  have HN := hide (fun (o : Obj) (j : Nat) (u : Value) (hu : (bvs r)[j]? = some u) => show (w.alloc o).cell? ((⟨gb, ob, none⟩ : Addr).add j) = some u by
    rw [Addr.add_mid, World.cell?_alloc_lt _ _ _ hgb]; exact hrb j u hu)
  have q1 : (n : Int).tdiv 256 = (n : Int) / 256 := Int.tdiv_eq_ediv_of_nonneg (by omega)
  have q2 : (n : Int).tmod 256 = (n : Int) % 256 := Int.tmod_eq_emod_of_nonneg (by omega)
  clear hr hrl hbl hrb
  go_enter Try.func96, Try.ntmps96
  go_wp2_with (at_builtin; refine wpList_append_grows _ rfl _ _ 28 rfl 5 i0 _ 1 1 Try.underlying28 hi0 hz0 hs0 hb0 rfl (by omega) (some ⟨w.heap.size, 0, none⟩) 2 2 (bvs [UInt8.ofNat (r.length / 256), UInt8.ofNat r.length]) ?_ ?_ ?_ ?_ ⟨gb, ob, none⟩ n c (bvs r) ?_ ?_ ?_ ?_ ?_ ?_ ?_ ?_)
  · rfl
  · intro h; cases h
  · rfl
  · intro b hb j u hj
    cases hb
    rw [Addr.add_mid, (Blk.new w 5 #[Value.int IntKind.u8 (↑n / 256 % 256), Value.int IntKind.u8 (↑n % 256)]).cell]
    have e1 : ((UInt8.ofNat (r.length / 256)).toNat : Int) = (n : Int) / 256 % 256 := by rw [UInt8.toNat_ofNat', HL.out]; omega
    have e2 : ((UInt8.ofNat r.length).toNat : Int) = (n : Int) % 256 := by rw [UInt8.toNat_ofNat', HL.out]; omega
    simp only [bvs, bv, List.map_cons, List.map_nil, e1, e2] at hj
    simpa using hj
  · rfl
  · rw [HBL.out, Nat.mul_one]
  · exact HN.out _
  · exact bvs_one r
  · omega
  · unfold maxLen; omega
  · omega
  · intro v3 w3 hown3 hgrow3
    go_wp2
    go_ret
    refine ⟨v3, rfl, ?_, ((Below.refl _ w).alloc (Nat.le_refl _) _).grown hgrow3 (by simp) (fun k hk => by cases hk)⟩
    have := own_base hown3 (b' := w.heap.size) (by simp)
    rw [← bvs_append] at this
    rw [show n + 2 = 2 + n by omega]
    exact this
theorem XRun.cells {w : World} {base x y c hf lg su : Nat} {lv av tv nx : Value} {D : DSt} {J : JSt} (h : XRun w base x y c lv av tv nx D J hf lg su) : w.cell? ⟨y, 0, none⟩ = some (.pointer (some ⟨x, 0, none⟩)) ∧ ∃ A cap, w.cell? ⟨x, 0, none⟩ = some (.slice A D.l.length cap) ∧ lv = .slice A D.l.length cap := by
  obtain ⟨A, cap, hlv, -, -, -⟩ := own_shape h.hx.hl
  exact ⟨(h.hy.hy.cell 0).trans rfl, A, cap, (h.hx.hx.cell 0).trans (by rw [hlv]; rfl), hlv⟩
theorem XRun.countE {w : World} {base x y c hf lg su : Nat} {lv av tv nx : Value} {D : DSt} {J : JSt} (h : XRun w base x y c lv av tv nx D J hf lg su) : Calls Try.prog 98 #[.pointer (some ⟨y, 0, none⟩)] w fun e w' => e = .returned (.int .i64 (c : Int)) ∧ w = w' := by
  obtain ⟨h0, A, cap, h1, -⟩ := h.cells
  exact xcount_ok w y x D.l.length c A cap h0 h1 h.hx.ok.num (by have := h.dl; omega) h.hc
theorem XRun.firstE {w : World} {base x y c hf lg su : Nat} {lv av tv nx : Value} {D : DSt} {J : JSt} (h : XRun w base x y c lv av tv nx D J hf lg su) (half : Nat) (hh : half ≤ 1) : Calls Try.prog 101 #[.pointer (some ⟨y, 0, none⟩), .int .i64 (half : Int)] w fun e w' => e = .returned (.int .i64 ((2 + half * c : Nat) : Int)) ∧ w = w' := by
  obtain ⟨h0, A, cap, h1, -⟩ := h.cells
  exact xfirst_ok w y x D.l.length c half A cap h0 h1 h.hx.ok.num (by have := h.dl; omega) h.hc hh
theorem XRun.drew {w : World} {base x y c hf lg su : Nat} {lv av tv nx : Value} {D : DSt} {J : JSt} (h : XRun w base x y c lv av tv nx D J hf lg su) : XRun w.drew base x y c lv av tv nx D J hf lg su := h.below ((Below.refl _ w).drew)
set_option maxRecDepth 100000 in
set_option maxHeartbeats 3200000 in
theorem xbegin_ok {w : World} {base x y c hf lg su : Nat} {lv av tv nx : Value} {D : DSt} {J : JSt} (h : XRun w base x y c lv av tv nx D J hf lg su) (half at_ : Nat) (A : Option Addr) (n cp : Nat) (b : List UInt8) (hA : SlAt w A n (bvs b)) (hh : half ≤ 1) (hat : at_ + n ≤ c * 128) :
    Calls Try.prog 97 #[.pointer (some ⟨y, 0, none⟩), .int .i64 (half : Int), .int .i64 (at_ : Int), .slice A n cp] w fun e w' => e = .returned (.tuple #[]) ∧ ∃ av' tv', RefAt w' base x lv av' tv' (D.put ((2 + half * c) * 128 + at_) b) ∧ XAt w' base y x (.slice none 0 0) (J.begun half at_ n) half (at_ + n) J.all ∧ TFr base (fun k => k = y) w w' := by
  have hbl : b.length = n := by have := hA.1; rwa [bvs_length] at this
  have hdl := h.dl
  have hc2 : c ≤ 4096 := h.ok.c2
  have hal := h.ok.all
  have h0 : w.drew.cell? ⟨y, 0, none⟩ = some (.pointer (some ⟨x, 0, none⟩)) := h.drew.cells.1
  have HF := hide (h.drew.firstE half hh)
  have HC := hide h.drew.countE
  obtain ⟨fi, hfi⟩ : ∃ fi : Int, fi = ((2 + half * c : Nat) : Int) := ⟨_, rfl⟩
  have HP := hide (rput_ok w.drew base x lv av tv D h.drew.hx (2 + half * c) c at_ (by omega) (by have : half * c ≤ 1 * c := Nat.mul_le_mul_right c hh; omega) hdl.2 A n cp b hbl (hA.below (B := w.heap.size) ((Below.refl _ _).drew) (Nat.le_refl _)) hat (by have := h.cnt; omega) fi (c : Int) (at_ : Int) hfi rfl rfl)
  rw [← hfi] at HF
  have HH := hide h
  clear hA hfi hdl h
  go_enter Try.func97, Try.ntmps97
  go_wp2_with fail
  refine wp_region_held 12 (fun w' => w'.cell? ⟨y, 0, none⟩ = some (.pointer (some ⟨x, 0, none⟩))) (fun i => i == 6 || i == 8 || i == 11) (by kernel_rfl) (by kernel_rfl) h0 (fun ops hops F hF => ?_)
  clear hops
  simp only [List.take_succ_cons, List.take_zero, List.drop_succ_cons, List.drop_zero] at hF ⊢
  iterate 6 (refine held_q rfl rfl ?_; apply Exists.intro; refine ⟨fun w' hw' => ?_, ?_⟩; (go_simp; rfl); simp only [Act.put, List.setIfInBounds_toArray, List.set_cons_zero, List.set_cons_succ, Nat.reduceAdd])
  refine held_loud rfl rfl (fun K hK => ?_)
  go_simp
  refine HF.out.mono ?_
  rintro e w1 ⟨rfl, hw1⟩
  rw [← hw1]
  refine hK _ _ h0 ?_
  clear hK K hw1 w1
  simp only [Act.put, List.setIfInBounds_toArray, List.set_cons_zero, List.set_cons_succ, Nat.reduceAdd]
  iterate 1 (refine held_q rfl rfl ?_; apply Exists.intro; refine ⟨fun w' hw' => ?_, ?_⟩; (go_simp; rfl); simp only [Act.put, List.setIfInBounds_toArray, List.set_cons_zero, List.set_cons_succ, Nat.reduceAdd])
  refine held_loud rfl rfl (fun K hK => ?_)
  go_simp
  refine HC.out.mono ?_
  rintro e w1 ⟨rfl, hw1⟩
  rw [← hw1]
  refine hK _ _ h0 ?_
  clear hK K hw1 w1
  simp only [Act.put, List.setIfInBounds_toArray, List.set_cons_zero, List.set_cons_succ, Nat.reduceAdd]
  iterate 2 (refine held_q rfl rfl ?_; apply Exists.intro; refine ⟨fun w' hw' => ?_, ?_⟩; (go_simp; rfl); simp only [Act.put, List.setIfInBounds_toArray, List.set_cons_zero, List.set_cons_succ, Nat.reduceAdd])
  refine held_loud rfl rfl (fun K hK => ?_)
  go_simp
  refine HP.out.mono ?_
  rintro e w3 ⟨rfl, av3, tv3, hx3, f3⟩
  have hy3 := HH.out.drew.hy.tfr f3 (fun _ _ h => h)
  refine hK _ _ ((hy3.hy.cell 0).trans rfl) ?_
  clear hK K
  simp only [Act.put, List.setIfInBounds_toArray, List.set_cons_zero, List.set_cons_succ, Nat.reduceAdd]
  refine held_nil (hF _ _ ?_)
  clear hF F HP HF HC h0
  have k3 := hy3.hy
  have c9 : w3.cell? ⟨y, 9, none⟩ = some (.int .i64 (J.all : Int)) := (k3.cell 9).trans rfl
  have y4 : w3.cell? ⟨y, 4, none⟩ = some nx := (k3.cell 4).trans rfl
  have y5 : w3.cell? ⟨y, 5, none⟩ = some (.int .i64 (hf : Int)) := (k3.cell 5).trans rfl
  have y6 : w3.cell? ⟨y, 6, none⟩ = some (.int .i64 (lg : Int)) := (k3.cell 6).trans rfl
  have y7 : w3.cell? ⟨y, 7, none⟩ = some (.int .i64 (su : Int)) := (k3.cell 7).trans rfl
  have y8 : w3.cell? ⟨y, 8, none⟩ = some (.int .i64 (J.stage : Int)) := (k3.cell 8).trans rfl
  have z4 := k3.frozen 4
  have z5 := k3.frozen 5
  have z6 := k3.frozen 6
  have z7 := k3.frozen 7
  have z8 := k3.frozen 8
  have HK := hide k3
  have HX3 := hide hx3
  have HF3 := hide f3
  have HY3 := hide hy3
  clear k3 hx3 f3 hy3
  go_wp2
  go_end0
  have FS : ∀ (S : Nat → Prop), S y → Fr S w3 (((((w3.setCell { block := y, off := 5 } (Value.int IntKind.i64 ↑half)).setCell { block := y, off := 6 } (Value.int IntKind.i64 (↑at_ + ↑n))).setCell { block := y, off := 7 } (Value.int IntKind.i64 ↑J.all)).setCell { block := y, off := 4 } (Value.slice none 0 0)).setCell { block := y, off := 8 } (Value.int IntKind.i64 1)) := fun S hS =>
    (((((Fr.refl S w3).setCell (p := ⟨y, 5, none⟩) (.inl hS) _).setCell (p := ⟨y, 6, none⟩) (.inl hS) _).setCell (p := ⟨y, 7, none⟩) (.inl hS) _).setCell (p := ⟨y, 4, none⟩) (.inl hS) _).setCell (p := ⟨y, 8, none⟩) (.inl hS) _
  refine ⟨rfl, av3, tv3, ?_, ⟨?_, World.ownsRow_nil _ _ _ _, fun _ => ⟨rfl, rfl, rfl⟩, HY3.out.by_, hh, by omega⟩, ?_⟩
  · refine HX3.out.fr (FS (fun k => k = y) rfl) (fun k hk e => ?_)
    subst e
    exact HX3.out.off HK.out (by decide) (by decide) (by decide) hk
  · have e1 := ((((HK.out.set_ 5 (.int .i64 (half : Int))).set_ 6 (.int .i64 ((at_ : Int) + (n : Int)))).set_ 7 (.int .i64 (J.all : Int))).set_ 4 (.slice none 0 0)).set_ 8 (.int .i64 1)
    exact e1
  · exact ((TFr.ofFr ((Fr.refl _ w).drew)).trans HF3.out (fun k hk => hk.elim)).trans (TFr.ofFr (FS (fun k => k = y) rfl)) (fun k hk => .inl hk)
end Go.Proofs.Ytnnhklembdaieaa
namespace Go.Proofs.Ytnnhklembdaieaa
open Go.RowKit
set_option linter.unusedSimpArgs false
set_option linter.unusedVariables false

set_option maxRecDepth 100000 in
set_option maxHeartbeats 3200000 in
theorem xfits_ok {w : World} {base x y c hf lg su : Nat} {lv av tv nx : Value} {D : DSt} {J : JSt} (h : XRun w base x y c lv av tv nx D J hf lg su) (n : Int) :
    Calls Try.prog 63 #[.pointer (some ⟨y, 0, none⟩), .int .i64 n] w fun e w' => e = .returned (.bool (jfits c J n)) ∧ Below w.heap.size w w' := by
  obtain ⟨A, cp, hnx, -⟩ := own_shape h.hy.hn
  obtain ⟨m, hm⟩ : ∃ m, m = J.next.length := ⟨_, rfl⟩
  rw [← hm] at hnx
  obtain ⟨at_, hat⟩ : ∃ a, a = if J.stage = 0 then J.len else J.length := ⟨_, rfl⟩
  have htl : J.tl.2 = at_ + m := by rw [hat, hm]; unfold JSt.tl; split <;> rfl
  have hfd : jfits c J n = decide (1 ≤ n ∧ n ≤ 2000 ∧ n + 2 ≤ (c : Int) * 128 - ((at_ + m : Nat) : Int)) := by unfold jfits; rw [htl]
  have hb : at_ ≤ 524288 ∧ m ≤ 524288 := by
    have h1 := h.ok.le; have h2 := h.ok.lg; have h3 := h.ok.ln; have h4 := h.ok.c2
    rw [hat, hm]
    split <;> omega
  obtain ⟨hb1, hb2⟩ := hb
  have hc2 := h.ok.c2
  have k3 : w.cell? ⟨y, 3, none⟩ = some (.int .i64 (J.len : Int)) := (h.hy.hy.cell 3).trans rfl
  have k4 : w.cell? ⟨y, 4, none⟩ = some (.slice A m cp) := (h.hy.hy.cell 4).trans (by rw [hnx]; rfl)
  have k6 : w.cell? ⟨y, 6, none⟩ = some (.int .i64 (lg : Int)) := (h.hy.hy.cell 6).trans rfl
  have k8 : w.cell? ⟨y, 8, none⟩ = some (.int .i64 (J.stage : Int)) := (h.hy.hy.cell 8).trans rfl
  have hpl := h.hy.pl
  have HC := hide (fun k => (h.below (w' := w.drewN k) (((Fr.refl nob w).drewN k).belowThis (fun _ h => h))).countE)
  rw [hfd]
  clear hfd htl hm hnx h
  have hcase : (decide (n ≥ 1) = false ∧ decide (1 ≤ n ∧ n ≤ 2000 ∧ n + 2 ≤ (c : Int) * 128 - ((at_ + m : Nat) : Int)) = false) ∨ (decide (n ≥ 1) = true ∧ decide (n ≤ 2000) = false ∧ decide (1 ≤ n ∧ n ≤ 2000 ∧ n + 2 ≤ (c : Int) * 128 - ((at_ + m : Nat) : Int)) = false) ∨ (decide (n ≥ 1) = true ∧ decide (n ≤ 2000) = true ∧ 1 ≤ n ∧ n ≤ 2000 ∧ decide (1 ≤ n ∧ n ≤ 2000 ∧ n + 2 ≤ (c : Int) * 128 - ((at_ + m : Nat) : Int)) = decide (n + 2 ≤ 128 * (c : Int) - (at_ : Int) - (m : Int))) := by
    by_cases h1 : 1 ≤ n
    · by_cases h2 : n ≤ 2000
      · refine .inr (.inr ⟨by simpa using h1, by simpa using h2, h1, h2, ?_⟩)
        congr 1
        simp only [eq_iff_iff]; omega
      · exact .inr (.inl ⟨by simpa using h1, by simpa using h2, by simp; omega⟩)
    · exact .inl ⟨by simpa using h1, by simp; omega⟩
  by_cases hs : J.stage = 0
  · rw [if_pos hs] at hat
    have t8 : decide ((J.stage : Int) > 0) = false := by simp; omega
    have t8' : decide (0 < J.stage) = false := by simp; omega
    rw [← hat] at k3
    clear hpl hs hat k6
    rcases hcase with ⟨c1, cr⟩ | ⟨c1, c2, cr⟩ | ⟨c1, c2, n1, n2, cr⟩
    all_goals
      rw [cr]
      clear cr
      go_enter Try.func63, Try.ntmps63
      go_wp2_with fail
      go_quiet ((go_at_call 98; exact quiet_left (HC.out _)))
      go_wp2
      go_ret
      exact ⟨rfl, ((Fr.refl nob w).drewN _).belowThis (fun _ h => h)⟩
  · rw [if_neg hs] at hat
    have t8 : decide ((J.stage : Int) > 0) = true := by simp; omega
    have t8' : decide (0 < J.stage) = true := by simp; omega
    have t8'' : (0 : Int) < (J.stage : Int) := by omega
    rw [(hpl hs).2.1, ← hat] at k6
    clear hpl hs hat
    rcases hcase with ⟨c1, cr⟩ | ⟨c1, c2, cr⟩ | ⟨c1, c2, n1, n2, cr⟩
    all_goals
      rw [cr]
      clear cr
      go_enter Try.func63, Try.ntmps63
      go_wp2_with fail
      go_quiet ((go_at_call 98; exact quiet_left (HC.out _)))
      go_wp2
      go_ret
      exact ⟨rfl, ((Fr.refl nob w).drewN _).belowThis (fun _ h => h)⟩

set_option maxRecDepth 100000 in
set_option maxHeartbeats 3200000 in
theorem xappend_ok {w : World} {base x y c hf lg su : Nat} {lv av tv nx : Value} {D : DSt} {J : JSt} (h : XRun w base x y c lv av tv nx D J hf lg su) (A : Option Addr) (n cp : Nat) (r : List UInt8) (hr : SlAt w A n (bvs r)) (hn : n ≤ 9223372036854775807) :
    Calls Try.prog 57 #[.pointer (some ⟨y, 0, none⟩), .slice A n cp] w fun e w' => ∃ nx', e = .returned (.tuple #[.int .i64 ((japp c J r).2.1 : Int), .int .i64 ((japp c J r).2.2 : Int)]) ∧ XAt w' base y x nx' (japp c J r).1 hf lg su ∧ Fr (xfoot y nx) w w' ∧ Later nx nx' w := by
  have hrl : r.length = n := by have := hr.1; rwa [bvs_length] at this
  have HF := hide (xfits_ok h (n : Int))
  have HJ := hide h
  by_cases h1 : isRec n = true
  · have hn0 : 1 ≤ n ∧ n ≤ 2000 := by simpa [isRec] using h1
    have t1 : decide ((n : Int) < 1) = false := by simp; omega
    have t2 : decide ((n : Int) > 2000) = false := by simp; omega
    by_cases h2 : jfits c J (n : Int) = true
    · have HE := hide (show japp c J r = (J.app r, J.all + 1, 0) by unfold japp; rw [hrl, if_pos h1, if_pos h2])
      have hnl : J.next.length + n + 2 ≤ c * 128 := by
        have hh : (1 : Int) ≤ n ∧ (n : Int) ≤ 2000 ∧ (n : Int) + 2 ≤ (c : Int) * 128 - (J.tl.2 : Int) := by simpa [jfits] using h2
        have : J.next.length ≤ J.tl.2 := by unfold JSt.tl; split <;> (show _ ≤ _ + _; omega)
        omega
      have HL := hide hrl
      rw [h2] at HF
      obtain ⟨hn1, hn2⟩ := hn0
      have hc2 : c ≤ 4096 := h.ok.c2
      have hal : J.all ≤ 1000000000000 := h.ok.all
      clear h hrl h1 h2
      obtain ⟨i0, hi0, hz0, hs0, hb0⟩ := info_parts info5'
      go_enter Try.func57, Try.ntmps57
      go_wp2_with fail
      refine HF.out.mono ?_
      rintro e w1 ⟨rfl, hb1⟩
      have hj1 := HJ.out.below hb1
      have hr1 := hr.below hb1 (Nat.le_refl _)
      go_upto_region 5 with fail
      have hd1 : Below w.heap.size w w1.drew := hb1.drew
      have hj1' := HJ.out.below hd1
      have hr1' := hr.below hd1 (Nat.le_refl _)
      obtain ⟨w2, hw2⟩ : ∃ w2, w2 = w1.drew := ⟨_, rfl⟩
      have HFR := hide (xframe_ok A n cp r hn1 (by omega) w2 (by rw [hw2]; exact hr1'))
      have HJ2 := hide (show XAt w2 base y x nx J hf lg su by rw [hw2]; exact hj1'.hy)
      have HB2 := hide (show Below w.heap.size w w2 by rw [hw2]; exact hd1)
      have hS : w1.drew.cell? ⟨y, 4, none⟩ = some nx := (hj1'.hy.hy.cell 4).trans rfl
      refine wp_region_held 10 (fun w' => w'.cell? ⟨y, 4, none⟩ = some nx) (fun i => i == 6 || i == 7) (by kernel_rfl) (by kernel_rfl) hS (fun ops hops F hF => ?_)
      rw [← hw2]
      clear hops hw2 hj1 hr1 hd1 hj1' hr1' hS hr hb1
      simp only [List.take_succ_cons, List.take_zero, List.drop_succ_cons, List.drop_zero] at hF ⊢
      iterate 6 (refine held_q rfl rfl ?_; apply Exists.intro; refine ⟨fun w' hw' => ?_, ?_⟩; (go_simp; rfl); simp only [Act.put, List.setIfInBounds_toArray, List.set_cons_zero, List.set_cons_succ, Nat.reduceAdd])
      refine held_loud rfl rfl (fun K hK => ?_)
      go_simp
      refine HFR.out.mono ?_
      rintro e w3 ⟨v3, rfl, hown3, hb3⟩
      have hj3 := HJ2.out.below hb3 (Nat.le_refl _)
      refine hK _ _ ((hj3.hy.cell 4).trans rfl) ?_
      clear hK K
      simp only [Act.put, List.setIfInBounds_toArray, List.set_cons_zero, List.set_cons_succ, Nat.reduceAdd]
      obtain ⟨A3, cp3, rfl, -, -, hA3⟩ := own_shape hown3
      obtain ⟨g3, rfl, hg3, hg3', hr3⟩ := hA3 (by omega)
      refine held_loud rfl rfl (fun K hK => ?_)
      refine wp_append_lies _ _ _ 28 rfl base 5 i0 _ 1 1 Try.underlying28 hi0 hz0 hs0 hb0 rfl (by omega) nx J.next.length (bvs J.next) rfl hj3.hn ⟨g3, 0, none⟩ (n + 2) cp3 (bvs (frameL r)) rfl ?_ ?_ (bvs_one _) (by omega) (by unfold maxLen; omega) (by omega) ?_ _ rfl ?_
      · rw [bvs_length, frameL_length, HL.out]; omega
      · intro i u hu; rw [Addr.add_mid]; exact hr3 i u hu
      · have := hj3.by_; have := hj3.hy.lt; omega
      intro g cap2 w4 hown hgrow hat hlt
      have f3 : Fr (fun k => nx.ownBlock = some k) w3 w4 := (Fr.refl _ w3).grown hgrow (fun k hk => .inl hk)
      have hfr : Fr (fun k => nx.ownBlock = some k) w w4 := ((Fr.none_ HB2.out).trans ((Fr.none_ hb3).trans f3 (fun k hk => .inl hk)) (fun k hk => .inl hk))
      have hnj : nx.ownBlock ≠ some y := own_ne hj3.hn hj3.hy (by decide)
      have k4 := hj3.hy.fr f3 hnj
      have hgj : g ≠ y := by
        rcases hat with h9 | h9
        · intro e; subst e; exact hnj h9
        · have := hj3.hy.lt; omega
      have hlat : Later nx (.slice (some ⟨g, 0, none⟩) (J.next.length + (n + 2)) cap2) w := fun k hk => by
        have hk' : g = k := by simpa [Value.ownBlock] using hk
        subst hk'
        rcases hat with h9 | h9
        · exact .inl h9
        · right; have := HB2.out.size; have := hb3.size; omega
      have h8 : w4.cell? ⟨y, 4, none⟩ = some nx := (k4.cell 4).trans rfl
      have h14 : w4.cell? ⟨y, 9, none⟩ = some (.int .i64 (J.all : Int)) := (k4.cell 9).trans rfl
      have z8 := k4.frozen 4
      have z14 := k4.frozen 9
      have HK := hide k4
      have HO := hide hown
      have HFr := hide hfr
      refine hK _ _ h8 ?_
      clear hK K hj3 hnj hat k4 hown hgrow hlt f3 hfr hb3 hown3 hr3
      simp only [Act.put, List.setIfInBounds_toArray, List.set_cons_zero, List.set_cons_succ, Nat.reduceAdd]
      iterate 2 (refine held_q rfl rfl ?_; apply Exists.intro; refine ⟨fun w' hw' => ?_, ?_⟩; (go_simp; rfl); simp only [Act.put, List.setIfInBounds_toArray, List.set_cons_zero, List.set_cons_succ, Nat.reduceAdd])
      refine held_nil (hF _ _ ?_)
      clear hF F
      go_wp2
      go_ret2
      rw [HE.out]
      have hbx := HJ.out.hy
      refine ⟨.slice (some ⟨g, 0, none⟩) (J.next.length + (n + 2)) cap2, rfl, ⟨?_, ?_, hbx.pl, hbx.by_, hbx.bd⟩, ?_, hlat⟩
      · have e1 := (HK.out.set_ 4 (.slice (some ⟨g, 0, none⟩) (J.next.length + (n + 2)) cap2)).set_ 9 (.int .i64 ((J.all : Int) + 1))
        exact e1
      · have e2 := Fr.own HO.out (((Fr.refl (fun k => k = y) w4).setCell (p := ⟨y, 4, none⟩) (.inl rfl) (.slice (some ⟨g, 0, none⟩) (J.next.length + (n + 2)) cap2)).setCell (p := ⟨y, 9, none⟩) (.inl rfl) (.int .i64 ((J.all : Int) + 1))) (fun k hk e => hgj (by simpa [Value.ownBlock, e] using hk))
        rw [← bvs_append] at e2
        have e3 : (J.next ++ frameL r).length = J.next.length + (n + 2) := by rw [List.length_append, frameL_length, HL.out]
        show World.ownsRow _ base 5 1 _ (J.next ++ frameL r).length (bvs (J.next ++ frameL r))
        rw [e3]
        exact e2
      · exact (((HFr.out.mono (fun k hk => .inr hk)).setCell (p := ⟨y, 4, none⟩) (.inl (.inl rfl)) _).setCell (p := ⟨y, 9, none⟩) (.inl (.inl rfl)) _)
    · have HE := hide (show japp c J r = (J, 0, 5) by unfold japp; rw [hrl, if_pos h1, if_neg h2])
      simp only [Bool.not_eq_true] at h2
      rw [h2] at HF
      obtain ⟨hn1, hn2⟩ := hn0
      clear h hrl h1 h2
      go_enter Try.func57, Try.ntmps57
      go_wp2_with fail
      refine HF.out.mono ?_
      rintro e w1 ⟨rfl, hb1⟩
      go_wp2_with fail
      go_ret2
      rw [HE.out]
      exact ⟨nx, rfl, HJ.out.hy.below hb1 (Nat.le_refl _), Fr.none_ hb1, Later.refl _ _⟩
  · have HE := hide (show japp c J r = (J, 0, 1) by unfold japp; rw [hrl, if_neg h1])
    have hcs : (n < 1) ∨ (1 ≤ n ∧ 2000 < n) := by
      simp only [isRec, decide_eq_true_eq] at h1; omega
    clear h hrl h1
    rcases hcs with hc1 | ⟨hc1, hc2⟩
    · have t1 : decide ((n : Int) < 1) = true := by simp; omega
      go_enter Try.func57, Try.ntmps57
      go_wp2_with fail
      go_ret2
      rw [HE.out]
      exact ⟨nx, rfl, HJ.out.hy, Fr.refl _ _, Later.refl _ _⟩
    · have t1 : decide ((n : Int) < 1) = false := by simp; omega
      have t2 : decide ((n : Int) > 2000) = true := by simp; omega
      go_enter Try.func57, Try.ntmps57
      go_wp2_with fail
      go_ret2
      rw [HE.out]
      exact ⟨nx, rfl, HJ.out.hy, Fr.refl _ _, Later.refl _ _⟩
end Go.Proofs.Ytnnhklembdaieaa
namespace Go.Proofs.Ytnnhklembdaieaa
open Go.RowKit
set_option linter.unusedSimpArgs false
set_option linter.unusedVariables false

/-- what a Step leaves. -/
def XLeft (w w' : World) (base x y : Nat) (lv nx : Value) (D : DSt) (J : JSt) : Prop :=
  ∃ av' tv' nx' hf' lg' su', RefAt w' base x lv av' tv' D ∧ XAt w' base y x nx' J hf' lg' su' ∧ TFr base (xfoot y nx) w w' ∧ Later nx nx' w
set_option maxRecDepth 100000 in
set_option maxHeartbeats 6400000 in
theorem xstep_ok {w : World} {base x y c hf lg su : Nat} {lv av tv nx : Value} {D : DSt} {J : JSt} (h : XRun w base x y c lv av tv nx D J hf lg su) (hg : 1 ≤ J.gen ∧ J.gen < 1000000000000) :
    Calls Try.prog 58 #[.pointer (some ⟨y, 0, none⟩)] w fun e w' => e = .returned (.tuple #[.int .i64 ((jstep c D J).2.1.stage : Int), .int .i64 ((jstep c D J).2.2 : Int)]) ∧ XLeft w w' base x y lv nx (jstep c D J).1 (jstep c D J).2.1 := by
  have k := h.drew.hy.hy
  have c1 : w.drew.cell? ⟨y, 1, none⟩ = some (.int .u64 (J.gen : Int)) := (k.cell 1).trans rfl
  have c5 : w.drew.cell? ⟨y, 5, none⟩ = some (.int .i64 (hf : Int)) := (k.cell 5).trans rfl
  have c6 : w.drew.cell? ⟨y, 6, none⟩ = some (.int .i64 (lg : Int)) := (k.cell 6).trans rfl
  have hyl := k.lt
  have hwr : IntKind.u64.wrap ((J.gen : Int) + 1) = (J.gen : Int) + 1 := IntWalk.u64_in _ (by omega)
  have hst3 := h.ok.st
  obtain ⟨hg1, hg2⟩ := hg
  have HH := hide h
  obtain ⟨R, hR⟩ : ∃ R, R = jstep c D J := ⟨_, rfl⟩
  rw [← hR]
  have HR := hide hR
  clear k h hR
  go_enter Try.func58, Try.ntmps58
  go_wp2_with fail
  refine wp_region_held 17 (fun w' => w'.cell? ⟨y, 1, none⟩ = some (.int .u64 (J.gen : Int)) ∧ w'.cell? ⟨y, 5, none⟩ = some (.int .i64 (hf : Int)) ∧ w'.cell? ⟨y, 6, none⟩ = some (.int .i64 (lg : Int))) (fun i => i == 15 || i == 16) (by kernel_rfl) (by kernel_rfl) ⟨c1, c5, c6⟩ (fun ops hops F hF => ?_)
  clear hops
  simp only [List.take_succ_cons, List.take_zero, List.drop_succ_cons, List.drop_zero] at hF ⊢
  iterate 15 (refine held_q rfl rfl ?_; apply Exists.intro; refine ⟨fun w' hw' => ?_, ?_⟩; (obtain ⟨x0, x1, x2⟩ := hw'; go_simp; rfl); simp only [Act.put, List.setIfInBounds_toArray, List.set_cons_zero, List.set_cons_succ, Nat.reduceAdd])
  refine held_loud rfl rfl (fun K hK => ?_)
  go_simp
  have kn := (Blk.new w 105 #[Value.int IntKind.u64 0, Value.int IntKind.i64 0, Value.int IntKind.i64 0]).drew
  have fn : Fr nob w (w.alloc (Obj.cells #[Value.int IntKind.u64 0, Value.int IntKind.i64 0, Value.int IntKind.i64 0] 105)).drew := ((Fr.refl nob w).alloc _).drew
  obtain ⟨w1, hw1⟩ : ∃ w1, w1 = (w.alloc (Obj.cells #[Value.int IntKind.u64 0, Value.int IntKind.i64 0, Value.int IntKind.i64 0] 105)).drew := ⟨_, rfl⟩
  obtain ⟨q, hq⟩ : ∃ q, q = w.heap.size := ⟨_, rfl⟩
  rw [← hw1] at kn fn ⊢
  rw [← hq] at kn ⊢
  clear hw1
  refine hK _ _ ⟨(fn.cell (p := ⟨y, 1, none⟩) hyl (fun h => h)).trans c1, (fn.cell (p := ⟨y, 5, none⟩) hyl (fun h => h)).trans c5, (fn.cell (p := ⟨y, 6, none⟩) hyl (fun h => h)).trans c6⟩ ?_
  clear hK K
  simp only [Act.put, List.setIfInBounds_toArray, List.set_cons_zero, List.set_cons_succ, Nat.reduceAdd]
  have hqy : q ≠ y := by have : y < w.heap.size := hyl; omega
  have HQ := hide hq
  clear hq
  have e0 := kn.cell 0
  have e1 := kn.cell 1
  have e2 := kn.cell 2
  have z0 := kn.frozen 0
  have z1 := kn.frozen 1
  have z2 := kn.frozen 2
  simp at e0 e1 e2
  refine held_loud rfl rfl (fun K hK => ?_)
  go_simp
  have ks := ((kn.set_ 0 (Value.int IntKind.u64 (↑J.gen + 1))).set_ 1 (Value.int IntKind.i64 ↑hf)).set_ 2 (Value.int IntKind.i64 ↑lg)
  have ks' : Blk (((w1.setCell { block := q, off := 0 } (Value.int IntKind.u64 (↑J.gen + 1))).setCell { block := q, off := 1 } (Value.int IntKind.i64 ↑hf)).setCell { block := q, off := 2 } (Value.int IntKind.i64 ↑lg)) q 105 #[Value.int IntKind.u64 (↑J.gen + 1), Value.int IntKind.i64 ↑hf, Value.int IntKind.i64 ↑lg] := ks
  have fq : Fr (fun k => k = q) w1 (((w1.setCell { block := q, off := 0 } (Value.int IntKind.u64 (↑J.gen + 1))).setCell { block := q, off := 1 } (Value.int IntKind.i64 ↑hf)).setCell { block := q, off := 2 } (Value.int IntKind.i64 ↑lg)) := (((Fr.refl (fun k => k = q) w1).setCell (p := ⟨q, 0, none⟩) (.inl rfl) _).setCell (p := ⟨q, 1, none⟩) (.inl rfl) _).setCell (p := ⟨q, 2, none⟩) (.inl rfl) _
  obtain ⟨w2, hw2⟩ : ∃ w2, w2 = (((w1.setCell { block := q, off := 0 } (Value.int IntKind.u64 (↑J.gen + 1))).setCell { block := q, off := 1 } (Value.int IntKind.i64 ↑hf)).setCell { block := q, off := 2 } (Value.int IntKind.i64 ↑lg)) := ⟨_, rfl⟩
  rw [← hw2] at ks' fq ⊢
  have b2 : Below w.heap.size w w2 := (fn.belowThis (fun _ h => h)).trans (fq.below (B := w.heap.size) fn.size (fun k hk => by have := HQ.out; omega))
  clear hw2 ks kn e0 e1 e2 z0 z1 z2 fn fq
  have H2 := hide (HH.out.below b2)
  have k2 := H2.out.hy.hy
  have d1 : w2.cell? ⟨y, 1, none⟩ = some (.int .u64 (J.gen : Int)) := (k2.cell 1).trans rfl
  have d5 : w2.cell? ⟨y, 5, none⟩ = some (.int .i64 (hf : Int)) := (k2.cell 5).trans rfl
  have d6 : w2.cell? ⟨y, 6, none⟩ = some (.int .i64 (lg : Int)) := (k2.cell 6).trans rfl
  refine hK _ _ ⟨d1, d5, d6⟩ ?_
  clear hK K
  simp only [Act.put, List.setIfInBounds_toArray, List.set_cons_zero, List.set_cons_succ, Nat.reduceAdd]
  refine held_nil (hF _ _ ?_)
  clear hF F c1 c5 c6
  have HKS := hide ks'
  have HB2 := hide b2
  have d8 : w2.cell? ⟨y, 8, none⟩ = some (.int .i64 (J.stage : Int)) := (k2.cell 8).trans rfl
  obtain ⟨AN, cpN, hnx, hcpN, hmxN, hAN⟩ := own_shape H2.out.hy.hn
  obtain ⟨m, hm⟩ : ∃ m, m = J.next.length := ⟨_, rfl⟩
  rw [← hm] at hnx hcpN hAN
  have d4 : w2.cell? ⟨y, 4, none⟩ = some (.slice AN m cpN) := (k2.cell 4).trans (by rw [hnx]; rfl)
  have d0 : w2.cell? ⟨y, 0, none⟩ = some (.pointer (some ⟨x, 0, none⟩)) := (k2.cell 0).trans rfl
  have d2 : w2.cell? ⟨y, 2, none⟩ = some (.int .i64 (J.area : Int)) := (k2.cell 2).trans rfl
  have d3 : w2.cell? ⟨y, 3, none⟩ = some (.int .i64 (J.len : Int)) := (k2.cell 3).trans rfl
  have q0 : w2.cell? ⟨q, 0, none⟩ = some (Value.int IntKind.u64 (↑J.gen + 1)) := (ks'.cell 0).trans rfl
  have q1 : w2.cell? ⟨q, 1, none⟩ = some (Value.int IntKind.i64 ↑hf) := (ks'.cell 1).trans rfl
  have q2 : w2.cell? ⟨q, 2, none⟩ = some (Value.int IntKind.i64 ↑lg) := (ks'.cell 2).trans rfl
  have HM := hide (And.intro hm hnx)
  have HAN := hide hAN
  clear ks' b2 k2 hm hnx hAN
  by_cases hs0 : J.stage = 0
  · rw [hs0] at d8
    by_cases hn : m = 0
    · have he : R = (D, J, 4) := by rw [HR.out]; unfold jstep; rw [if_pos hs0, if_pos (by rw [← HM.out.1]; exact hn)]
      subst hn
      clear HAN
      go_wp2
      go_ret2
      rw [he]
      refine ⟨by rw [hs0]; rfl, av, tv, nx, hf, lg, su, H2.out.hx, H2.out.hy, TFr.ofBelow HB2.out, Later.refl _ _⟩
    · have HE := hide (show R = (D.put ((2 + J.area * c) * 128 + J.len) J.next, J.begun J.area J.len J.next.length, 0) by rw [HR.out]; unfold jstep; rw [if_pos hs0, if_neg (by rw [← HM.out.1]; exact hn)])
      have hn0 : (m : Int) ≠ 0 := by omega
      have hn1 : ((m : Int) == 0) = false := by simpa using hn0
      have hsl : SlAt w2.drew AN m (bvs J.next) := by
        have h1 := H2.out.drew.hy.hn
        rw [← HM.out.1, HM.out.2] at h1
        exact sl_own h1
      have HBG := hide (xbegin_ok H2.out.drew J.area J.len AN m cpN J.next hsl H2.out.ok.a1 (by rw [HM.out.1]; have := H2.out.ok.l1; omega))
      clear hsl hn
      go_wp2_with fail
      refine wp_region_held 15 (fun w' => w'.cell? ⟨y, 2, none⟩ = some (.int .i64 (J.area : Int)) ∧ w'.cell? ⟨y, 3, none⟩ = some (.int .i64 (J.len : Int)) ∧ w'.cell? ⟨y, 4, none⟩ = some (.slice AN m cpN)) (fun _ => false) (by kernel_rfl) (by kernel_rfl) ⟨d2, d3, d4⟩ (fun ops hops F hF => ?_)
      clear hops
      simp only [List.take_succ_cons, List.take_zero, List.drop_succ_cons, List.drop_zero] at hF ⊢
      iterate 15 (refine held_q rfl rfl ?_; apply Exists.intro; refine ⟨fun w' hw' => ?_, ?_⟩; (obtain ⟨x0, x1, x2⟩ := hw'; go_simp; rfl); simp only [Act.put, List.setIfInBounds_toArray, List.set_cons_zero, List.set_cons_succ, Nat.reduceAdd])
      refine held_nil (hF _ _ ?_)
      clear hF F
      go_wp2_with fail
      refine HBG.out.mono ?_
      rintro e w3 ⟨rfl, av3, tv3, hx3, hy3, f3⟩
      have HX3 := hide hx3
      have HY3 := hide hy3
      have HF3 := hide f3
      have v8 : w3.cell? ⟨y, 8, none⟩ = some (.int .i64 1) := (hy3.hy.cell 8).trans rfl
      clear hx3 hy3 f3 HBG d0 d1 d2 d3 d4 d5 d6 d8 q0 q1 q2
      go_wp2
      go_ret2
      rw [HE.out]
      refine ⟨rfl, av3, tv3, .slice none 0 0, J.area, J.len + m, J.all, HX3.out, by rw [← HM.out.1]; exact HY3.out, ?_, fun k hk => by cases hk⟩
      exact (TFr.ofBelow HB2.out).trans ((TFr.ofFr ((Fr.refl (fun k => k = y) w2).drew)).trans HF3.out (fun k hk => .inl hk)) (fun k hk => .inl (.inl hk))
  · have t0 : ((J.stage : Int) == 0) = false := by simp; omega
    have hn0 : 0 < D.l.length := by have := H2.out.dl; omega
    by_cases hs1 : J.stage = 1
    · rw [hs1] at d8
      have HE := hide (show R = (D.sync, { J with stage := 2 }, 0) by rw [HR.out]; unfold jstep; rw [if_neg hs0, if_pos hs1])
      have HS := hide (refSync_ok w2 base x lv av tv D H2.out.hx hn0 (by have := H2.out.cnt; omega))
      clear t0
      go_wp2_with fail
      refine HS.out.mono ?_
      rintro e w3 ⟨rfl, hx3, f3⟩
      have hy3 := H2.out.hy.fr f3 (H2.out.hy.offRef H2.out.hx)
      have HF3 := hide (TFr.ofRef (base := base) (S := xfoot y nx) H2.out.hx f3)
      have HX3 := hide hx3
      have HY3 := hide hy3
      have v8 : w3.cell? ⟨y, 8, none⟩ = some (.int .i64 (J.stage : Int)) := (hy3.hy.cell 8).trans rfl
      have z8 := hy3.hy.frozen 8
      clear hx3 hy3 f3 HS d0 d1 d2 d3 d4 d5 d6 d8 q0 q1 q2
      go_wp2
      go_ret2
      rw [HE.out]
      have FS : ∀ (S : Nat → Prop), S y → Fr S w3 (w3.setCell { block := y, off := 8 } (Value.int IntKind.i64 2)) := fun S hS => (Fr.refl S w3).setCell (p := ⟨y, 8, none⟩) (.inl hS) _
      have hpl := HY3.out.pl (by omega)
      refine ⟨rfl, .slice none 0 0, .slice none 0 0, nx, hf, lg, su, HX3.out.fr (FS (fun k => k = y) rfl) (fun k hk e => ?_), ⟨?_, ?_, fun _ => hpl, HY3.out.by_, HY3.out.bd⟩, ?_, Later.refl _ _⟩
      · subst e
        exact HX3.out.off HY3.out.hy (by decide) (by decide) (by decide) hk
      · exact HY3.out.hy.set_ 8 (.int .i64 2)
      · exact Fr.own HY3.out.hn (FS (fun k => k = y) rfl) (fun k hk e => own_ne HY3.out.hn HY3.out.hy (by decide) (by rw [hk, e]))
      · exact ((TFr.ofBelow HB2.out).trans HF3.out (fun k hk => .inl hk)).trans (TFr.ofFr (FS (xfoot y nx) (.inl rfl))) (fun k hk => .inl hk)
    · have t1 : ((J.stage : Int) == 1) = false := by simp; omega
      by_cases hs2 : J.stage = 2
      · rw [hs2] at d8
        have HE := hide (show R = (D.write ((J.gen + 1) % 2) (superBytes J.nexts), { J with stage := 3 }, 0) by rw [HR.out]; unfold jstep; rw [if_neg hs0, if_neg hs1, if_pos hs2])
        clear t0 t1
        have hpl := H2.out.hy.pl (by omega)
        have hri : (⟨J.gen + 1, (hf : Int), (lg : Int)⟩ : SU).right = true := by
          rw [SU.right_iff]
          have := H2.out.hy.bd
          simp only; omega
        have hse : superBytes J.nexts = superBytes ⟨J.gen + 1, (hf : Int), (lg : Int)⟩ := by unfold JSt.nexts; rw [hpl.1, hpl.2.1]
        have HPL := hide hpl
        clear hpl
        rw [hse] at HE
        have hv : superV ⟨J.gen + 1, (hf : Int), (lg : Int)⟩ = .agg #[.int .u64 ((J.gen : Int) + 1), .int .i64 (hf : Int), .int .i64 (lg : Int)] := by simp [superV]
        have HW := hide (fun w => rwriteE ⟨J.gen + 1, (hf : Int), (lg : Int)⟩ hri w)
        rw [hv] at HW
        obtain ⟨X, hX⟩ : ∃ X, X = superBytes ⟨J.gen + 1, (hf : Int), (lg : Int)⟩ := ⟨_, rfl⟩
        have hXl : X.length = 128 := by rw [hX]; exact superBytes_length _
        rw [← hX] at HE HW
        unfold strv at HW
        obtain ⟨i, hi⟩ : ∃ i, i = (J.gen + 1) % 2 := ⟨_, rfl⟩
        have hi2 : i < 2 := by omega
        rw [← hi] at HE
        have g1 : ((J.gen : Int) + 1).tmod 2 = (i : Int) := by rw [Int.tmod_eq_emod_of_nonneg (by omega)]; omega
        have g2 : IntKind.i64.wrap (i : Int) = (i : Int) := IntWalk.i64_in _ (by omega)
        have g3 : IntKind.u64.wrap (i : Int) = (i : Int) := IntWalk.u64_in _ (by omega)
        clear hX hi hv hse hri
        go_wp2_with fail
        have hcq : ∀ w', Below w2.heap.size w2 w' → w'.cell? ⟨y, 0, none⟩ = some (.pointer (some ⟨x, 0, none⟩)) ∧ w'.cell? ⟨q, 0, none⟩ = some (Value.int IntKind.u64 (↑J.gen + 1)) ∧ w'.cell? ⟨q, 1, none⟩ = some (Value.int IntKind.i64 ↑hf) ∧ w'.cell? ⟨q, 2, none⟩ = some (Value.int IntKind.i64 ↑lg) := fun w' hb =>
          ⟨(hb.cell (p := ⟨y, 0, none⟩) H2.out.hy.hy.lt).trans d0, (hb.cell (p := ⟨q, 0, none⟩) HKS.out.lt).trans q0, (hb.cell (p := ⟨q, 1, none⟩) HKS.out.lt).trans q1, (hb.cell (p := ⟨q, 2, none⟩) HKS.out.lt).trans q2⟩
        have HCQ := hide hcq
        clear hcq
        refine wp_region_held 12 (fun w' => w'.cell? ⟨y, 0, none⟩ = some (.pointer (some ⟨x, 0, none⟩)) ∧ w'.cell? ⟨q, 0, none⟩ = some (Value.int IntKind.u64 (↑J.gen + 1)) ∧ w'.cell? ⟨q, 1, none⟩ = some (Value.int IntKind.i64 ↑hf) ∧ w'.cell? ⟨q, 2, none⟩ = some (Value.int IntKind.i64 ↑lg)) (fun i => i == 9 || i == 10 || i == 11) (by kernel_rfl) (by kernel_rfl) (HCQ.out _ ((Below.refl _ _).drew)) (fun ops hops F hF => ?_)
        clear hops
        simp only [List.take_succ_cons, List.take_zero, List.drop_succ_cons, List.drop_zero] at hF ⊢
        iterate 9 (refine held_q rfl rfl ?_; apply Exists.intro; refine ⟨fun w' hw' => ?_, ?_⟩; (obtain ⟨x0, x1, x2, x3⟩ := hw'; go_simp; rfl); simp only [Act.put, List.setIfInBounds_toArray, List.set_cons_zero, List.set_cons_succ, Nat.reduceAdd])
        refine held_loud rfl rfl (fun K2 hK2 => ?_)
        go_simp
        refine (HW.out _).mono ?_
        rintro e w5 ⟨rfl, b5⟩
        have b5' : Below w2.heap.size w2 w5 := Below.of_drew b5
        refine hK2 _ _ (HCQ.out w5 b5') ?_
        clear hK2 K2
        simp only [Act.put, List.setIfInBounds_toArray, List.set_cons_zero, List.set_cons_succ, Nat.reduceAdd]
        obtain ⟨cp, w6, hcv, s6, b6⟩ := run_conv_bytes w5 X 128 hXl
        have b6' := b5'.trans (b6.mono b5'.size)
        refine held_loud rfl rfl (fun K2 hK2 => ?_)
        refine wp_convert 9 28 _ rfl hcv (hK2 _ _ (HCQ.out w6 b6') ?_)
        clear hK2 K2
        simp only [Act.put, List.setIfInBounds_toArray, List.set_cons_zero, List.set_cons_succ, Nat.reduceAdd]
        obtain ⟨gs, os, hgs, hgsl, hrs⟩ := s6.2 (by omega)
        injection hgs with hgs
        injection hgs with hg1' hg2'
        subst hg1' hg2'
        have h6 := H2.out.below b6'
        have hrw := refWrite_ok w6 _ x lv av tv D h6.hx i (by have := H2.out.dl; omega) w5.heap.size 0 cp X hXl hrs (by
          intro he
          have := (H2.out.hx.low _ (.inr (.inr (.inl he)))).2
          have := b5'.size
          omega) (by
          intro he
          have := (H2.out.hx.low _ (.inr (.inr (.inr he)))).2
          have := b5'.size
          omega) (by have := H2.out.cnt; omega)
        refine held_loud rfl rfl (fun K2 hK2 => ?_)
        go_simp
        refine hrw.mono ?_
        rintro e w7 ⟨rfl, av7, tv7, hx7, f7⟩
        have hy7 := h6.hy.fr f7 (h6.hy.offRef h6.hx)
        have f7' : Fr (rfoot x lv av tv) w6 w7 := f7
        have hq7 := (HKS.out.below b6' HKS.out.lt).fr f7 (h6.hx.off (HKS.out.below b6' HKS.out.lt) (by decide) (by decide) (by decide))
        refine hK2 _ _ ⟨(hy7.hy.cell 0).trans rfl, (hq7.cell 0).trans rfl, (hq7.cell 1).trans rfl, (hq7.cell 2).trans rfl⟩ ?_
        clear hK2 K2
        simp only [Act.put, List.setIfInBounds_toArray, List.set_cons_zero, List.set_cons_succ, Nat.reduceAdd]
        refine held_nil (hF _ _ ?_)
        clear hF F
        have HF7 := hide ((TFr.ofBelow (base := base) (S := xfoot y nx) b6').trans (TFr.ofRef (base := base) (S := xfoot y nx) h6.hx f7) (fun k hk => .inl hk))
        have HX7 := hide hx7
        have HY7 := hide hy7
        have v8 : w7.cell? ⟨y, 8, none⟩ = some (.int .i64 (J.stage : Int)) := (hy7.hy.cell 8).trans rfl
        have z8 := hy7.hy.frozen 8
        clear hx7 hy7 f7 f7' hq7 hrw h6 hcv s6 hgsl hrs b6 b6' b5 b5' d0 d1 d2 d3 d4 d5 d6 d8 q0 q1 q2 g1 g2 g3
        go_wp2
        go_ret2
        rw [HE.out]
        have FS : ∀ (S : Nat → Prop), S y → Fr S w7 (w7.setCell { block := y, off := 8 } (Value.int IntKind.i64 3)) := fun S hS => (Fr.refl S w7).setCell (p := ⟨y, 8, none⟩) (.inl hS) _
        refine ⟨rfl, av7, tv7, nx, hf, lg, su, HX7.out.fr (FS (fun k => k = y) rfl) (fun k hk e => ?_), ⟨?_, ?_, fun _ => HPL.out, HY7.out.by_, HY7.out.bd⟩, ?_, Later.refl _ _⟩
        · subst e
          exact HX7.out.off HY7.out.hy (by decide) (by decide) (by decide) hk
        · exact HY7.out.hy.set_ 8 (.int .i64 3)
        · exact Fr.own HY7.out.hn (FS (fun k => k = y) rfl) (fun k hk e => own_ne HY7.out.hn HY7.out.hy (by decide) (by rw [hk, e]))
        · exact ((TFr.ofBelow HB2.out).trans HF7.out (fun k hk => .inl hk)).trans (TFr.ofFr (FS (xfoot y nx) (.inl rfl))) (fun k hk => .inl hk)
      · have hs3 : J.stage = 3 := by omega
        rw [hs3] at d8
        have HE := hide (show R = (D.sync, J.sured, 0) by rw [HR.out]; unfold jstep; rw [if_neg hs0, if_neg hs1, if_neg hs2])
        have HS := hide (refSync_ok w2 base x lv av tv D H2.out.hx hn0 (by have := H2.out.cnt; omega))
        clear t0 t1
        go_wp2_with fail
        refine HS.out.mono ?_
        rintro e w3 ⟨rfl, hx3, f3⟩
        have hy3 := H2.out.hy.fr f3 (H2.out.hy.offRef H2.out.hx)
        have hq3 := HKS.out.fr f3 (H2.out.hx.off HKS.out (by decide) (by decide) (by decide))
        have HF3 := hide (TFr.ofRef (base := base) (S := xfoot y nx) H2.out.hx f3)
        have HPL := hide (H2.out.hy.pl (by omega))
        have HX3 := hide hx3
        have HY3 := hide hy3
        have kd := hy3.hy.drew
        have kq := hq3.drew
        have a0 : w3.drew.cell? ⟨q, 0, none⟩ = some (Value.int IntKind.u64 (↑J.gen + 1)) := (kq.cell 0).trans rfl
        have a1 : w3.drew.cell? ⟨q, 1, none⟩ = some (Value.int IntKind.i64 ↑hf) := (kq.cell 1).trans rfl
        have a2 : w3.drew.cell? ⟨q, 2, none⟩ = some (Value.int IntKind.i64 ↑lg) := (kq.cell 2).trans rfl
        have a7 : w3.drew.cell? ⟨y, 7, none⟩ = some (Value.int IntKind.i64 ↑su) := (kd.cell 7).trans rfl
        clear hx3 hy3 hq3 f3 HS d0 d1 d2 d3 d4 d5 d6 d8 q0 q1 q2
        go_wp2_with fail
        obtain ⟨w4, hw4⟩ : ∃ w4, w4 = w3.drew := ⟨_, rfl⟩
        refine wp_region_held 17 (fun w' => w'.cell? ⟨q, 0, none⟩ = some (Value.int IntKind.u64 (↑J.gen + 1)) ∧ w'.cell? ⟨q, 1, none⟩ = some (Value.int IntKind.i64 ↑hf) ∧ w'.cell? ⟨q, 2, none⟩ = some (Value.int IntKind.i64 ↑lg) ∧ w'.cell? ⟨y, 7, none⟩ = some (Value.int IntKind.i64 ↑su)) (fun i => i == 10 || i == 13 || i == 16) (by kernel_rfl) (by kernel_rfl) ⟨a0, a1, a2, a7⟩ (fun ops hops F hF => ?_)
        rw [← hw4] at kd kq a0 a1 a2 a7 ⊢
        have HW4 := hide hw4
        clear hops hw4
        simp only [List.take_succ_cons, List.take_zero, List.drop_succ_cons, List.drop_zero] at hF ⊢
        iterate 10 (refine held_q rfl rfl ?_; apply Exists.intro; refine ⟨fun w' hw' => ?_, ?_⟩; (obtain ⟨x0, x1, x2, x3⟩ := hw'; go_simp; rfl); simp only [Act.put, List.setIfInBounds_toArray, List.set_cons_zero, List.set_cons_succ, Nat.reduceAdd])
        have b1 : w4.cell? ⟨y, 1, none⟩ = some (.int .u64 (J.gen : Int)) := (kd.cell 1).trans rfl
        have b2 : w4.cell? ⟨y, 2, none⟩ = some (.int .i64 (J.area : Int)) := (kd.cell 2).trans rfl
        have b3 : w4.cell? ⟨y, 3, none⟩ = some (.int .i64 (J.len : Int)) := (kd.cell 3).trans rfl
        have y1 := kd.frozen 1
        have y2 := kd.frozen 2
        have y3 := kd.frozen 3
        refine held_loud rfl rfl (fun K hK => ?_)
        go_simp
        have k5 := ((kd.set_ 1 (Value.int IntKind.u64 (↑J.gen + 1))).set_ 2 (Value.int IntKind.i64 ↑hf)).set_ 3 (Value.int IntKind.i64 ↑lg)
        have kq5 := ((kq.far (p := ⟨y, 1, none⟩) hqy (Value.int IntKind.u64 (↑J.gen + 1))).far (p := ⟨y, 2, none⟩) hqy (Value.int IntKind.i64 ↑hf)).far (p := ⟨y, 3, none⟩) hqy (Value.int IntKind.i64 ↑lg)
        have f5 : Fr (fun k => k = y) w4 (((w4.setCell { block := y, off := 1 } (Value.int IntKind.u64 (↑J.gen + 1))).setCell { block := y, off := 2 } (Value.int IntKind.i64 ↑hf)).setCell { block := y, off := 3 } (Value.int IntKind.i64 ↑lg)) := (((Fr.refl (fun k => k = y) w4).setCell (p := ⟨y, 1, none⟩) (.inl rfl) _).setCell (p := ⟨y, 2, none⟩) (.inl rfl) _).setCell (p := ⟨y, 3, none⟩) (.inl rfl) _
        obtain ⟨w5, hw5⟩ : ∃ w5, w5 = (((w4.setCell { block := y, off := 1 } (Value.int IntKind.u64 (↑J.gen + 1))).setCell { block := y, off := 2 } (Value.int IntKind.i64 ↑hf)).setCell { block := y, off := 3 } (Value.int IntKind.i64 ↑lg)) := ⟨_, rfl⟩
        rw [← hw5] at k5 kq5 f5 ⊢
        clear hw5 b1 b2 b3 y1 y2 y3 a0 a1 a2 a7
        have a0 : w5.cell? ⟨q, 0, none⟩ = some (Value.int IntKind.u64 (↑J.gen + 1)) := (kq5.cell 0).trans rfl
        have a1 : w5.cell? ⟨q, 1, none⟩ = some (Value.int IntKind.i64 ↑hf) := (kq5.cell 1).trans rfl
        have a2 : w5.cell? ⟨q, 2, none⟩ = some (Value.int IntKind.i64 ↑lg) := (kq5.cell 2).trans rfl
        have a7 : w5.cell? ⟨y, 7, none⟩ = some (Value.int IntKind.i64 ↑su) := (k5.cell 7).trans rfl
        refine hK _ _ ⟨a0, a1, a2, a7⟩ ?_
        clear hK K
        simp only [Act.put, List.setIfInBounds_toArray, List.set_cons_zero, List.set_cons_succ, Nat.reduceAdd]
        iterate 2 (refine held_q rfl rfl ?_; apply Exists.intro; refine ⟨fun w' hw' => ?_, ?_⟩; (obtain ⟨x0, x1, x2, x3⟩ := hw'; go_simp; rfl); simp only [Act.put, List.setIfInBounds_toArray, List.set_cons_zero, List.set_cons_succ, Nat.reduceAdd])
        have b1 : w5.cell? ⟨y, 10, none⟩ = some (.int .i64 (J.done : Int)) := (k5.cell 10).trans rfl
        have y1 := k5.frozen 10
        refine held_loud rfl rfl (fun K hK => ?_)
        go_simp
        have k6 := k5.set_ 10 (Value.int IntKind.i64 ↑su)
        have kq6 := kq5.far (p := ⟨y, 10, none⟩) hqy (Value.int IntKind.i64 ↑su)
        have f6 : Fr (fun k => k = y) w5 (w5.setCell { block := y, off := 10 } (Value.int IntKind.i64 ↑su)) := (Fr.refl (fun k => k = y) w5).setCell (p := ⟨y, 10, none⟩) (.inl rfl) _
        obtain ⟨w6, hw6⟩ : ∃ w6, w6 = w5.setCell { block := y, off := 10 } (Value.int IntKind.i64 ↑su) := ⟨_, rfl⟩
        rw [← hw6] at k6 kq6 f6 ⊢
        clear hw6 b1 y1 a0 a1 a2 a7
        have a0 : w6.cell? ⟨q, 0, none⟩ = some (Value.int IntKind.u64 (↑J.gen + 1)) := (kq6.cell 0).trans rfl
        have a1 : w6.cell? ⟨q, 1, none⟩ = some (Value.int IntKind.i64 ↑hf) := (kq6.cell 1).trans rfl
        have a2 : w6.cell? ⟨q, 2, none⟩ = some (Value.int IntKind.i64 ↑lg) := (kq6.cell 2).trans rfl
        have a7 : w6.cell? ⟨y, 7, none⟩ = some (Value.int IntKind.i64 ↑su) := (k6.cell 7).trans rfl
        refine hK _ _ ⟨a0, a1, a2, a7⟩ ?_
        clear hK K
        simp only [Act.put, List.setIfInBounds_toArray, List.set_cons_zero, List.set_cons_succ, Nat.reduceAdd]
        iterate 2 (refine held_q rfl rfl ?_; apply Exists.intro; refine ⟨fun w' hw' => ?_, ?_⟩; (obtain ⟨x0, x1, x2, x3⟩ := hw'; go_simp; rfl); simp only [Act.put, List.setIfInBounds_toArray, List.set_cons_zero, List.set_cons_succ, Nat.reduceAdd])
        have b1 : w6.cell? ⟨y, 8, none⟩ = some (.int .i64 (J.stage : Int)) := (k6.cell 8).trans rfl
        have y1 := k6.frozen 8
        refine held_loud rfl rfl (fun K hK => ?_)
        go_simp
        have k7 := k6.set_ 8 (Value.int IntKind.i64 0)
        have kq7 := kq6.far (p := ⟨y, 8, none⟩) hqy (Value.int IntKind.i64 0)
        have f7 : Fr (fun k => k = y) w6 (w6.setCell { block := y, off := 8 } (Value.int IntKind.i64 0)) := (Fr.refl (fun k => k = y) w6).setCell (p := ⟨y, 8, none⟩) (.inl rfl) _
        obtain ⟨w7, hw7⟩ : ∃ w7, w7 = w6.setCell { block := y, off := 8 } (Value.int IntKind.i64 0) := ⟨_, rfl⟩
        rw [← hw7] at k7 kq7 f7 ⊢
        clear hw7 b1 y1 a0 a1 a2 a7
        refine hK _ _ ⟨(kq7.cell 0).trans rfl, (kq7.cell 1).trans rfl, (kq7.cell 2).trans rfl, (k7.cell 7).trans rfl⟩ ?_
        clear hK K
        simp only [Act.put, List.setIfInBounds_toArray, List.set_cons_zero, List.set_cons_succ, Nat.reduceAdd]
        refine held_nil (hF _ _ ?_)
        clear hF F
        have v8 : w7.cell? ⟨y, 8, none⟩ = some (.int .i64 0) := (k7.cell 8).trans rfl
        have HK7 := hide k7
        have HFF := hide ((f5.trans f6 (fun k hk => .inl hk)).trans f7 (fun k hk => .inl hk))
        clear k5 k6 k7 kq kq5 kq6 kq7 kd f5 f6 f7
        go_wp2
        go_ret2
        rw [HE.out]
        have fw : Fr (fun k => k = y) w3 w7 := by
          have h4 : Fr (fun k => k = y) w3 w4 := by rw [HW4.out]; exact (Fr.refl _ w3).drew
          exact h4.trans HFF.out (fun k hk => .inl hk)
        have hpl := HPL.out
        refine ⟨rfl, .slice none 0 0, .slice none 0 0, nx, hf, lg, su, HX3.out.fr fw (fun k hk e => ?_), ⟨?_, ?_, fun h => absurd rfl h, HY3.out.by_, HY3.out.bd⟩, ?_, Later.refl _ _⟩
        · subst e
          exact HX3.out.off HY3.out.hy (by decide) (by decide) (by decide) hk
        · have e1 := HK7.out
          simp only [xcells, List.setIfInBounds_toArray, List.set_cons_zero, List.set_cons_succ] at e1
          simp only [xcells, JSt.sured, ← hpl.1, ← hpl.2.1, ← hpl.2.2]
          rw [show ((J.gen + 1 : Nat) : Int) = (J.gen : Int) + 1 by omega]
          exact e1
        · exact Fr.own HY3.out.hn fw (fun k hk e => own_ne HY3.out.hn HY3.out.hy (by decide) (by rw [hk, e]))
        · exact ((TFr.ofBelow HB2.out).trans HF3.out (fun k hk => .inl hk)).trans (TFr.ofFr (fw.mono (fun k hk => (.inl hk : xfoot y nx k)))) (fun k hk => .inl hk)
end Go.Proofs.Ytnnhklembdaieaa
namespace Go.Proofs.Ytnnhklembdaieaa
open Go.RowKit
set_option linter.unusedSimpArgs false
set_option linter.unusedVariables false

theorem XRun.ofLeft {w w' : World} {base x y c hf lg su : Nat} {lv av tv nx : Value} {D D' : DSt} {J J' : JSt} (h : XRun w base x y c lv av tv nx D J hf lg su) (hl : XLeft w w' base x y lv nx D' J') (ok : JOk c J') (hd : D'.l.length = D.l.length) (cnt : D'.waits.length ≤ 490000000 ∧ D'.writes ≤ 490000000000 ∧ D'.syncs ≤ 490000000000) :
    ∃ av' tv' nx' hf' lg' su', XRun w' base x y c lv av' tv' nx' D' J' hf' lg' su' ∧ TFr base (xfoot y nx) w w' ∧ Later nx nx' w := by
  obtain ⟨av', tv', nx', hf', lg', su', h1, h2, h3, h4⟩ := hl
  exact ⟨av', tv', nx', hf', lg', su', ⟨h1, h2, ok, by rw [hd]; exact h.hc, cnt⟩, h3, h4⟩
set_option maxRecDepth 100000 in
set_option maxHeartbeats 6400000 in
theorem xanew_ok {w : World} {base x y c hf lg su : Nat} {lv av tv nx : Value} {D : DSt} {J : JSt} (h : XRun w base x y c lv av tv nx D J hf lg su) (hsy : D.syncs < 490000000000) (hg : 1 ≤ J.gen ∧ J.gen < 1000000000000) (A : Option Addr) (m cp : Nat) (rows : List RowM) (hm : rows.length = m) (hr : TextsAt w A rows) (hm1 : m ≤ 1000) :
    Calls Try.prog 59 #[.pointer (some ⟨y, 0, none⟩), .slice A m cp] w fun e w' => e = .returned (.int .i64 ((janew c D J (rows.map (·.l))).2.2 : Int)) ∧ XLeft w w' base x y lv nx (janew c D J (rows.map (·.l))).1 (janew c D J (rows.map (·.l))).2.1 := by
  obtain ⟨i0, hi0, hz0, hs0, hb0⟩ := info_parts info5'
  have HJ := hide h
  have HR := hide hr
  have HLn := hide hm
  obtain ⟨R, hR⟩ : ∃ R, R = janew c D J (rows.map (·.l)) := ⟨_, rfl⟩
  rw [← hR]
  have HRR := hide hR
  have HG := hide hg
  clear h hr hm hR hg
  go_enter Try.func59, Try.ntmps59
  go_wp2_with fail
  go_loopw [5, 6] (fun vb i wr => ∃ k : Nat, k ≤ m ∧ i = .int .i64 k ∧ wr.ownsRow w.heap.size 5 1 vb (encL ((rows.take k).map (·.l))).length (bvs (encL ((rows.take k).map (·.l)))) ∧ Below w.heap.size w wr ∧ (∀ r ∈ (rows.take k).map (·.l), isRec r.length = true)) (fun _ i _ => m - (intOf i).toNat)
  case atStart => exact ⟨0, by omega, rfl, World.ownsRow_nil _ _ _ _, Below.refl _ _, by simp⟩
  case round =>
    obtain ⟨k, hk, rfl, hown, hbel, hrec⟩ := hrel
    by_cases hlt : k < m
    · obtain ⟨g, o, rfl, hg, hrows⟩ := HR.out.2 (by rw [HLn.out]; omega)
      have hkl : k < rows.length := by rw [HLn.out]; exact hlt
      obtain ⟨q, hq⟩ : ∃ q, q = rows[k] := ⟨_, rfl⟩
      obtain ⟨e1, e2, e3⟩ := hrows k hkl
      rw [← hq] at e1 e2 e3
      have hq1 : wr.cell? ⟨g, o + k, none⟩ = some (.slice q.A q.l.length q.c) := (hbel.cell (p := ⟨g, o + k, none⟩) hg).trans e1
      have e2' := e2.below hbel (Nat.le_refl _)
      have hk0 : (0 : Int) ≤ (k : Int) := by omega
      have hk1 : (k : Int) < (m : Int) := by omega
      have hsn : (rows.take (k + 1)).map (·.l) = (rows.take k).map (·.l) ++ [q.l] := by rw [take_snoc _ _ hkl, List.map_append, hq]; rfl
      obtain ⟨X, hX⟩ : ∃ X, X = (rows.take k).map (·.l) := ⟨_, rfl⟩
      rw [← hX] at hown hrec hsn
      have hXl : X.length = k := by rw [hX]; simp; omega
      have hbd := encL_bound X hrec
      rw [hXl] at hbd
      have HX := hide hX
      have HQ := hide hq
      clear hX hrows e1 hXl hq
      by_cases hrk : isRec q.l.length = true
      · have HFR := hide (xframe_ok q.A q.l.length q.c q.l (by simp [isRec] at hrk; omega) (by simp [isRec] at hrk; omega) wr e2')
        have hq2 : 1 ≤ q.l.length ∧ q.l.length ≤ 2000 := by simpa [isRec] using hrk
        obtain ⟨hq2, hq3⟩ := hq2
        have t1 : decide ((q.l.length : Int) < 1) = false := by simp; omega
        have t2 : decide ((q.l.length : Int) > 2000) = false := by simp; omega
        have HO := hide hown
        have HSN := hide hsn
        have HRE := hide hrec
        have HRK := hide hrk
        clear hown hsn hrec hrk e2 e2'
        go_wp2_with fail
        refine HFR.out.mono ?_
        rintro e w3 ⟨v3, rfl, hown3, hb3⟩
        obtain ⟨A3, cp3, rfl, -, -, hA3⟩ := own_shape hown3
        obtain ⟨g3, rfl, hg3, hg3', hr3⟩ := hA3 (by omega)
        have HO3 := hide (Fr.own HO.out (Fr.none_ (S := nob) hb3) (fun _ _ h => h))
        go_wp2_with (at_builtin; refine wpList_append_own_at _ rfl _ _ 28 rfl w.heap.size 5 i0 _ 1 1 Try.underlying28 hi0 hz0 hs0 hb0 rfl (by omega) _ (encL X).length (bvs (encL X)) rfl HO3.out ⟨g3, 0, none⟩ (q.l.length + 2) cp3 (bvs (frameL q.l)) rfl (by rw [bvs_length, frameL_length, Nat.mul_one]) (by intro i u hu; rw [Addr.add_mid]; exact hr3 i u hu) (bvs_one _) (by unfold maxLen; omega) (by omega) ?_ ?_; (have := hbel.size; have := hb3.size; omega); intro v5 w5 hown5 hgrow5 _ _)
        rw [← bvs_append, ← encL_snoc] at hown5
        have hb5 : Below w.heap.size w w5 := (hbel.trans (hb3.mono hbel.size)).grown hgrow5 (by have := hbel.size; have := hb3.size; omega) (fun i hi => (HO.out.lt i hi).1)
        go_roundw
        case rel => exact ⟨k + 1, by omega, by go_num, by rw [HSN.out, encL_snoc, List.length_append, frameL_length]; rw [encL_snoc] at hown5; exact hown5, hb5, by
          rw [HSN.out]; intro r hr; rcases List.mem_append.1 hr with h1 | h1
          · exact HRE.out r h1
          · rw [List.mem_singleton.1 h1]; exact HRK.out⟩
        case measure => simp [intOf] <;> omega
      · have hRe : R = (D, J, 1) := by
          rw [HRR.out]; unfold janew
          rw [if_neg]
          intro hall
          have := List.all_eq_true.1 hall q.l (by rw [HQ.out]; exact List.mem_map_of_mem (List.getElem_mem _))
          rw [this] at hrk; exact hrk rfl
        have HRe := hide hRe
        have hcs : (q.l.length < 1) ∨ (1 ≤ q.l.length ∧ 2000 < q.l.length) := by
          simp only [isRec, decide_eq_true_eq] at hrk; omega
        clear hrk hRe
        rcases hcs with hc1 | ⟨hc1, hc2⟩
        · have t1 : decide ((q.l.length : Int) < 1) = true := by simp; omega
          go_wp2_with fail
          go_ret
          rw [HRe.out]
          have h2 := HJ.out.below hbel
          exact ⟨rfl, av, tv, nx, hf, lg, su, h2.hx, h2.hy, TFr.ofBelow hbel, Later.refl _ _⟩
        · have t1 : decide ((q.l.length : Int) < 1) = false := by simp; omega
          have t2 : decide ((q.l.length : Int) > 2000) = true := by simp; omega
          go_wp2_with fail
          go_ret
          rw [HRe.out]
          have h2 := HJ.out.below hbel
          exact ⟨rfl, av, tv, nx, hf, lg, su, h2.hx, h2.hy, TFr.ofBelow hbel, Later.refl _ _⟩
    · obtain rfl : k = m := by omega
      rw [List.take_of_length_le (by rw [HLn.out]; omega)] at hown hrec
      obtain ⟨X, hX⟩ : ∃ X, X = rows.map (·.l) := ⟨_, rfl⟩
      rw [← hX] at hown hrec HRR
      have hXl : X.length = k := by rw [hX]; simp [HLn.out]
      have hbd := encL_bound X hrec
      rw [hXl] at hbd
      have hall : X.all (fun r => isRec r.length) = true := List.all_eq_true.2 hrec
      obtain ⟨A5, cp5, rfl, hcp5, hcp6, -⟩ := own_shape hown
      have hj := HJ.out.below hbel
      have HCT := hide hj.countE
      have hc2 := hj.ok.c2
      obtain ⟨N, hN⟩ : ∃ N, N = (encL X).length := ⟨_, rfl⟩
      have HOwn := hide hown
      have HRec := hide hall
      have HN := hide hN
      rw [← hN] at hbd hown HOwn ⊢
      have HJ2 := hide hj
      have HBE := hide hbel
      by_cases hfit : N ≤ c * 128
      · have hcmp : decide ((N : Int) > 128 * (c : Int)) = false := by simp; omega
        clear hown hall hrec hX hN hj hcp5 hcp6
        by_cases h3 : J.stage = 3
        · have HRe := hide (show R = (D.sync.put ((2 + (1 - J.half) * c) * 128 + 0) (encL X), J.sured.begun (1 - J.half) 0 (encL X).length, 0) by rw [HRR.out]; unfold janew; rw [if_pos HRec.out, if_pos (by rw [← HN.out]; exact hfit), if_pos h3])
          have hs3 : ((J.stage : Int) == 3) = true := by simp [h3]
          have d8 : wr.cell? ⟨y, 8, none⟩ = some (.int .i64 (J.stage : Int)) := (HJ2.out.hy.hy.cell 8).trans rfl
          have hjs : jstep c D J = (D.sync, J.sured, 0) := by unfold jstep; rw [if_neg (by omega), if_neg (by omega), if_neg (by omega)]
          have HST := hide (xstep_ok HJ2.out HG.out)
          rw [hjs] at HST
          have ha1 := HJ2.out.ok.h1
          clear hjs
          go_wp2_with (go_at_call 98; refine HCT.out.mono ?_; rintro e w' ⟨rfl, hw⟩; rw [← hw]; clear hw w')
          refine HST.out.mono ?_
          rintro e w4 ⟨rfl, hl4⟩
          obtain ⟨av4, tv4, nx4, hf4, lg4, su4, h4, f4, l4⟩ := HJ2.out.ofLeft hl4 (HJ2.out.ok.sured h3 HG.out.2) (DSt.sync_l D) (by have := HJ2.out.cnt; have := HJ.out.cnt; simp only [DSt.sync, List.length_nil]; omega)
          have ho4 := f4.own HOwn.out (fun k hk hS => by
            have h1 := (HOwn.out.lt k hk).1
            have h2 := (HJ.out.hy.low k hS).2
            omega) (by decide) (by decide) (by decide)
          have d2 : w4.cell? ⟨y, 2, none⟩ = some (.int .i64 (J.half : Int)) := (h4.hy.hy.cell 2).trans rfl
          have HB := xbegin_ok h4 (1 - J.half) 0 A5 N cp5 (encL X) (sl_own ho4) (by omega) (by omega)
          rw [show ((1 - J.half : Nat) : Int) = 1 - (J.half : Int) by omega] at HB
          have HB' := hide HB
          have H4 := hide (And.intro f4 l4)
          clear HB hl4 h4 f4 l4 ho4 HST hs3 d8
          go_wp2_with fail
          refine HB'.out.mono ?_
          rintro e w3 ⟨rfl, av3, tv3, hx3, hy3, f3⟩
          go_wp2_with fail
          go_ret
          rw [HRe.out]
          rw [HN.out] at hy3
          exact ⟨rfl, av3, tv3, .slice none 0 0, _, _, _, hx3, hy3, (((TFr.ofBelow HBE.out).trans H4.out.1 (fun k hk => .inl hk)).trans f3 (fun k hk => .inl (.inl hk))), fun k hk => by cases hk⟩
        · have HRe := hide (show R = (D.put ((2 + (1 - J.area) * c) * 128 + 0) (encL X), J.begun (1 - J.area) 0 (encL X).length, 0) by rw [HRR.out]; unfold janew; rw [if_pos HRec.out, if_pos (by rw [← HN.out]; exact hfit), if_neg h3])
          have hs3 : ((J.stage : Int) == 3) = false := by simp; omega
          have ha1 := HJ2.out.ok.a1
          have d8 : wr.cell? ⟨y, 8, none⟩ = some (.int .i64 (J.stage : Int)) := (HJ2.out.hy.hy.cell 8).trans rfl
          have d2 : wr.cell? ⟨y, 2, none⟩ = some (.int .i64 (J.area : Int)) := (HJ2.out.hy.hy.cell 2).trans rfl
          have HB := xbegin_ok HJ2.out (1 - J.area) 0 A5 N cp5 (encL X) (sl_own HOwn.out) (by omega) (by omega)
          rw [show ((1 - J.area : Nat) : Int) = 1 - (J.area : Int) by omega] at HB
          have HB' := hide HB
          clear HB
          go_wp2_with (go_at_call 98; refine HCT.out.mono ?_; rintro e w' ⟨rfl, hw⟩; rw [← hw]; clear hw w')
          refine HB'.out.mono ?_
          rintro e w3 ⟨rfl, av3, tv3, hx3, hy3, f3⟩
          go_wp2_with fail
          go_ret
          rw [HRe.out]
          rw [HN.out] at hy3
          exact ⟨rfl, av3, tv3, .slice none 0 0, _, _, _, hx3, hy3, (TFr.ofBelow HBE.out).trans f3 (fun k hk => .inl (.inl hk)), fun k hk => by cases hk⟩
      · have hcmp : decide ((N : Int) > 128 * (c : Int)) = true := by simp; omega
        have HRe := hide (show R = (D, J, 5) by
          rw [HRR.out]; unfold janew
          rw [if_pos hall, if_neg (by rw [← hN]; exact hfit)])
        clear hown hall hrec hcp5 hcp6 hfit hN hX hj
        go_wp2_with (go_at_call 98; refine HCT.out.mono ?_; rintro e w' ⟨rfl, hw⟩; rw [← hw]; clear hw w')
        go_ret
        rw [HRe.out]
        exact ⟨rfl, av, tv, nx, hf, lg, su, HJ2.out.hx, HJ2.out.hy, TFr.ofBelow HBE.out, Later.refl _ _⟩
end Go.Proofs.Ytnnhklembdaieaa
