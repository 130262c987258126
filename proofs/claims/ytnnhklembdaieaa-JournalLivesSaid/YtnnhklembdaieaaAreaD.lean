/- The area's Put: the bytes stand on the disk, as writes that wait. And where Get and Put refuse. -/
import Derived.Test.YtnnhklembdaieaaAreaC
import Derived.Laws.CopyOwn
import Derived.Deep.QuietTactic
import Derived.BigQuiet
namespace Go.Proofs.Ytnnhklembdaieaa
open Go.RowKit
set_option linter.unusedSimpArgs false
set_option linter.unusedVariables false

theorem get_no (dp : Value) (n : Nat) (hn : n ≤ 4096) (f c at_ k : Int) (w : World) (hs : SecOf dp n w) (hf : -9223372036854775808 ≤ f ∧ f ≤ 9223372036854775807) (hat : -9223372036854775808 ≤ at_ ∧ at_ ≤ 9223372036854775807) (hno : askA n f c at_ k ≠ 0) :
    Calls Try.prog 68 #[dp, .agg #[.int .i64 f, .int .i64 c], .int .i64 at_, .int .i64 k] w fun e w' => e = .returned (.tuple #[.slice none 0 0, .int .i64 (askA n f c at_ k)]) ∧ Below w.heap.size w w' := by
  have b1 : Below w.heap.size w (w.alloc (.cells #[.int .i64 f, .int .i64 c] 113)) := (Below.refl _ _).alloc (Nat.le_refl _) _
  have ha := askA_ok dp n hn f c at_ k _ (hs.later b1) hf hat
  obtain ⟨x, hx⟩ : ∃ x, x = askA n f c at_ k := ⟨_, rfl⟩
  rw [← hx] at ha hno ⊢
  have hne : (x != 0) = true := by rw [bne_iff_ne]; exact hno
  clear hs hx hno
  go_enter Try.func68, Try.ntmps68
  go_wp2_with fail
  go_step3
  go_wp2_with (go_at_call 104; refine ha.mono ?_; rintro e w1 ⟨rfl, h1⟩)
  try rw [Exit.noGoto_ret]
  go_ret2
  exact ⟨rfl, b1.trans (h1.mono (by simp))⟩

theorem put_no (dp : Value) (n : Nat) (hn : n ≤ 4096) (f c at_ : Int) (A : Option Addr) (k cap : Nat) (w : World) (hs : SecOf dp n w) (hf : -9223372036854775808 ≤ f ∧ f ≤ 9223372036854775807) (hat : -9223372036854775808 ≤ at_ ∧ at_ ≤ 9223372036854775807) (hk : k ≤ 9223372036854775807) (hno : askA n f c at_ k ≠ 0) :
    Calls Try.prog 67 #[dp, .agg #[.int .i64 f, .int .i64 c], .int .i64 at_, .slice A k cap] w fun e w' => e = .returned (.int .i64 (askA n f c at_ k)) ∧ Below w.heap.size w w' := by
  have b1 : Below w.heap.size w (w.alloc (.cells #[.int .i64 f, .int .i64 c] 113)) := (Below.refl _ _).alloc (Nat.le_refl _) _
  have ha := askA_ok dp n hn f c at_ k _ (hs.later b1) hf hat
  obtain ⟨x, hx⟩ : ∃ x, x = askA n f c at_ k := ⟨_, rfl⟩
  rw [← hx] at ha hno ⊢
  have hne : (x != 0) = true := by rw [bne_iff_ne]; exact hno
  clear hs hx hno
  go_enter Try.func67, Try.ntmps67
  go_wp2_with fail
  go_step3
  go_wp2_with (go_at_call 104; refine ha.mono ?_; rintro e w1 ⟨rfl, h1⟩)
  try rw [Exit.noGoto_ret]
  go_ret
  exact ⟨rfl, b1.trans (h1.mono (by simp))⟩

theorem bvs_over (x : List UInt8) (r : Nat) (cs : List UInt8) : bvs (over x r cs) = (bvs x).take r ++ (bvs cs ++ (bvs x).drop (r + cs.length)) := by
  unfold over
  simp [bvs]
/-- copy into a block that is known whole: K bytes. -/
theorem wpList_copy_to {P : Program} {w : World} {ops : Array Oper} {rest : List Oper} {o : Oper} {a : Act} {Q : Exit → Act → World → Prop} (hgd : o.guard = none) (d s : Operand) (dT sT : TypeId)
    (ho : o.op = .call { callee := .builtin .copy, args := #[d, s], argTypes := #[dT, sT] }) (elem : TypeId) (hu : P.underlying dT = some (.slice elem)) (hsz : (P.info? elem).map (·.size) = some 1)
    (g off dLen dCap : Nat) (gb ob sLen sCap : Nat) (hd : a.eval d = .slice (some ⟨g, off, none⟩) dLen dCap) (hs : a.eval s = .slice (some ⟨gb, ob, none⟩) sLen sCap)
    (cur : List Value) (t : TypeId) (hg : Blk w g t cur.toArray) (cs : List Value) (K : Nat) (hcs : cs.length = K) (hn : K = Nat.min sLen dLen)
    (hr : w.rangeAt gb ob cs) (hfit : off + K ≤ cur.length) (h1 : ∀ v ∈ cs, v.oneCell' = true) (B : Nat) (w0 : World) (hb : Below B w0 w) (hBg : B ≤ g)
    (h : ∀ w', Hid (Blk w' g t (cur.take off ++ (cs ++ cur.drop (off + K))).toArray) → Below B w0 w' → wpList P ops Q rest (a.put o.dst (.int .i64 (K : Int))) w') :
    wpList P ops Q (o :: rest) a w := by
  subst hcs
  exact wpList_copy_splice hgd d s dT sT ho elem hu hsz _ _ dLen dCap sLen sCap hd hs g off cur t hg cs hn (fun _ => ⟨rfl, _, rfl, fun j v hv => by rw [Addr.add_mid]; exact hr j v hv⟩) hfit h1 B w0 hb hBg (fun w' hw hbl => h w' hw hbl)

/-- what holds of Put at each pass. -/
structure PutI (w : World) (base d bl : Nat) (wv : Value) (s : DSt) (f c q0 : Nat) (b : List UInt8) (m : Nat) (wk : Value) (sk : DSt) (A : Option Addr) (wr : World) : Prop where
  hd : DiskAt wr base d bl wk sk
  eq : s.put q0 b = sk.put (q0 + m) (b.drop m)
  hl : sk.l.length = s.l.length
  hc : sk.waits.length ≤ s.waits.length + m ∧ sk.writes ≤ s.writes + m
  src : SlAt wr A (b.length - m) (bvs (b.drop m))
  sep : Sep wr base bl A (b.length - m)
  bx : Blk wr w.heap.size 113 #[.int .i64 (f : Int), .int .i64 (c : Int)]
  fr : Fr (dfoot d bl wv) w wr
  ow : ∀ k, wk.ownBlock = some k → wv.ownBlock = some k ∨ w.heap.size ≤ k

theorem put1_hyp {s : DSt} (q : Nat) (b : List UInt8) (K : Nat) (hK : K = min b.length (128 - q % 128)) : s.write (q / 128) (over (s.read (q / 128)) (q % 128) (b.take K)) = s.put1 q b := by
  unfold DSt.put1
  congr 2
  by_cases h2 : b.length ≤ 128 - q % 128
  · rw [hK, Nat.min_eq_left h2, List.take_of_length_le (Nat.le_refl _), List.take_of_length_le h2]
  · rw [hK, Nat.min_eq_right (by omega)]
theorem PutI.step {w wr w3 w4 : World} {base d bl : Nat} {wv wk wv4 : Value} {s sk : DSt} {f c q0 m gb ob K : Nat} {b : List UInt8} {A' : Option Addr} (hI : PutI w base d bl wv s f c q0 b m wk sk (some ⟨gb, ob, none⟩) wr) (hl3 : Below wr.heap.size wr w3)
    (hd4 : DiskAt w4 base d bl wv4 (sk.put1 (q0 + m) (b.drop m))) (f4 : Fr (dfoot d bl wk) w3 w4) (ow4 : ∀ k, wv4.ownBlock = some k → wk.ownBlock = some k ∨ w3.heap.size ≤ k) (hK : K = min (b.drop m).length (128 - (q0 + m) % 128)) (hm : m < b.length)
    (hA : A' = some ⟨gb, ob + K, none⟩ ∨ (m + K = b.length)) : PutI w base d bl wv s f c q0 b (m + K) wv4 (sk.put1 (q0 + m) (b.drop m)) A' w4 := by
  have hsz := hl3.size
  have hKl : K ≤ b.length - m := by rw [hK, List.length_drop]; exact Nat.min_le_left _ _
  obtain ⟨hd, heq, hl, hc, hsrc, hsep, hbx, hfr, how⟩ := hI
  obtain ⟨gb', ob', e, hgb, hrb⟩ := hsrc.2 (by omega)
  injection e with e
  injection e with e1 e2
  subst e1 e2
  have hoff : ¬ dfoot d bl wk gb := hsep.off hd ⟨gb, ob, none⟩ rfl (by omega)
  have f3 : Fr nob wr w3 := (Fr.ofBelow hl3).monoNew (fun k hk => .inr hk)
  have f34 : Fr (dfoot d bl wk) wr w4 := (f3.mono (T := dfoot d bl wk) (fun k hk => hk.elim)).trans f4 (fun k hk => .inl hk)
  have hr4 : w4.rangeAt gb ob (bvs (b.drop m)) := fun j v hv => (f34.cell (p := ⟨gb, ob + j, none⟩) hgb hoff).trans (hrb j v hv)
  have hbx4 : Blk w4 w.heap.size 113 #[.int .i64 (f : Int), .int .i64 (c : Int)] := hbx.fr f34 (hd.off hbx (by decide) (by decide) (.inl (by decide)))
  refine ⟨hd4, ?_, hl, ?_, ?_, ?_, hbx4, ?_, ?_⟩
  · rw [heq, put_step sk _ _ (by rw [List.length_drop]; omega), ← hK, List.drop_drop, Nat.add_assoc]
  · simp only [DSt.put1, DSt.write, List.length_append, List.length_cons, List.length_nil]
    have : 0 < K := by rw [hK, List.length_drop]; exact Nat.lt_min.2 ⟨by omega, by have := Nat.mod_lt (q0 + m) (show 0 < 128 by omega); omega⟩
    omega
  · refine ⟨by rw [bvs_length, List.length_drop], fun hn => ?_⟩
    rcases hA with rfl | hA
    · refine ⟨gb, ob + K, rfl, Nat.lt_of_lt_of_le hgb f34.size, ?_⟩
      exact range_sub hr4 K (b.length - (m + K)) _ (by rw [List.take_of_length_le (by rw [List.length_drop, bvs_length, List.length_drop]; omega)]; simp only [bvs, ← List.map_drop, List.drop_drop])
    · omega
  · rcases hA with rfl | hA
    · have h4 := Sep.fr hsep f34 (fun a ha hn => hsep.off hd a ha hn)
      exact h4.drop (fun a ha => by injection ha with ha; rw [← ha]) (fun _ => by omega)
    · intro a ha hn; omega
  · exact hfr.trans f34 (fun k hk => dfoot_later how k hk)
  · intro k hk
    rcases ow4 k hk with h1 | h1
    · exact how k h1
    · exact .inr (by have := hfr.size; omega)
theorem PutI.drewN {w wr : World} {base d bl : Nat} {wv wk : Value} {s sk : DSt} {f c q0 m : Nat} {b : List UInt8} {A' : Option Addr} (h : PutI w base d bl wv s f c q0 b m wk sk A' wr) (n : Nat) : PutI w base d bl wv s f c q0 b m wk sk A' (wr.drewN n) := by
  have f0 : Fr nob wr (wr.drewN n) := (Fr.refl nob wr).drewN n
  exact ⟨h.hd.fr f0 (fun _ _ h => h), h.eq, h.hl, h.hc, h.src.fr f0 (fun _ _ _ h => h), h.sep.fr f0 (fun _ _ _ h => h), h.bx.fr f0 (fun h => h), h.fr.trans f0 (fun _ h => h.elim), h.ow⟩

set_option maxRecDepth 100000 in
set_option maxHeartbeats 3200000 in
theorem put_ok (w : World) (base d bl : Nat) (wv : Value) (s : DSt) (h : DiskAt w base d bl wv s) (f c at_ : Nat) (hf : 2 ≤ f) (hc : f + c ≤ s.l.length) (hc1 : 1 ≤ c) (A : Option Addr) (n cap : Nat) (b : List UInt8) (hb : b.length = n) (hA : SlAt w A n (bvs b)) (hsep : Sep w base bl A n)
    (hk : at_ + n ≤ c * 128) (hcnt : s.waits.length + n < 1000000000 ∧ s.writes + n < 1000000000000) (hcap : cap ≤ 9223372036854775807) (hncap : n ≤ cap) :
    Calls Try.prog 67 #[.pointer (some ⟨d, 0, none⟩), .agg #[.int .i64 (f : Int), .int .i64 (c : Int)], .int .i64 (at_ : Int), .slice A n cap] w fun e w' => e = .returned (.int .i64 0) ∧
      ∃ wv', DiskAt w' base d bl wv' (s.put (f * 128 + at_) b) ∧ Fr (dfoot d bl wv) w w' ∧ (∀ k, wv'.ownBlock = some k → wv.ownBlock = some k ∨ w.heap.size ≤ k) := by
  have hnum := h.ok.num
  have b1 : Below w.heap.size w (w.alloc (.cells #[.int .i64 (f : Int), .int .i64 (c : Int)] 113)) := (Below.refl _ _).alloc (Nat.le_refl _) _
  have hask : askA s.l.length (f : Int) (c : Int) (at_ : Int) (n : Int) = 0 := by
    have : rightA s.l.length (f : Int) (c : Int) = true := by simp [rightA]; omega
    unfold askA
    rw [if_neg (by rw [this]; decide), if_pos (by omega)]
  have ha := askA_ok (.pointer (some ⟨d, 0, none⟩)) s.l.length hnum (f : Int) (c : Int) (at_ : Int) (n : Int) _ ((secDisk h).later b1) (by omega) (by omega)
  rw [hask] at ha
  have hbx := Blk.new w 113 #[.int .i64 (f : Int), .int .i64 (c : Int)]
  obtain ⟨i0, hi0, hz0, hs0, hb0⟩ := info_parts info5'
  have h5s : (Try.prog.info? 5).map (·.size) = some 1 := by rw [hi0]; simp [hs0]
  clear hask
  have HBL := hide hb
  go_enter Try.func67, Try.ntmps67
  go_wp2_with fail
  refine wp_scope_label 0 (fun a' wr => ∃ (m : Nat) (wk : Value) (sk : DSt) (A' : Option Addr) (c' n' : Nat) (iv u9 u10 u11 u12 u13 u14 u15 u16 u17 u18 u19 u20 u21 u22 u23 u24 u25 u26 u27 u28 u29 u30 u31 u32 u33 u34 u35 u36 u37 u38 u39 u40 u41 u42 u43 u44 u45 u46 u47 u48 u49 u50 u51 u52 u53 u54 u55 u56 u57 u58 u59 : Value), m ≤ n ∧ n' = n - m ∧ n' ≤ c' ∧ c' ≤ 9223372036854775807 ∧ PutI w base d bl wv s f c (f * 128 + at_) b m wk sk A' wr ∧ iv = .int .i64 ((at_ + m : Nat) : Int) ∧
    a' = { tmps := #[.pointer (some ⟨d, 0, none⟩), .agg #[.int .i64 (f : Int), .int .i64 (c : Int)], iv, .slice A' n' c', undef, .pointer (some ⟨w.heap.size, 0, none⟩), undef, undef, .int .i64 0, u9, u10, u11, u12, u13, u14, u15, u16, u17, u18, u19, u20, u21, u22, u23, u24, u25, u26, u27, u28, u29, u30, u31, u32, u33, u34, u35, u36, u37, u38, u39, u40, u41, u42, u43, u44, u45, u46, u47, u48, u49, u50, u51, u52, u53, u54, u55, u56, u57, u58, u59], defers := [] })
    (fun a' _ => match a'.tmps.getD 3 undef with | .slice _ n _ => n | _ => 0) rfl ?_ ?_
  · rintro a wr ⟨m, wk, sk, A', c', n', iv, u9, u10, u11, u12, u13, u14, u15, u16, u17, u18, u19, u20, u21, u22, u23, u24, u25, u26, u27, u28, u29, u30, u31, u32, u33, u34, u35, u36, u37, u38, u39, u40, u41, u42, u43, u44, u45, u46, u47, u48, u49, u50, u51, u52, u53, u54, u55, u56, u57, u58, u59, hm, hn', hnc, hcm, hI, rfl, rfl⟩
    clear ha hbx b1 hA hsep
    obtain ⟨q, hq⟩ : ∃ q, at_ + m = q := ⟨_, rfl⟩
    rw [hq]
    have e0 : wr.cell? ⟨w.heap.size, 0, none⟩ = some (.int .i64 (f : Int)) := (hI.bx.cell 0).trans rfl
    have hq0 : (0 : Int) ≤ (q : Int) := by omega
    have hqr : q + n' ≤ c * 128 := by omega
    have hfi : (0 : Int) ≤ (f : Int) := by omega
    have HQ := hide hq
    have HN := hide hn'
    clear hq hn'
    by_cases hpos : 0 < n'
    · have hi : f + q / 128 < sk.l.length := by rw [hI.hl]; omega
      have hrd := readE wr _ _ _ _ _ hI.hd (f + q / 128) hi
      rw [show ((f + q / 128 : Nat) : Int) = (f : Int) + (q : Int) / 128 by omega] at hrd
      have hxl := DSt.read_length hI.hd.ok hi
      obtain ⟨x, hx⟩ : ∃ x, x = sk.read (f + q / 128) := ⟨_, rfl⟩
      rw [← hx] at hrd hxl
      have HX := hide hx
      have HXL := hide hxl
      clear hx hxl
      have hqm : q % 128 < 128 := Nat.mod_lt _ (by omega)
      have hqm0 : (0 : Int) ≤ (q : Int) % 128 := by omega
      obtain ⟨K, hK⟩ : ∃ K, K = Nat.min n' (128 - q % 128) := ⟨_, rfl⟩
      have hK1 : K ≤ n' := by rw [hK]; exact Nat.min_le_left _ _
      have hK2 : K ≤ 128 - q % 128 := by rw [hK]; exact Nat.min_le_right _ _
      have hK3 : 0 < K := by rw [hK]; exact Nat.lt_min.2 ⟨hpos, by omega⟩
      have HK := hide hK
      clear hK
      obtain ⟨gb, ob, rfl, hgb, hrb0⟩ := hI.src.2 (by have := HN.out; have := HBL.out; omega)
      have hrb : wr.rangeAt gb ob (bvs ((b.drop m).take K)) := by
        have := range_sub hrb0 0 K (bvs ((b.drop m).take K)) (by simp only [bvs, List.map_take, List.drop_zero])
        rwa [Nat.add_zero] at this
      clear hrb0
      have HI := hide hI
      have HR := hide hrb
      clear hI hrb
      go_wp2_with fail
      refine hrd.mono ?_
      rintro e w2 ⟨g, rfl, hg2, hb2, hd2, hn2, hl2⟩
      clear hrd
      go_upto_region 9 with fail
      go_wp2_with ((with_reducible refine wpList_copy_to (o := ⟨some 46, _, _, _, _, _⟩) rfl _ _ 28 28 rfl 5 Try.underlying28 h5s g (q % 128) (128 - q % 128) (128 - q % 128) gb ob n' c' ?_ ?_ (bvs x) 151 hb2 (bvs ((b.drop m).take K)) K ?_ HK.out ?_ ?_ (bvs_one _) wr.heap.size wr hl2 hg2 ?_); (go_simp); (go_simp); (rw [bvs_length, List.length_take, List.length_drop, HBL.out]; have := HN.out; omega); (exact fun j v hv => (hl2.cell (p := ⟨gb, ob + j, none⟩) hgb).trans (HR.out j v hv)); (rw [bvs_length, HXL.out]; omega); intro w3 hb3 hl3)
      have hd3 := HI.out.hd.below hl3 (Nat.le_refl _)
      have hyl : (over x (q % 128) ((b.drop m).take K)).length = 128 := by
        rw [over_length _ _ _ (by rw [List.length_take, HXL.out]; omega), HXL.out]
      have hb3' : Blk w3 g 151 (bvs (over x (q % 128) ((b.drop m).take K))).toArray := by
        have := hb3.out
        have hcl : ((b.drop m).take K).length = K := by rw [List.length_take, List.length_drop, HBL.out]; have := HN.out; omega
        rw [bvs_over, hcl]
        exact this
      have hwr := write_own w3 base d bl wk sk hd3 (f + q / 128) hi g 0 128 _ hyl hb3'.rangeAll (by intro he; have := (HI.out.hd.low g (.inr (.inr he))).2; omega) (by have := HI.out.hc; have := HN.out; omega)
      rw [show ((f + q / 128 : Nat) : Int) = (f : Int) + (q : Int) / 128 by omega] at hwr
      clear hb3 hb3' hyl
      go_wp2_with fail
      refine hwr.mono ?_
      rintro e w4 ⟨rfl, wv4, hd4, f4, ow4⟩
      have hKq : K = min (b.drop m).length (128 - (f * 128 + at_ + m) % 128) := by
        have h1 := HQ.out
        have h2 := HN.out
        have h3 := HBL.out
        rw [List.length_drop, h3, ← h2, show (f * 128 + at_ + m) % 128 = q % 128 by omega]
        exact HK.out
      have hd4' : DiskAt w4 base d bl wv4 (sk.put1 (f * 128 + at_ + m) (b.drop m)) := by
        rw [← put1_hyp _ _ K hKq, show (f * 128 + at_ + m) / 128 = f + q / 128 by have := HQ.out; omega, show (f * 128 + at_ + m) % 128 = q % 128 by have := HQ.out; omega, ← HX.out]
        exact hd4
      have hstep := fun A' hA => PutI.step (A' := A') HI.out hl3 hd4' f4 ow4 hKq (by have := HN.out; have := HBL.out; omega) hA
      have HS := hide hstep
      clear hstep hKq hd4 hd4' f4 ow4 hl3 hd3 hwr hn2 hd2 hb2 hl2
      by_cases hKc : K = c'
      · subst hKc
        go_wp2_with fail
        go_quiet (fail)
        go_wp2_with fail
        go_step3
        refine ⟨rfl, ⟨m + K, wv4, sk.put1 (f * 128 + at_ + m) (b.drop m), some ⟨gb, ob, none⟩, _, _, _, _, _, _, _, _, _, _, _, _, _, _, _, _, _, _, _, _, _, _, _, _, _, _, _, _, _, _, _, _, _, _, _, _, _, _, _, _, _, _, _, _, _, _, _, _, _, _, _, _, _, _, ?_, ?_, ?_, ?_, (HS.out _ (.inr ?_)).drewN _, ?_, rfl⟩, ?_⟩
        all_goals (try (have := HN.out; have := HBL.out; have := HQ.out; omega))
        · have := HQ.out; congr 1; omega
        · show 0 < n'; omega
      · go_wp2_with fail
        go_quiet (fail)
        go_wp2_with fail
        go_step3
        refine ⟨rfl, ⟨m + K, wv4, sk.put1 (f * 128 + at_ + m) (b.drop m), some ⟨gb, ob + K, none⟩, _, _, _, _, _, _, _, _, _, _, _, _, _, _, _, _, _, _, _, _, _, _, _, _, _, _, _, _, _, _, _, _, _, _, _, _, _, _, _, _, _, _, _, _, _, _, _, _, _, _, _, _, _, _, ?_, ?_, ?_, ?_, (HS.out _ (.inl rfl)).drewN _, ?_, rfl⟩, ?_⟩
        all_goals (try (have := HN.out; have := HBL.out; have := HQ.out; omega))
        · have := HQ.out; congr 1; omega
        · show n' - K < n'; omega
    · obtain rfl : n' = 0 := by omega
      have h0 : decide ((((0 : Nat) : Int)) > 0) = false := by decide
      go_wp2_with fail
      simp only [Exit.jump]
      go_ret
      have := HN.out
      obtain rfl : m = n := by omega
      have he := hI.eq
      rw [List.drop_eq_nil_of_le (by rw [HBL.out]; omega), put_nil] at he
      exact ⟨rfl, wk, by rw [he]; exact hI.hd, hI.fr, hI.ow⟩
  · intro hp
    go_wp2_with (go_at_call 104; refine ha.mono ?_; rintro e w1 ⟨rfl, h1⟩)
    go_step3
    rename_i hK
    have b2 := b1.trans (h1.mono (by simp))
    exact hK _ _ (hp _ _ ⟨0, wv, s, A, cap, n, _, _, _, _, _, _, _, _, _, _, _, _, _, _, _, _, _, _, _, _, _, _, _, _, _, _, _, _, _, _, _, _, _, _, _, _, _, _, _, _, _, _, _, _, _, _, _, _, _, _, _, _, Nat.zero_le _, rfl, hncap, hcap, ⟨h.below b2 (Nat.le_refl _), rfl, rfl, ⟨Nat.le_refl _, Nat.le_refl _⟩, by rw [HBL.out]; exact hA.below b2 (Nat.le_refl _), by rw [HBL.out]; exact hsep.below b2, hbx.below h1 hbx.lt, (Fr.ofBelow b2).monoNew (fun k hk => .inr hk), fun k hk => .inl hk⟩, rfl, rfl⟩)
end Go.Proofs.Ytnnhklembdaieaa
