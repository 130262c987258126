/- The area's Get: the bytes are those of the disk. Ahead: a label that is jumped to, whose pass is walked once. -/
import Derived.Test.YtnnhklembdaieaaAreaA
namespace Go.Proofs.Ytnnhklembdaieaa
open Go.RowKit
set_option linter.unusedSimpArgs false
set_option linter.unusedVariables false

/-- wp_scope_jumps, where the way up to the label may use the pass. -/
theorem wp_scope_label {P : Program} {a : Act} {w : World} {Q : Exit → Act → World → Prop} {c x : Code} (l : Nat) (J : Act → World → Prop) (μ : Act → World → Nat) (hf : findLabel c l = some (.seq .skip x))
    (pass : ∀ a w, J a w → x.wp P (Exit.jump l (fun a' w' => J a' w' ∧ μ a' w' < μ a w) Q) a w)
    (first : (∀ a w, J a w → x.wp P (Exit.jump l J Q) a w) → c.wp P (Exit.jump l J Q) a w) : (Code.scope c).wp P Q a w :=
  wp_scope_jumps l J μ hf (first fun a w h => wp_mono (pass a w h) (fun e a' w' he => by
    cases e <;> first | exact he | exact ⟨he.1, he.2.1⟩)) (fun a w h => wp_seq (wp_skip (pass a w h)))

theorem info5' : (Try.prog.info? 5).map (fun i => (i.zero, i.size, i.bytes)) = some (some (.int .u8 0), 1, 1) := by kernel_rfl
/-- what holds of Get at each pass. -/
structure GetI (w : World) (s : DSt) (f c q0 m : Nat) (v : Value) (wr : World) : Prop where
  own : wr.ownsRow w.heap.size 5 1 v m (bvs (s.seg q0 m))
  bx : Blk wr w.heap.size 113 #[.int .i64 (f : Int), .int .i64 (c : Int)]
  low : Below w.heap.size w wr

set_option maxRecDepth 100000 in
set_option maxHeartbeats 1600000 in
theorem get_ok (w : World) (base d bl : Nat) (wv : Value) (s : DSt) (h : DiskAt w base d bl wv s) (f c at_ k : Nat) (hf : 2 ≤ f) (hc : f + c ≤ s.l.length) (hk : at_ + k ≤ c * 128) (hc1 : 1 ≤ c) :
    Calls Try.prog 68 #[.pointer (some ⟨d, 0, none⟩), .agg #[.int .i64 (f : Int), .int .i64 (c : Int)], .int .i64 (at_ : Int), .int .i64 (k : Int)] w fun e w' => ∃ v, e = .returned (.tuple #[v, .int .i64 0]) ∧ w'.ownsRow w.heap.size 5 1 v k (bvs (s.seg (f * 128 + at_) k)) ∧ Below w.heap.size w w' := by
  have hnum := h.ok.num
  have b1 : Below w.heap.size w (w.alloc (.cells #[.int .i64 (f : Int), .int .i64 (c : Int)] 113)) := (Below.refl _ _).alloc (Nat.le_refl _) _
  have hask : askA s.l.length (f : Int) (c : Int) (at_ : Int) (k : Int) = 0 := by
    have : rightA s.l.length (f : Int) (c : Int) = true := by simp [rightA]; omega
    unfold askA
    rw [if_neg (by rw [this]; decide), if_pos (by omega)]
  have ha := askA_ok (.pointer (some ⟨d, 0, none⟩)) s.l.length hnum (f : Int) (c : Int) (at_ : Int) (k : Int) _ ((secDisk h).later b1) (by omega) (by omega)
  rw [hask] at ha
  have hbx := Blk.new w 113 #[.int .i64 (f : Int), .int .i64 (c : Int)]
  obtain ⟨i0, hi0, hz0, hs0, hb0⟩ := info_parts info5'
  clear hask
  go_enter Try.func68, Try.ntmps68
  go_wp2_with fail
  refine wp_scope_label 0 (fun a' wr => ∃ (m : Nat) (v : Value) (iv kv u12 u13 u14 u15 u16 u17 u18 u19 u20 u21 u22 u23 u24 u25 u26 u27 u28 u29 u30 u31 u32 u33 u34 u35 u36 u37 u38 u39 u40 u41 u42 u43 u44 u45 u46 u47 u48 u49 u50 u51 u52 u53 u54 u55 u56 u57 u58 u59 : Value), m ≤ k ∧ GetI w s f c (f * 128 + at_) m v wr ∧ iv = .int .i64 ((at_ + m : Nat) : Int) ∧ kv = .int .i64 ((k - m : Nat) : Int) ∧
    a' = { tmps := #[.pointer (some ⟨d, 0, none⟩), .agg #[.int .i64 (f : Int), .int .i64 (c : Int)], iv, kv, undef, .pointer (some ⟨w.heap.size, 0, none⟩), undef, undef, .slice none 0 0, .int .i64 0, .int .i64 0, v, u12, u13, u14, u15, u16, u17, u18, u19, u20, u21, u22, u23, u24, u25, u26, u27, u28, u29, u30, u31, u32, u33, u34, u35, u36, u37, u38, u39, u40, u41, u42, u43, u44, u45, u46, u47, u48, u49, u50, u51, u52, u53, u54, u55, u56, u57, u58, u59], defers := [] })
    (fun a' _ => (intOf (a'.tmps.getD 3 undef)).toNat) rfl ?_ ?_
  · rintro a wr ⟨m, v, iv, kv, u12, u13, u14, u15, u16, u17, u18, u19, u20, u21, u22, u23, u24, u25, u26, u27, u28, u29, u30, u31, u32, u33, u34, u35, u36, u37, u38, u39, u40, u41, u42, u43, u44, u45, u46, u47, u48, u49, u50, u51, u52, u53, u54, u55, u56, u57, u58, u59, hm, ⟨hown, hbx2, hlow⟩, rfl, rfl, rfl⟩
    clear ha hbx b1
    obtain ⟨q, hq⟩ : ∃ q, at_ + m = q := ⟨_, rfl⟩
    obtain ⟨r, hr⟩ : ∃ r, k - m = r := ⟨_, rfl⟩
    rw [hq, hr]
    have e0 : wr.cell? ⟨w.heap.size, 0, none⟩ = some (.int .i64 (f : Int)) := (hbx2.cell 0).trans rfl
    have hq0 : (0 : Int) ≤ (q : Int) := by omega
    have hr0 : (0 : Int) ≤ (r : Int) := by omega
    have hqr : q + r ≤ c * 128 := by omega
    have hfi : (0 : Int) ≤ (f : Int) := by omega
    have HB := hide hbx2
    have HQ := hide hq
    have HR := hide hr
    clear hbx2 hq hr
    by_cases hpos : 0 < r
    · have hi : f + q / 128 < s.l.length := by omega
      have hdw := h.below hlow (Nat.le_refl _)
      have hrd := readE wr _ _ _ _ _ hdw (f + q / 128) hi
      rw [show ((f + q / 128 : Nat) : Int) = (f : Int) + (q : Int) / 128 by omega] at hrd
      have hxl : (s.read (f + q / 128)).length = 128 := DSt.read_length h.ok hi
      have HXL := hide hxl
      clear hxl
      have hqm : q % 128 < 128 := Nat.mod_lt _ (by omega)
      have hqm0 : (0 : Int) ≤ (q : Int) % 128 := by omega
      by_cases hm2 : r ≤ 128 - q % 128
      · go_wp2_with fail
        refine hrd.mono ?_
        rintro e w2 ⟨g, rfl, hg2, hb2, hd2, hn2, hl2⟩
        have hown2 : w2.ownsRow w.heap.size 5 1 v m (bvs (s.seg (f * 128 + at_) m)) := Fr.own hown (Fr.ofBelow hl2) (fun k hk => by have := (hown.lt k hk).2; omega)
        have HO := hide hown2
        clear hrd hown hown2
        have hrg : w2.rangeAt g (q % 128) (bvs ((List.drop (q % 128) (s.read (f + q / 128))).take r)) := by
          have := range_sub hb2.rangeAll (q % 128) r (bvs ((List.drop (q % 128) (s.read (f + q / 128))).take r)) (by simp only [bvs, List.map_take, List.map_drop])
          rwa [Nat.zero_add] at this
        have HG := hide hrg
        clear hrg
        go_wp2_with (at_builtin; refine wpList_append_own_at _ rfl _ _ 28 rfl w.heap.size 5 i0 _ 1 1 Try.underlying28 hi0 hz0 hs0 hb0 rfl (by omega) v m _ rfl HO.out ⟨g, q % 128, none⟩ r (128 - q % 128) (bvs ((List.drop (q % 128) (s.read (f + q / 128))).take r)) ?_ ?_ ?_ (bvs_one _) ?_ ?_ ?_ ?_; (go_simp); (rw [bvs_length, Nat.mul_one, List.length_take, List.length_drop, HXL.out]; omega); (intro j u hu; rw [Addr.add_mid]; exact HG.out j u hu); (unfold maxLen; omega); omega; (have := hlow.size; have := hl2.size; omega); intro v3 w3 hown3 hgrow3 _ _)
        have hsg : s.seg (f * 128 + at_) (m + r) = s.seg (f * 128 + at_) m ++ ((List.drop (q % 128) (s.read (f + q / 128))).take r) := by
          rw [seg_add, seg_sector h.ok _ _ _ hi (by omega)]
          congr 2
          have := HQ.out
          omega
        have hbel3 : Below w.heap.size w w3 := ((hlow.trans (hl2.mono hlow.size)).grown hgrow3 (by have := hlow.size; have := hl2.size; omega) (fun k hk => (HO.out.lt k hk).1))
        have hbx3 : Blk w3 w.heap.size 113 #[.int .i64 (f : Int), .int .i64 (c : Int)] := (HB.out.below hl2 HB.out.lt).grown hgrow3 (fun e => own_ne HO.out (HB.out.below hl2 HB.out.lt) (by decide) e.symm)
        have hown3' : w3.ownsRow w.heap.size 5 1 v3 (m + r) (bvs (s.seg (f * 128 + at_) (m + r))) := by rw [hsg, bvs_append]; exact hown3
        have H3 := hide (And.intro hown3' (And.intro hbx3 hbel3))
        clear hown3 hown3' hbx3 hbel3 hsg hgrow3
        go_wp2
        go_step3
        have := HQ.out
        have := HR.out
        exact ⟨rfl, ⟨m + r, v3, _, _, _, _, _, _, _, _, _, _, _, _, _, _, _, _, _, _, _, _, _, _, _, _, _, _, _, _, _, _, _, _, _, _, _, _, _, _, _, _, _, _, _, _, _, _, _, _, _, _, by omega, ⟨H3.out.1, H3.out.2.1, H3.out.2.2⟩, by congr 1; omega, by congr 1; omega, rfl⟩, by simp [intOf]; omega⟩
      · have hm3 : 128 - (q : Int) % 128 ≤ (r : Int) := by omega
        go_wp2_with fail
        refine hrd.mono ?_
        rintro e w2 ⟨g, rfl, hg2, hb2, hd2, hn2, hl2⟩
        have hown2 : w2.ownsRow w.heap.size 5 1 v m (bvs (s.seg (f * 128 + at_) m)) := Fr.own hown (Fr.ofBelow hl2) (fun k hk => by have := (hown.lt k hk).2; omega)
        have HO := hide hown2
        clear hrd hown hown2
        have hrg : w2.rangeAt g (q % 128) (bvs ((List.drop (q % 128) (s.read (f + q / 128))).take (128 - q % 128))) := by
          have := range_sub hb2.rangeAll (q % 128) (128 - q % 128) (bvs ((List.drop (q % 128) (s.read (f + q / 128))).take (128 - q % 128))) (by simp only [bvs, List.map_take, List.map_drop])
          rwa [Nat.zero_add] at this
        have HG := hide hrg
        clear hrg
        go_wp2_with (at_builtin; refine wpList_append_own_at _ rfl _ _ 28 rfl w.heap.size 5 i0 _ 1 1 Try.underlying28 hi0 hz0 hs0 hb0 rfl (by omega) v m _ rfl HO.out ⟨g, q % 128, none⟩ (128 - q % 128) (128 - q % 128) (bvs ((List.drop (q % 128) (s.read (f + q / 128))).take (128 - q % 128))) ?_ ?_ ?_ (bvs_one _) ?_ ?_ ?_ ?_; (go_simp); (rw [bvs_length, Nat.mul_one, List.length_take, List.length_drop, HXL.out]; omega); (intro j u hu; rw [Addr.add_mid]; exact HG.out j u hu); (unfold maxLen; omega); omega; (have := hlow.size; have := hl2.size; omega); intro v3 w3 hown3 hgrow3 _ _)
        have hsg : s.seg (f * 128 + at_) (m + (128 - q % 128)) = s.seg (f * 128 + at_) m ++ ((List.drop (q % 128) (s.read (f + q / 128))).take (128 - q % 128)) := by
          rw [seg_add, seg_sector h.ok _ _ _ hi (by omega)]
          congr 2
          have := HQ.out
          omega
        have hbel3 : Below w.heap.size w w3 := ((hlow.trans (hl2.mono hlow.size)).grown hgrow3 (by have := hlow.size; have := hl2.size; omega) (fun k hk => (HO.out.lt k hk).1))
        have hbx3 : Blk w3 w.heap.size 113 #[.int .i64 (f : Int), .int .i64 (c : Int)] := (HB.out.below hl2 HB.out.lt).grown hgrow3 (fun e => own_ne HO.out (HB.out.below hl2 HB.out.lt) (by decide) e.symm)
        have hown3' : w3.ownsRow w.heap.size 5 1 v3 (m + (128 - q % 128)) (bvs (s.seg (f * 128 + at_) (m + (128 - q % 128)))) := by rw [hsg, bvs_append]; exact hown3
        have H3 := hide (And.intro hown3' (And.intro hbx3 hbel3))
        clear hown3 hown3' hbx3 hbel3 hsg hgrow3
        go_wp2
        go_step3
        have := HQ.out
        have := HR.out
        exact ⟨rfl, ⟨m + (128 - q % 128), v3, _, _, _, _, _, _, _, _, _, _, _, _, _, _, _, _, _, _, _, _, _, _, _, _, _, _, _, _, _, _, _, _, _, _, _, _, _, _, _, _, _, _, _, _, _, _, _, _, _, _, by omega, ⟨H3.out.1, H3.out.2.1, H3.out.2.2⟩, by congr 1; omega, by congr 1; omega, rfl⟩, by simp [intOf]; omega⟩
    · obtain rfl : r = 0 := by omega
      have h0 : decide ((((0 : Nat) : Int)) > 0) = false := by decide
      go_wp2_with fail
      simp only [Exit.jump]
      go_ret2
      have := HR.out
      obtain rfl : m = k := by omega
      exact ⟨_, rfl, hown, hlow⟩
  · intro hp
    go_wp2_with (go_at_call 104; refine ha.mono ?_; rintro e w1 ⟨rfl, h1⟩)
    go_step3
    rename_i hK
    exact hK _ _ (hp _ _ ⟨0, .slice none 0 0, _, _, _, _, _, _, _, _, _, _, _, _, _, _, _, _, _, _, _, _, _, _, _, _, _, _, _, _, _, _, _, _, _, _, _, _, _, _, _, _, _, _, _, _, _, _, _, _, _, _, Nat.zero_le _, ⟨World.ownsRow_nil _ _ _ _, hbx.below h1 hbx.lt, b1.trans (h1.mono (by simp))⟩, rfl, rfl, rfl⟩)
end Go.Proofs.Ytnnhklembdaieaa
