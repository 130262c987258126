/- The document's journal: Format, Records, Open. The document's journal: Open. journal.Super; does a journal say what the document's has (tells); the journal that is nil and the one that no call made. The journal that is nil, and the one that no call made. A journal and the document's, side by side. A journal and the document's, side by side: each call of the two. A journal and the document's, side by side: a crash, and both opened. A journal and the document's, side by side: both made. -/
import Derived.Test.YtnnhklembdaieaaRJ1
import Derived.Test.YtnnhklembdaieaaRefSTU
import Derived.Test.YtnnhklembdaieaaJouE
namespace Go.Proofs.Ytnnhklembdaieaa
open Go.RowKit
set_option linter.unusedSimpArgs false
set_option linter.unusedVariables false

set_option maxRecDepth 100000 in
set_option maxHeartbeats 3200000 in
theorem xformat_ok {w : World} {base x : Nat} {lv av tv : Value} {D : DSt} (hx : RefAt w base x lv av tv D) (h4 : 4 ≤ D.l.length) (hcnt : D.waits.length < 400000000 ∧ D.writes < 400000000000 ∧ D.syncs < 400000000000) :
    Calls Try.prog 56 #[.pointer (some ⟨x, 0, none⟩)] w fun e w' => ∃ y av' tv', e = .returned (.pointer (some ⟨y, 0, none⟩)) ∧ XRun w' base x y ((D.l.length - 2) / 2) lv av' tv' (.slice none 0 0) (D.write 1 (superBytes ⟨1, 0, 0⟩)).sync (JSt.new 1 0 0) 0 0 0 ∧ TFr base nob w w' := by
  have hbase := hx.size
  have hnum := hx.ok.num
  have hW := fun w => rwriteE ⟨1, 0, 0⟩ (by decide) w
  obtain ⟨X, hX⟩ : ∃ X, X = superBytes ⟨1, 0, 0⟩ := ⟨_, rfl⟩
  have hXl : X.length = 128 := by rw [hX]; exact superBytes_length _
  have hv : superV ⟨1, 0, 0⟩ = .agg #[.int .u64 1, .int .i64 0, .int .i64 0] := rfl
  rw [hv, ← hX] at hW
  rw [← hX]
  unfold strv at hW
  have kq := Blk.new w 105 #[.int .u64 1, .int .i64 0, .int .i64 0]
  have HX := hide hx
  clear hX hv hx
  go_enter Try.func56, Try.ntmps56
  go_upto_region 2 with fail
  have b1 : Below w.heap.size w (w.alloc (Obj.cells #[Value.int IntKind.u64 1, Value.int IntKind.i64 0, Value.int IntKind.i64 0] 105)) := (Below.refl _ w).alloc (Nat.le_refl _) _
  obtain ⟨w1, hw1⟩ : ∃ w1, w1 = w.alloc (Obj.cells #[Value.int IntKind.u64 1, Value.int IntKind.i64 0, Value.int IntKind.i64 0] 105) := ⟨_, rfl⟩
  obtain ⟨q, hq⟩ : ∃ q, q = w.heap.size := ⟨_, rfl⟩
  rw [← hw1] at kq b1 ⊢
  rw [← hq] at kq ⊢
  clear hw1 hq
  have q0 : w1.cell? ⟨q, 0, none⟩ = some (.int .u64 1) := (kq.cell 0).trans rfl
  have q1 : w1.cell? ⟨q, 1, none⟩ = some (.int .i64 0) := (kq.cell 1).trans rfl
  have q2 : w1.cell? ⟨q, 2, none⟩ = some (.int .i64 0) := (kq.cell 2).trans rfl
  go_wp2_with fail
  refine (hW w1).mono ?_
  rintro e w2 ⟨rfl, b2⟩
  obtain ⟨cp, w3, hcv, hsl, hb3⟩ := run_conv_bytes w2 X 128 hXl
  have b2' := b1.trans (b2.mono b1.size)
  have b3' := b2'.trans (hb3.mono b2'.size)
  have hx3 := HX.out.below b3' (Nat.le_refl _)
  have kq3 := (kq.below b2 kq.lt).below hb3 (kq.below b2 kq.lt).lt
  obtain ⟨gs, os, hgs, hgsl, hrs⟩ := hsl.2 (by omega)
  injection hgs with hgs
  injection hgs with hg1' hg2'
  subst hg1' hg2'
  have HRW := hide (refWrite_ok w3 _ x lv av tv D hx3 1 (by omega) w2.heap.size 0 cp X hXl hrs (by
    intro he
    have := (HX.out.low _ (.inr (.inr (.inl he)))).2
    have := b2'.size
    omega) (by
    intro he
    have := (HX.out.low _ (.inr (.inr (.inr he)))).2
    have := b2'.size
    omega) (by omega))
  have HK3 := hide (And.intro kq3 (And.intro hx3 b3'))
  clear q0 q1 q2 kq kq3 hx3 b3' b2' b2 hb3 hsl hrs hgsl b1
  go_wp2_with fail
  refine HRW.out.mono ?_
  rintro e w4 ⟨rfl, av4, tv4, hx4, f4⟩
  have kq4 := HK3.out.1.fr f4 (HK3.out.2.1.off HK3.out.1 (by decide) (by decide) (by decide))
  have HF4 := hide (TFr.ofRef (base := base) (S := nob) HK3.out.2.1 f4)
  have HSY := hide (refSync_ok w4 base x lv av4 tv4 _ hx4 (by show 0 < D.l.length; omega) (by show D.syncs < _; omega))
  have HX4 := hide hx4
  have HKQ4 := hide kq4
  clear hx4 f4 kq4 HRW hcv
  go_wp2_with fail
  refine HSY.out.mono ?_
  rintro e w5 ⟨rfl, hx5, f5⟩
  have kq5 := HKQ4.out.fr f5 (HX4.out.off HKQ4.out (by decide) (by decide) (by decide))
  have HF5 := hide (TFr.ofRef (base := base) (S := nob) HX4.out f5)
  have q0 : w5.cell? ⟨q, 0, none⟩ = some (.int .u64 1) := (kq5.cell 0).trans rfl
  have q1 : w5.cell? ⟨q, 1, none⟩ = some (.int .i64 0) := (kq5.cell 1).trans rfl
  have q2 : w5.cell? ⟨q, 2, none⟩ = some (.int .i64 0) := (kq5.cell 2).trans rfl
  have HX5 := hide hx5
  clear hx5 f5 kq5 HSY
  go_wp2
  go_ret
  have hl5 : (D.write 1 X).sync.l.length = D.l.length := by rw [DSt.sync_l]; rfl
  have ky := Blk.new w5 107 (xcells x (.slice none 0 0) (JSt.new 1 0 0) 0 0 0)
  have bn : Below w5.heap.size w5 (w5.alloc (.cells (xcells x (.slice none 0 0) (JSt.new 1 0 0) 0 0 0) 107)) := (Below.refl _ _).alloc (Nat.le_refl _) _
  have hf5 : TFr base nob w w5 := ((TFr.ofBelow HK3.out.2.2).trans HF4.out (fun k hk => .inl hk)).trans HF5.out (fun k hk => .inl hk)
  refine ⟨w5.heap.size, .slice none 0 0, .slice none 0 0, rfl, ⟨HX5.out.below bn (Nat.le_refl _), ⟨ky, World.ownsRow_nil _ _ _ _, fun h => absurd rfl h, by have := hf5.size; omega, by omega⟩, ?_, by rw [hl5], by simp only [DSt.sync, DSt.write, List.length_nil]; omega⟩, hf5.trans (TFr.ofBelow bn) (fun k hk => .inl hk)⟩
  constructor <;> (try simp [JSt.new]) <;> omega
theorem run_conv_cells (w : World) (l : List UInt8) (n : Nat) (hl : l.length = n) : ∃ (cap : Nat) (w' : World) (cs : Array Value) (mk : Nat × Nat), (convert 9 28 (.string (bs l))).run Try.prog w = .ok (.slice (some ⟨w.heap.size, 0, none⟩) n cap) w' ∧ SlAt w' (some ⟨w.heap.size, 0, none⟩) n (bvs l) ∧ Below w.heap.size w w' ∧ w'.heap[w.heap.size]? = some (.cells cs 5 mk) := by
  refine ⟨_, _, _, _, by rw [Lib.run_convert_string_bytes (P := Try.prog) w 9 28 5 (bs l) Try.underlying9 Try.underlying28 Try.underlying5, bs_size, hl], ?_, ?_, Lib.bytesWorld_at_new w 5 (bs l)⟩
  · refine ⟨by rw [bvs_length, hl], fun hn => ⟨w.heap.size, 0, rfl, by rw [Lib.bytesWorld_size]; omega, fun j v hv => ?_⟩⟩
    rw [Nat.zero_add]
    have hj : j < l.length := by have := (List.getElem?_eq_some_iff.1 hv).1; rwa [bvs_length] at this
    rw [Lib.bytesWorld_cell w 5 (bs l) j (by rw [bs_size]; exact hj), bs_list]
    rw [bvs, List.getElem?_map, List.getElem?_eq_getElem hj] at hv
    rw [List.getD_eq_getElem?_getD, List.getElem?_eq_getElem hj]
    exact hv
  · exact ⟨rfl, rfl, rfl, by rw [Lib.bytesWorld_size]; omega, fun k hk => Lib.bytesWorld_at_old w 5 (bs l) k hk⟩
/-- texts in a row of one's own, the texts' blocks marked or not. -/
structure RowsM (w : World) (B : Nat) (v : Value) (rows : List RowM) : Prop where
  own : w.ownsRow B 28 1 v rows.length (rows.map fun r => .slice r.A r.l.length r.c)
  each : ∀ r ∈ rows, r.l.length ≤ 1000000 ∧ ∃ g cs mk, r.A = some ⟨g, 0, none⟩ ∧ w.heap[g]? = some (.cells cs 5 mk) ∧ SlAt w r.A r.l.length (bvs r.l)
theorem RowsM.nil (w : World) (B : Nat) : RowsM w B (.slice none 0 0) [] := ⟨World.ownsRow_nil _ _ _ _, fun r h => by simp at h⟩
theorem RowsM.eachFr {w w' : World} {S : Nat → Prop} {B : Nat} {v : Value} {rows : List RowM} (h : RowsM w B v rows) (hf : Fr S w w') (hS : ∀ k cs mk, w.heap[k]? = some (.cells cs 5 mk) → ¬ S k) : ∀ r ∈ rows, r.l.length ≤ 1000000 ∧ ∃ g cs mk, r.A = some ⟨g, 0, none⟩ ∧ w'.heap[g]? = some (.cells cs 5 mk) ∧ SlAt w' r.A r.l.length (bvs r.l) := fun r hr => by
  obtain ⟨h0, g, cs, mk, h1, h2, h3⟩ := h.each r hr
  have hlt : g < w.heap.size := heap_lt h2
  exact ⟨h0, g, cs, mk, h1, (hf.block g hlt (hS g cs mk h2)).trans h2, h3.fr hf (fun a ha _ => by rw [h1] at ha; injection ha with ha; rw [← ha]; exact hS g cs mk h2)⟩
theorem RowsM.below {w w' : World} {B : Nat} {v : Value} {rows : List RowM} (h : RowsM w B v rows) (hb : Below w.heap.size w w') : RowsM w' B v rows :=
  ⟨Fr.own h.own (Fr.none_ (S := nob) hb) (fun _ _ h => h), h.eachFr (Fr.none_ (S := nob) hb) (fun _ _ _ _ h => h)⟩
theorem RowsM.texts {w : World} {B : Nat} {A : Option Addr} {m cp : Nat} {rows : List RowM} (h : RowsM w B (.slice A m cp) rows) : rows.length = m ∧ TextsAt w A rows := by
  obtain ⟨A', cp', hv, hle, hmx, hr⟩ := own_shape h.own
  injection hv with h1 h2 h3
  subst h1 h2 h3
  have hmm : maxLen = 9223372036854775807 := by decide
  refine ⟨rfl, by omega, fun h0 => ?_⟩
  obtain ⟨g, rfl, hg1, hg2, hrr⟩ := hr h0
  refine ⟨g, 0, rfl, hg2, fun k hk => ⟨?_, ?_, ?_⟩⟩
  · have := hrr k _ (by rw [List.getElem?_map, List.getElem?_eq_getElem hk]; rfl)
    exact this
  · obtain ⟨_, _, _, _, _, _, h3⟩ := h.each _ (List.getElem_mem hk)
    exact h3
  · have := (h.each _ (List.getElem_mem hk)).1
    omega
set_option maxRecDepth 100000 in
set_option maxHeartbeats 3200000 in
theorem xrecords_ok (b : List UInt8) (hb : b.length ≤ 600000) (hgood : (recsOf b).2 = true) (w : World) :
    Calls Try.prog 102 #[.string (bs b)] w fun e w' => ∃ v rows, e = .returned (.tuple #[v, .bool true]) ∧ rows.map (·.l) = (recsOf b).1 ∧ RowsM w' w.heap.size v rows ∧ Below w.heap.size w w' := by
  obtain ⟨i0, z0, hi0, hz0, hzl, hs0, hb0⟩ := infoN (show (Try.prog.info? 28).map (fun i => (i.size, i.bytes, i.zero.map (·.cells.toList))) = some (1, 24, some [.slice none 0 0]) by kernel_rfl)
  have hzs : z0.cells.size = 1 := by rw [← Array.length_toList, hzl]; rfl
  obtain ⟨N, hN⟩ : ∃ N, N = b.length := ⟨_, rfl⟩
  have hsz : (bs b).size = N := by rw [bs_size, hN]
  rw [← hN] at hb
  have HN := hide hN
  have HG := hide hgood
  have hat : ∀ i (hi : i < (bs b).size), (bs b)[i] = b.getD i 0 := fun i hi => bs_at b i hi
  clear hN hgood
  go_enter Try.func102, Try.ntmps102
  go_wp2_with fail
  go_loopw [4, 5] (fun ov i wr => ∃ (k : Nat) (rows : List RowM), k ≤ N ∧ i = .int .i64 k ∧ recsOf b = (rows.map (·.l) ++ (recsOf (b.drop k)).1, (recsOf (b.drop k)).2) ∧ rows.length ≤ k ∧ RowsM wr w.heap.size ov rows ∧ Below w.heap.size w wr) (fun _ i _ => N - (intOf i).toNat)
  case atStart => exact ⟨0, [], by omega, rfl, by simp, by simp, RowsM.nil _ _, Below.refl _ _⟩
  case round =>
    obtain ⟨k, rows, hkN, rfl, hrec, hrk, hin, hbel⟩ := hrel
    have HREC := hide hrec
    have HIN := hide hin
    have HB := hide hbel
    obtain ⟨OA, cpO, rfl, -, -, -⟩ := own_shape hin.own
    have hgr : (recsOf (b.drop k)).2 = true := by have := HG.out; rwa [hrec] at this
    have hrl : (b.drop k).length = N - k := by rw [List.length_drop, HN.out]
    clear hrec hin hbel
    by_cases hlt : k < N
    · have hn1 : N - k ≠ 1 := fun e => by
        rw [recsOf_short _ (by omega)] at hgr
        cases hgr
      have hgd : headN (b.drop k) ≤ (b.drop k).length - 2 ∧ isRec (headN (b.drop k)) = true := by
        refine Classical.byContradiction fun hc => ?_
        rw [recsOf_bad _ (by omega) hc] at hgr
        cases hgr
      have hrg := recsOf_good _ (by omega) hgd
      obtain ⟨n, hn⟩ : ∃ n, n = headN (b.drop k) := ⟨_, rfl⟩
      rw [← hn, hrl] at hgd
      rw [← hn] at hrg
      have hn2 : 1 ≤ n ∧ n ≤ 2000 := by simpa [isRec] using hgd.2
      obtain ⟨hn2, hn3⟩ := hn2
      have hfit := hgd.1
      obtain ⟨b0, hb0'⟩ : ∃ x, x = b.getD k 0 := ⟨_, rfl⟩
      obtain ⟨b1, hb1'⟩ : ∃ x, x = b.getD (k + 1) 0 := ⟨_, rfl⟩
      have hhd : n = b0.toNat * 256 + b1.toNat := by
        rw [hn, headN, hb0', hb1']
        simp only [List.getD_eq_getElem?_getD, List.getElem?_drop, Nat.add_zero]
      have hx0 : b0.toNat < 256 := b0.toNat_lt
      have hx1 : b1.toNat < 256 := b1.toNat_lt
      have hsum : 256 * (b0.toNat : Int) + (b1.toNat : Int) = (n : Int) := by omega
      have t1 : decide ((N : Int) - (k : Int) < 2) = false := by simp; omega
      have t2 : decide ((n : Int) < 1) = false := by simp; omega
      have t3 : decide ((n : Int) > 2000) = false := by simp; omega
      have t4 : decide ((n : Int) > (N : Int) - (k : Int) - 2) = false := by simp; omega
      have hkk0 : k < (bs b).size := by omega
      have hkk1 : k + 1 < (bs b).size := by omega
      have hi1 := hat k hkk0
      have hi2 := hat (k + 1) hkk1
      rw [← hb0'] at hi1
      rw [← hb1'] at hi2
      have hwr : IntKind.i64.wrap ((k : Int) + 1) = (k : Int) + 1 := IntWalk.i64_in _ (by omega)
      have htn : ((k : Int) + 1).toNat = k + 1 := by omega
      have hlo : (0 : Int) ≤ (k : Int) + 1 := by omega
      have hhi : (k : Int) + 1 < (N : Int) := by omega
      have hw0 : IntKind.i64.wrap (b0.toNat : Int) = (b0.toNat : Int) := IntWalk.i64_in _ (by omega)
      have hw1 : IntKind.i64.wrap (b1.toNat : Int) = (b1.toNat : Int) := IntWalk.i64_in _ (by omega)
      have hw2 : IntKind.i64.wrap (256 * (b0.toNat : Int)) = 256 * (b0.toNat : Int) := IntWalk.i64_in _ (by omega)
      have hw3 : IntKind.i64.wrap (n : Int) = (n : Int) := IntWalk.i64_in _ (by omega)
      have HRG := hide hrg
      have HD2 := hide hgd.2
      clear hgd hrg hgr hb0' hb1' hn hn1 hat
      go_wp2_with fail
      refine wp_region_held 12 (fun w' => True) (fun _ => false) (by kernel_rfl) (by kernel_rfl) trivial (fun ops hops F hF => ?_)
      clear hops
      simp only [List.take_succ_cons, List.take_zero, List.drop_succ_cons, List.drop_zero] at hF ⊢
      iterate 12 (refine held_q rfl rfl ?_; apply Exists.intro; refine ⟨fun w' hw' => ?_, ?_⟩; (go_simp; rfl); simp only [Act.put, List.setIfInBounds_toArray, List.set_cons_zero, List.set_cons_succ, Nat.reduceAdd])
      refine held_nil (hF _ _ ?_)
      clear hF F
      have hwn : IntKind.i64.wrap ((b0.toNat : Int) * 256 + (b1.toNat : Int)) = (n : Int) := by rw [IntWalk.i64_in _ (by omega)]; omega
      rw [hwn]
      obtain ⟨wd, hwd⟩ : ∃ wd, wd = wr.drew := ⟨_, rfl⟩
      have bd : Below wr.heap.size wr wd := by rw [hwd]; exact (Below.refl _ _).drew
      rw [← hwd]
      clear hwd hwn hw0 hw1 hw2 hw3 hi1 hi2 hkk0 hkk1 htn hlo hhi hwr hsum hhd hx0 hx1
      obtain ⟨r, hr⟩ : ∃ r, r = (b.drop (k + 2)).take n := ⟨_, rfl⟩
      have hrl2 : r.length = n := by rw [hr, List.length_take, List.length_drop, HN.out.symm]; omega
      have hcut := bs_cut b (k + 2) (k + 2 + n)
      rw [show k + 2 + n - (k + 2) = n by omega, ← hr] at hcut
      obtain ⟨cp, w2, cs, mk, hcv, hsl, hb2, hcell⟩ := run_conv_cells wd r n hrl2
      have HR := hide (And.intro hr hrl2)
      have HSL := hide (And.intro hsl (And.intro hb2 hcell))
      have HIN2 := hide ((HIN.out.below bd).below hb2)
      have l1 : (0 : Int) ≤ (k : Int) + 2 := by omega
      have l2 : (k : Int) + 2 ≤ (k : Int) + 2 + (n : Int) := by omega
      have l3 : (k : Int) + 2 + (n : Int) ≤ (N : Int) := by omega
      have l4 : ((k : Int) + 2).toNat = k + 2 := by omega
      have l5 : ((k : Int) + 2 + (n : Int)).toNat = k + 2 + n := by omega
      have hb2' := HB.out.trans ((bd.mono HB.out.size).trans (hb2.mono (Nat.le_trans HB.out.size bd.size)))
      have hn1 : ∀ j u, [Value.slice (some ⟨wd.heap.size, 0, none⟩) n cp][j]? = some u → (w2.alloc (.cells #[.slice (some ⟨wd.heap.size, 0, none⟩) n cp] 28)).cell? ((⟨w2.heap.size, 0, none⟩ : Addr).add j) = some u := cell_one_new w2 _ 28
      have hsz2 : w.heap.size ≤ w2.heap.size := hb2'.size
      have HB2 := hide hb2'
      clear hr hrl2 hsl hb2 hcell bd hb2'
      go_wp2_with (at_builtin; refine wpList_append_own _ rfl _ _ 85 rfl w.heap.size 28 i0 _ 1 24 Try.underlying85 hi0 hz0 hs0 hb0 hzs (by omega) (.slice OA rows.length cpO) rows.length (rows.map fun r => .slice r.A r.l.length r.c) rfl (HIN2.out.own.alloc _) ⟨w2.heap.size, 0, none⟩ 1 1 [.slice (some ⟨wd.heap.size, 0, none⟩) n cp] rfl rfl hn1 (by simp [Value.oneCell']) (by unfold maxLen; omega) (by omega) (by simp; omega) ?_; intro v6 w6 hown6 hgrow6 _)
      have f6 : Fr (fun q => (Value.slice OA rows.length cpO).ownBlock = some q) w2 w6 := ((Fr.refl _ w2).alloc _).grown hgrow6 (fun q hq => .inl hq)
      have hS : ∀ q cs mk, w2.heap[q]? = some (.cells cs 5 mk) → ¬ ((Value.slice OA rows.length cpO).ownBlock = some q) := fun q cs mk hc hq => by
        obtain ⟨cs', hc'⟩ := own_blk HIN2.out.own hq
        exact cells_ne hc (show w2.heap[q]? = some (.cells cs' 28 (0, 0)) from hc') (by decide) rfl
      refine ⟨⟨k + 2 + n, rows ++ [⟨some ⟨wd.heap.size, 0, none⟩, cp, r⟩], by omega, by go_num, ?_, by simp; omega, ⟨?_, ?_⟩, HB2.out.trans (f6.below hsz2 (fun q hq => (HIN2.out.own.lt q hq).1))⟩, by simp [intOf]; omega⟩
      · rw [HREC.out, HRG.out, List.map_append, List.drop_drop, List.drop_drop, HR.out.1, show k + (2 + n) = k + 2 + n by omega]
        simp
      · rw [List.length_append, List.map_append]
        have e9 : List.map (fun r : RowM => Value.slice r.A r.l.length r.c) [⟨some ⟨wd.heap.size, 0, none⟩, cp, r⟩] = [.slice (some ⟨wd.heap.size, 0, none⟩) n cp] := by simp [HR.out.2]
        rw [e9]
        exact hown6
      · intro q hq
        rcases List.mem_append.1 hq with hq | hq
        · exact HIN2.out.eachFr f6 hS q hq
        · rw [List.mem_singleton.1 hq]
          have hlt2 := heap_lt HSL.out.2.2
          refine ⟨by show r.length ≤ _; rw [HR.out.2]; omega, wd.heap.size, cs, mk, rfl, (f6.block _ hlt2 (hS _ _ _ HSL.out.2.2)).trans HSL.out.2.2, ?_⟩
          show SlAt w6 (some ⟨wd.heap.size, 0, none⟩) r.length (bvs r)
          rw [HR.out.2]
          exact HSL.out.1.fr f6 (fun a ha _ => by injection ha with ha; rw [← ha]; exact hS _ _ _ HSL.out.2.2)
    · obtain rfl : k = N := by omega
      go_wp2
      go_ret2
      have h1 := HREC.out
      rw [List.drop_of_length_le (by rw [HN.out]; exact Nat.le_refl _), recsOf_nil, List.append_nil] at h1
      exact ⟨_, rows, rfl, by rw [h1], HIN.out, HB.out⟩
end Go.Proofs.Ytnnhklembdaieaa
namespace Go.Proofs.Ytnnhklembdaieaa
open Go.RowKit
set_option linter.unusedSimpArgs false
set_option linter.unusedVariables false

set_option maxRecDepth 100000 in
set_option maxHeartbeats 3200000 in
theorem xopen_ok {w : World} {base x : Nat} {lv av tv : Value} {D : DSt} (hx : RefAt w base x lv av tv D) (c g a l : Nat) (R : List (List UInt8)) (hF : Found c D g a l R) (hc : c = (D.l.length - 2) / 2) (hcnt : D.waits.length ≤ 490000000 ∧ D.writes ≤ 490000000000 ∧ D.syncs ≤ 490000000000) :
    Calls Try.prog 60 #[.pointer (some ⟨x, 0, none⟩)] w fun e w' => ∃ y v rows, e = .returned (.tuple #[.pointer (some ⟨y, 0, none⟩), v, .int .i64 0]) ∧ XRun w' base x y c lv av tv (.slice none 0 0) D (JSt.new g a l) 0 0 0 ∧ rows.map (·.l) = R ∧ RowsM w' w.heap.size v rows ∧ Below w.heap.size w w' := by
  have hbase := hx.size
  have HX := hide hx
  have HF := hide hF
  have hjk := hF.inv.jk
  have HJK := hide hjk
  have hc1 := hjk.c1
  have ha1 := hF.a1
  have hll := hF.ll
  have hc4 : c ≤ 4096 := hjk.c2
  have H2 := hide (show 2 + 2 * c ≤ D.l.length by omega)
  have HNW := hide (rnewest_ok w base x lv av tv D hx (by have := H2.out; omega) _ _ rfl rfl)
  have hnr : refNewRes (newestS (D.read 0) (D.read 1)) = .tuple #[.agg #[.int .u64 (g : Int), .int .i64 (a : Int), .int .i64 (l : Int)], .bool true] := by rw [hF.new]; rfl
  rw [hnr] at HNW
  have HC := hide hc
  have HCN := hide hcnt
  clear hx hF hjk hnr hc hcnt
  go_enter Try.func60, Try.ntmps60
  go_wp2_with fail
  refine HNW.out.mono ?_
  rintro e w1 ⟨rfl, b1⟩
  go_upto_region 4 with fail
  obtain ⟨w2, hw2⟩ : ∃ w2, w2 = w1.alloc (Obj.cells #[Value.int IntKind.u64 ↑g, Value.int IntKind.i64 ↑a, Value.int IntKind.i64 ↑l] 105) := ⟨_, rfl⟩
  obtain ⟨q, hq⟩ : ∃ q, q = w1.heap.size := ⟨_, rfl⟩
  have b2 : Below w.heap.size w w2 := by rw [hw2]; exact b1.alloc b1.size _
  have kq : Blk w2 q 105 #[Value.int IntKind.u64 ↑g, Value.int IntKind.i64 ↑a, Value.int IntKind.i64 ↑l] := by rw [hw2, hq]; exact Blk.new w1 _ _
  rw [← hw2, ← hq]
  have e0 : w2.cell? ⟨q, 0, none⟩ = some (.int .u64 g) := (kq.cell 0).trans rfl
  have e1 : w2.cell? ⟨q, 1, none⟩ = some (.int .i64 a) := (kq.cell 1).trans rfl
  have e2 : w2.cell? ⟨q, 2, none⟩ = some (.int .i64 l) := (kq.cell 2).trans rfl
  have HB2 := hide b2
  have HKQ := hide kq
  clear hw2 hq b2 kq b1 HNW
  go_upto_region 5 with fail
  obtain ⟨w3, hw3⟩ : ∃ w3, w3 = w2.alloc (Obj.cells (xcells x (.slice none 0 0) (JSt.new g a l) 0 0 0) 107) := ⟨_, rfl⟩
  have hw3' : w3 = w2.alloc (Obj.cells #[.pointer (some ⟨x, 0, none⟩), .int .u64 (g : Int), .int .i64 (a : Int), .int .i64 (l : Int), .slice none 0 0, .int .i64 0, .int .i64 0, .int .i64 0, .int .i64 0, .int .i64 0, .int .i64 0] 107) := hw3
  obtain ⟨y, hy⟩ : ∃ y, y = w2.heap.size := ⟨_, rfl⟩
  have b3 : Below w2.heap.size w2 w3 := by rw [hw3]; exact (Below.refl _ _).alloc (Nat.le_refl _) _
  have ky : Blk w3 y 107 (xcells x (.slice none 0 0) (JSt.new g a l) 0 0 0) := by rw [hw3, hy]; exact Blk.new w2 _ _
  rw [← hw3', ← hy]
  have HB3 := hide (HB2.out.trans (b3.mono HB2.out.size))
  have HR3 := hide (XRun.mk (HX.out.below HB3.out (Nat.le_refl _)) ⟨ky, World.ownsRow_nil _ _ _ _, fun h => absurd rfl h, by have := HB2.out.size; omega, by omega⟩ HJK.out HC.out HCN.out)
  have kq3 := HKQ.out.below b3 HKQ.out.lt
  have e1 : w3.drew.cell? ⟨q, 1, none⟩ = some (.int .i64 a) := (kq3.drew.cell 1).trans rfl
  have e2 : w3.drew.cell? ⟨q, 2, none⟩ = some (.int .i64 l) := (kq3.drew.cell 2).trans rfl
  clear hw3 hw3' hy b3 ky kq3 HKQ
  have HFI := hide (HR3.out.drew.firstE a ha1)
  have HCO := hide HR3.out.drew.countE
  have HGE := hide (rget_ok w3.drew base x lv av tv D HR3.out.drew.hx (2 + a * c) c 0 l (by omega) (by have := H2.out; have : a * c ≤ 1 * c := Nat.mul_le_mul_right c ha1; omega) hc1 (by omega) ((2 + a * c : Nat) : Int) (c : Int) 0 (l : Int) rfl rfl rfl rfl)
  obtain ⟨fi, hfi⟩ : ∃ fi : Int, fi = ((2 + a * c : Nat) : Int) := ⟨_, rfl⟩
  rw [← hfi] at HFI HGE
  obtain ⟨sg, hsg⟩ : ∃ sg, sg = strv (D.seg ((2 + a * c) * 128 + 0) l) := ⟨_, rfl⟩
  rw [← hsg] at HGE
  have HSG := hide hsg
  clear hsg hfi
  go_wp2_with fail
  refine wp_region_held 15 (fun w' => w' = w3.drew) (fun i => i == 4 || i == 6 || i == 9) (by kernel_rfl) (by kernel_rfl) rfl (fun ops hops F hF => ?_)
  clear hops
  simp only [List.take_succ_cons, List.take_zero, List.drop_succ_cons, List.drop_zero] at hF ⊢
  iterate 4 (refine held_q rfl rfl ?_; apply Exists.intro; refine ⟨fun w' hw' => ?_, ?_⟩; (obtain rfl := hw'; go_simp; rfl); simp only [Act.put, List.setIfInBounds_toArray, List.set_cons_zero, List.set_cons_succ, Nat.reduceAdd])
  refine held_loud rfl rfl (fun K hK => ?_)
  go_simp
  refine HFI.out.mono ?_
  rintro e w' ⟨rfl, hw'⟩
  rw [← hw']
  refine hK _ _ rfl ?_
  clear hK K hw' w'
  simp only [Act.put, List.setIfInBounds_toArray, List.set_cons_zero, List.set_cons_succ, Nat.reduceAdd]
  iterate 1 (refine held_q rfl rfl ?_; apply Exists.intro; refine ⟨fun w' hw' => ?_, ?_⟩; (obtain rfl := hw'; go_simp; rfl); simp only [Act.put, List.setIfInBounds_toArray, List.set_cons_zero, List.set_cons_succ, Nat.reduceAdd])
  refine held_loud rfl rfl (fun K hK => ?_)
  go_simp
  refine HCO.out.mono ?_
  rintro e w' ⟨rfl, hw'⟩
  rw [← hw']
  refine hK _ _ rfl ?_
  clear hK K hw' w'
  simp only [Act.put, List.setIfInBounds_toArray, List.set_cons_zero, List.set_cons_succ, Nat.reduceAdd]
  iterate 2 (refine held_q rfl rfl ?_; apply Exists.intro; refine ⟨fun w' hw' => ?_, ?_⟩; (obtain rfl := hw'; go_simp; rfl); simp only [Act.put, List.setIfInBounds_toArray, List.set_cons_zero, List.set_cons_succ, Nat.reduceAdd])
  refine held_loud rfl rfl (fun K hK => ?_)
  go_simp
  refine HGE.out.mono ?_
  rintro e w' ⟨rfl, hw'⟩
  rw [hw']
  refine hK _ _ rfl ?_
  clear hK K hw' w'
  simp only [Act.put, List.setIfInBounds_toArray, List.set_cons_zero, List.set_cons_succ, Nat.reduceAdd]
  iterate 5 (refine held_q rfl rfl ?_; apply Exists.intro; refine ⟨fun w' hw' => ?_, ?_⟩; (obtain rfl := hw'; go_simp; rfl); simp only [Act.put, List.setIfInBounds_toArray, List.set_cons_zero, List.set_cons_succ, Nat.reduceAdd])
  refine held_nil (hF _ _ ?_)
  clear hF F e1 e2 HFI HCO HGE
  have hseg : D.seg ((2 + a * c) * 128 + 0) l = encL R := HF.out.seg
  have hel : (encL R).length = l := by rw [← hseg, seg_length]
  have hre := recsOf_enc R HF.out.rec_
  have hrs := xrecords_ok (encL R) (by rw [hel]; omega) (by rw [hre]) w3.drew
  rw [hre] at hrs
  have hsg : sg = .string (bs (encL R)) := by rw [HSG.out, hseg]; rfl
  rw [← hsg] at hrs
  have HRS := hide hrs
  clear hsg hrs hre hel hseg
  go_wp2_with fail
  refine HRS.out.mono ?_
  rintro e w5 ⟨v, rows, rfl, hrow, hin, b5⟩
  have HIN := hide hin
  have HB5 := hide b5
  clear hin b5
  go_wp2
  go_ret3
  have bd : Below w.heap.size w w3.drew := HB3.out.drew
  have b' := bd.trans (HB5.out.mono bd.size)
  have h3d : XRun w3.drew base x y c lv av tv (.slice none 0 0) D (JSt.new g a l) 0 0 0 := HR3.out.drew
  exact ⟨y, v, rows, rfl, h3d.below HB5.out, hrow, ⟨own_base HIN.out.own bd.size, HIN.out.each⟩, b'⟩
end Go.Proofs.Ytnnhklembdaieaa
namespace Go.Proofs.Ytnnhklembdaieaa
open Go.RowKit
set_option linter.unusedSimpArgs false
set_option linter.unusedVariables false
attribute [local go_sem] Oper.semAt_some

def sv (g a l : Nat) : Value := .agg #[.int .u64 (g : Int), .int .i64 (a : Int), .int .i64 (l : Int)]
theorem jsuper_ok {w : World} {base j d c : Nat} {nv : Value} {J : JSt} (h : JAt w base j d c nv J) : Calls Try.prog 64 #[.pointer (some ⟨j, 0, none⟩)] w fun e w' => e = .returned (sv J.gen J.area J.len) ∧ Below w.heap.size w w' := by
  obtain ⟨w1, hw1⟩ : ∃ w1, w1 = w.alloc (.cells #[.int .u64 0, .int .i64 0, .int .i64 0] 115) := ⟨_, rfl⟩
  have b1 : Below w.heap.size w w1 := by rw [hw1]; exact (Below.refl _ _).alloc (Nat.le_refl _) _
  have h1 := h.below b1 (Nat.le_refl _)
  have kq : Blk w1 w.heap.size 115 #[.int .u64 0, .int .i64 0, .int .i64 0] := by rw [hw1]; exact Blk.new w _ _
  obtain ⟨q, hq⟩ : ∃ q, q = w.heap.size := ⟨_, rfl⟩
  have c0 : w1.cell? ⟨j, 0, none⟩ = some (.pointer (some ⟨d, 0, none⟩)) := (h1.hj.cell 0).trans rfl
  have c5 : w1.cell? ⟨j, 5, none⟩ = some (.int .u64 (J.gen : Int)) := (h1.hj.cell 5).trans rfl
  have c6 : w1.cell? ⟨j, 6, none⟩ = some (.int .i64 (J.area : Int)) := (h1.hj.cell 6).trans rfl
  have c7 : w1.cell? ⟨j, 7, none⟩ = some (.int .i64 (J.len : Int)) := (h1.hj.cell 7).trans rfl
  rw [← hq] at kq b1
  have q0 := kq.cell 0
  have q1 := kq.cell 1
  have q2 := kq.cell 2
  simp at q0 q1 q2
  go_enter Try.func64, Try.ntmps64
  go_upto_region 1 with fail
  rw [← hw1, ← hq]
  have HQ := hide hq
  clear hw1 hq
  have z0 := kq.frozen 0
  have z1 := kq.frozen 1
  have z2 := kq.frozen 2
  go_wp2_with (go_at_call 90; refine (jmade_ok j d _ c0).mono ?_; rintro e w' ⟨rfl, rfl⟩)
  have b2 : Below q w (((w1.setCell { block := q, off := 0 } (Value.int IntKind.u64 ↑J.gen)).setCell { block := q, off := 1 } (Value.int IntKind.i64 ↑J.area)).setCell { block := q, off := 2 } (Value.int IntKind.i64 ↑J.len)) := ((b1.setCell (Nat.le_refl _) _).setCell (Nat.le_refl _) _).setCell (Nat.le_refl _) _
  have k2 := ((kq.set_ 0 (Value.int IntKind.u64 ↑J.gen)).set_ 1 (Value.int IntKind.i64 ↑J.area)).set_ 2 (Value.int IntKind.i64 ↑J.len)
  obtain ⟨w2, hw2⟩ : ∃ w2, w2 = (((w1.setCell { block := q, off := 0 } (Value.int IntKind.u64 ↑J.gen)).setCell { block := q, off := 1 } (Value.int IntKind.i64 ↑J.area)).setCell { block := q, off := 2 } (Value.int IntKind.i64 ↑J.len)) := ⟨_, rfl⟩
  rw [← hw2] at b2 k2 ⊢
  have e0 := k2.cell 0
  have e1 := k2.cell 1
  have e2 := k2.cell 2
  simp at e0 e1 e2
  refine bodyPost_ret (v := sv J.gen J.area J.len) (by simp [results, Try.results64, go_sem, e0, e1, e2, sv]) rfl ⟨rfl, by rw [← HQ.out]; exact b2⟩
theorem jsuper_nil (w : World) : Calls Try.prog 64 #[.pointer none] w fun e w' => e = .returned (sv 0 0 0) ∧ Below w.heap.size w w' := by
  obtain ⟨w1, hw1⟩ : ∃ w1, w1 = w.alloc (.cells #[.int .u64 0, .int .i64 0, .int .i64 0] 115) := ⟨_, rfl⟩
  have b1 : Below w.heap.size w w1 := by rw [hw1]; exact (Below.refl _ _).alloc (Nat.le_refl _) _
  have kq : Blk w1 w.heap.size 115 #[.int .u64 0, .int .i64 0, .int .i64 0] := by rw [hw1]; exact Blk.new w _ _
  obtain ⟨q, hq⟩ : ∃ q, q = w.heap.size := ⟨_, rfl⟩
  rw [← hq] at kq b1
  have q0 := kq.cell 0
  have q1 := kq.cell 1
  have q2 := kq.cell 2
  simp at q0 q1 q2
  go_enter Try.func64, Try.ntmps64
  go_upto_region 1 with fail
  rw [← hw1, ← hq]
  have HQ := hide hq
  clear hw1 hq
  have z0 := kq.frozen 0
  have z1 := kq.frozen 1
  have z2 := kq.frozen 2
  go_wp2_with (go_at_call 90; refine (jmade_nil _).mono ?_; rintro e w' ⟨rfl, rfl⟩)
  have b2 : Below q w (((w1.setCell { block := q, off := 0 } (Value.int IntKind.u64 0)).setCell { block := q, off := 1 } (Value.int IntKind.i64 0)).setCell { block := q, off := 2 } (Value.int IntKind.i64 0)) := ((b1.setCell (Nat.le_refl _) _).setCell (Nat.le_refl _) _).setCell (Nat.le_refl _) _
  have k2 := ((kq.set_ 0 (Value.int IntKind.u64 0)).set_ 1 (Value.int IntKind.i64 0)).set_ 2 (Value.int IntKind.i64 0)
  obtain ⟨w2, hw2⟩ : ∃ w2, w2 = (((w1.setCell { block := q, off := 0 } (Value.int IntKind.u64 0)).setCell { block := q, off := 1 } (Value.int IntKind.i64 0)).setCell { block := q, off := 2 } (Value.int IntKind.i64 0)) := ⟨_, rfl⟩
  rw [← hw2] at b2 k2 ⊢
  have e0 := k2.cell 0
  have e1 := k2.cell 1
  have e2 := k2.cell 2
  simp at e0 e1 e2
  refine bodyPost_ret (v := sv 0 0 0) (by simp [results, Try.results64, go_sem, e0, e1, e2, sv]) rfl ⟨rfl, by rw [← HQ.out]; exact b2⟩
set_option maxRecDepth 100000 in
set_option maxHeartbeats 3200000 in
theorem tells_ok {w : World} {base j d c : Nat} {nv : Value} {J : JSt} (h : JAt w base j d c nv J) {y x hf lg su : Nat} {nx : Value} (hy : XAt w base y x nx J hf lg su) :
    Calls Try.prog 61 #[.pointer (some ⟨j, 0, none⟩), .pointer (some ⟨y, 0, none⟩)] w fun e w' => e = .returned (.bool true) ∧ Below w.heap.size w w' := by
  have HS := hide (jsuper_ok h)
  have HJ := hide h
  have HY := hide hy
  unfold sv at HS
  clear h hy
  go_enter Try.func61, Try.ntmps61
  go_wp2_with fail
  refine HS.out.mono ?_
  rintro e w1 ⟨rfl, b1⟩
  go_upto_region 2 with fail
  obtain ⟨w2, hw2⟩ : ∃ w2, w2 = w1.alloc (.cells #[.int .u64 (J.gen : Int), .int .i64 (J.area : Int), .int .i64 (J.len : Int)] 115) := ⟨_, rfl⟩
  obtain ⟨q, hq⟩ : ∃ q, q = w1.heap.size := ⟨_, rfl⟩
  have b2 : Below w.heap.size w w2 := by rw [hw2]; exact b1.alloc b1.size _
  have kq : Blk w2 q 115 #[.int .u64 (J.gen : Int), .int .i64 (J.area : Int), .int .i64 (J.len : Int)] := by rw [hw2, hq]; exact Blk.new w1 _ _
  rw [← hw2, ← hq]
  have q0 := kq.cell 0
  have q1 := kq.cell 1
  have q2 := kq.cell 2
  simp at q0 q1 q2
  have hj := HJ.out.below b2 (Nat.le_refl _)
  have hy := HY.out.below b2 (Nat.le_refl _)
  have y1 : w2.cell? ⟨y, 1, none⟩ = some (.int .u64 (J.gen : Int)) := (hy.hy.cell 1).trans rfl
  have y2 : w2.cell? ⟨y, 2, none⟩ = some (.int .i64 (J.area : Int)) := (hy.hy.cell 2).trans rfl
  have y3 : w2.cell? ⟨y, 3, none⟩ = some (.int .i64 (J.len : Int)) := (hy.hy.cell 3).trans rfl
  have y8 : w2.cell? ⟨y, 8, none⟩ = some (.int .i64 (J.stage : Int)) := (hy.hy.cell 8).trans rfl
  have y9 : w2.cell? ⟨y, 9, none⟩ = some (.int .i64 (J.all : Int)) := (hy.hy.cell 9).trans rfl
  have y10 : w2.cell? ⟨y, 10, none⟩ = some (.int .i64 (J.done : Int)) := (hy.hy.cell 10).trans rfl
  have hd : ∀ k, Below w2.heap.size w2 (w2.drewN k) := fun k => ((Fr.refl nob w2).drewN k).belowThis (fun _ h => h)
  have H1 := hide (fun k => (jall_ok (hj.below (hd k) (Nat.le_refl _))))
  have H2 := hide (fun k => (jdone_ok (hj.below (hd k) (Nat.le_refl _))))
  have H3 := hide (fun k => (jstage_ok (hj.below (hd k) (Nat.le_refl _))))
  have HB := hide b2
  clear hw2 hq b2 kq hj hy hd b1
  go_wp2_with fail
  go_quiet (first | (go_at_call 52; exact quiet_left (H1.out _)) | (go_at_call 51; exact quiet_left (H2.out _)) | (go_at_call 53; exact quiet_left (H3.out _)))
  go_wp2
  go_ret
  exact ⟨rfl, HB.out.trans ((((Fr.refl nob w2).drewN _).belowThis (fun _ h => h)).mono HB.out.size)⟩
end Go.Proofs.Ytnnhklembdaieaa
namespace Go.Proofs.Ytnnhklembdaieaa
open Go.RowKit
set_option linter.unusedSimpArgs false
set_option linter.unusedVariables false
attribute [local go_sem] Oper.semAt_some

theorem jappend_nil (w : World) (v : Value) : Calls Try.prog 48 #[.pointer none, v] w fun e w' => e = .returned (.tuple #[.int .i64 0, .int .i64 6]) ∧ w = w' := by
  go_enter Try.func48, Try.ntmps48
  go_wp2_with (go_at_call 90; refine (jmade_nil _).mono ?_; rintro e w' ⟨rfl, rfl⟩)
  go_ret2
  exact ⟨rfl, rfl⟩
theorem jstep_zero (w : World) (z : Nat) (hc : w.cell? ⟨z, 0, none⟩ = some (.pointer none)) : Calls Try.prog 49 #[.pointer (some ⟨z, 0, none⟩)] w fun e w' => e = .returned (.tuple #[.int .i64 0, .int .i64 6]) ∧ w = w' := by
  go_enter Try.func49, Try.ntmps49
  go_wp2_with (go_at_call 90; refine (jmade_zero z _ hc).mono ?_; rintro e w' ⟨rfl, rfl⟩)
  go_ret2
  exact ⟨rfl, rfl⟩
theorem janew_nil (w : World) (v : Value) : Calls Try.prog 50 #[.pointer none, v] w fun e w' => e = .returned (.int .i64 6) ∧ w = w' := by
  go_enter Try.func50, Try.ntmps50
  go_wp2_with (go_at_call 90; refine (jmade_nil _).mono ?_; rintro e w' ⟨rfl, rfl⟩)
  go_ret
  exact ⟨rfl, rfl⟩
theorem janew_zero (w : World) (z : Nat) (hc : w.cell? ⟨z, 0, none⟩ = some (.pointer none)) (v : Value) : Calls Try.prog 50 #[.pointer (some ⟨z, 0, none⟩), v] w fun e w' => e = .returned (.int .i64 6) ∧ w = w' := by
  go_enter Try.func50, Try.ntmps50
  go_wp2_with (go_at_call 90; refine (jmade_zero z _ hc).mono ?_; rintro e w' ⟨rfl, rfl⟩)
  go_ret
  exact ⟨rfl, rfl⟩
theorem jdone_nil (w : World) : Calls Try.prog 51 #[.pointer none] w fun e w' => e = .returned (.int .i64 0) ∧ w = w' := by
  go_enter Try.func51, Try.ntmps51
  go_wp2_with (go_at_call 90; refine (jmade_nil _).mono ?_; rintro e w' ⟨rfl, rfl⟩)
  go_ret
  exact ⟨rfl, rfl⟩
theorem jall_zero (w : World) (z : Nat) (hc : w.cell? ⟨z, 0, none⟩ = some (.pointer none)) : Calls Try.prog 52 #[.pointer (some ⟨z, 0, none⟩)] w fun e w' => e = .returned (.int .i64 0) ∧ w = w' := by
  go_enter Try.func52, Try.ntmps52
  go_wp2_with (go_at_call 90; refine (jmade_zero z _ hc).mono ?_; rintro e w' ⟨rfl, rfl⟩)
  go_ret
  exact ⟨rfl, rfl⟩
theorem jstage_nil (w : World) : Calls Try.prog 53 #[.pointer none] w fun e w' => e = .returned (.int .i64 0) ∧ w = w' := by
  go_enter Try.func53, Try.ntmps53
  go_wp2_with (go_at_call 90; refine (jmade_nil _).mono ?_; rintro e w' ⟨rfl, rfl⟩)
  go_ret
  exact ⟨rfl, rfl⟩
theorem jfits_nil (w : World) : Calls Try.prog 62 #[.pointer none, .int .i64 1] w fun e w' => e = .returned (.bool false) ∧ w = w' := by
  go_enter Try.func62, Try.ntmps62
  go_wp2_with (go_at_call 90; refine (jmade_nil _).mono ?_; rintro e w' ⟨rfl, rfl⟩)
  go_ret
  exact ⟨rfl, rfl⟩
theorem jfits_zero (w : World) (z : Nat) (hc : w.cell? ⟨z, 0, none⟩ = some (.pointer none)) : Calls Try.prog 62 #[.pointer (some ⟨z, 0, none⟩), .int .i64 1] w fun e w' => e = .returned (.bool false) ∧ w = w' := by
  go_enter Try.func62, Try.ntmps62
  go_wp2_with (go_at_call 90; refine (jmade_zero z _ hc).mono ?_; rintro e w' ⟨rfl, rfl⟩)
  go_ret
  exact ⟨rfl, rfl⟩
end Go.Proofs.Ytnnhklembdaieaa
namespace Go.Proofs.Ytnnhklembdaieaa
open Go.RowKit
set_option linter.unusedSimpArgs false
set_option linter.unusedVariables false

theorem Left.refl {w : World} {base d bl j c : Nat} {wv nv : Value} {D : DSt} {J : JSt} (h : DJ w base d bl j c wv nv D J) : Left w w base d bl j c wv nv D J :=
  ⟨wv, nv, h.hD, h.hJ, Fr.refl _ _, Later.refl _ _, Later.refl _ _⟩
theorem jstep_all {w : World} {base d bl j c : Nat} {wv nv : Value} {D : DSt} {J : JSt} (h : DJ w base d bl j c wv nv D J) :
    Calls Try.prog 49 #[.pointer (some ⟨j, 0, none⟩)] w fun e w' => e = .returned (.tuple #[.int .i64 ((jstep c D J).2.1.stage : Int), .int .i64 ((jstep c D J).2.2 : Int)]) ∧ Left w w' base d bl j c wv nv (jstep c D J).1 (jstep c D J).2.1 := by
  have hst := h.ok.st
  by_cases h0 : J.stage = 0
  · by_cases hn : J.next.length = 0
    · have he : jstep c D J = (D, J, 4) := by unfold jstep; rw [if_pos h0, if_pos hn]
      rw [he]
      refine (jstep_none h h0 hn).mono ?_
      rintro e w' ⟨rfl, rfl⟩
      exact ⟨by show _ = Ending.returned (.tuple #[.int .i64 (J.stage : Int), .int .i64 4]); rw [h0]; rfl, Left.refl h⟩
    · have he : jstep c D J = (D.put ((2 + J.area * c) * 128 + J.len) J.next, J.begun J.area J.len J.next.length, 0) := by unfold jstep; rw [if_pos h0, if_neg hn]
      rw [he]
      exact jstep_begin h h0 hn
  · by_cases h1 : J.stage = 1
    · have he : jstep c D J = (D.sync, { J with stage := 2 }, 0) := by unfold jstep; rw [if_neg h0, if_pos h1]
      rw [he]
      exact jstep_sync h h1
    · by_cases h2 : J.stage = 2
      · have he : jstep c D J = (D.write ((J.gen + 1) % 2) (superBytes J.nexts), { J with stage := 3 }, 0) := by unfold jstep; rw [if_neg h0, if_neg h1, if_pos h2]
        rw [he]
        exact jstep_said h h2
      · have he : jstep c D J = (D.sync, J.sured, 0) := by unfold jstep; rw [if_neg h0, if_neg h1, if_neg h2]
        rw [he]
        exact jstep_sure h (by omega)
/-- blocks of a type that a journal has not. -/
def Kp (w w' : World) : Prop := ∀ q cs, Blk w q 91 cs → Blk w' q 91 cs
theorem Kp.refl (w : World) : Kp w w := fun _ _ h => h
theorem Kp.trans {w w' w1 : World} (h : Kp w w') (h' : Kp w' w1) : Kp w w1 := fun q cs hq => h' q cs (h q cs hq)
theorem Kp.ofBelow {w w' : World} (h : Below w.heap.size w w') : Kp w w' := fun q cs hq => hq.below h hq.lt
/-- the journal with (D, J), the document's with (D2, J2). -/
structure Pair (w0 w : World) (d bl j x y c k : Nat) (wv nv lv av tv nx : Value) (D : DSt) (J : JSt) (D2 : DSt) (J2 : JSt) (hf lg su : Nat) (Rs Rp Rn A : List (List UInt8)) : Prop where
  run : JRun w0 w d bl j c k wv nv D J Rs Rp Rn A
  xr : XRun w w0.heap.size x y c lv av tv nx D2 J2 hf lg su
  dis : ∀ q, nx.ownBlock = some q → nv.ownBlock ≠ some q
def PairE (w0 w : World) (d j x y c k : Nat) (D : DSt) (J : JSt) (D2 : DSt) (J2 : JSt) : Prop :=
  ∃ bl wv nv lv av tv nx hf lg su Rs Rp Rn A, Pair w0 w d bl j x y c k wv nv lv av tv nx D J D2 J2 hf lg su Rs Rp Rn A
section
variable {w0 w w' : World} {d bl j x y c k : Nat} {wv nv lv av tv nx : Value} {D D' D2 : DSt} {J J' J2 : JSt} {hf lg su : Nat} {Rs Rp Rn A : List (List UInt8)}
theorem Pair.below (h : Pair w0 w d bl j x y c k wv nv lv av tv nx D J D2 J2 hf lg su Rs Rp Rn A) (hb : Below w.heap.size w w') : Pair w0 w' d bl j x y c k wv nv lv av tv nx D J D2 J2 hf lg su Rs Rp Rn A :=
  ⟨h.run.below hb, h.xr.below hb, h.dis⟩
/-- the document's blocks are none of the journal's. -/
theorem Pair.offX (h : Pair w0 w d bl j x y c k wv nv lv av tv nx D J D2 J2 hf lg su Rs Rp Rn A) : ∀ q, xfoot y nx q → ¬ djfoot d bl j wv nv q := by
  rintro q (rfl | hq)
  · rintro (hd | hd)
    · exact h.run.dj.hD.off h.xr.hy.hy (by decide) (by decide) (.inl (by decide)) hd
    · exact h.run.dj.hJ.off h.xr.hy.hy (by decide) (by decide) hd
  · obtain ⟨cs, hcs⟩ := own_blk h.xr.hy.hn hq
    rintro (hd | hd | hd)
    · exact h.run.dj.hD.off hcs (by decide) (by decide) (.inl (by decide)) hd
    · exact Blk.ne_ hcs h.run.dj.hJ.hj (by decide) hd
    · exact h.dis q hq hd
theorem Pair.offR (h : Pair w0 w d bl j x y c k wv nv lv av tv nx D J D2 J2 hf lg su Rs Rp Rn A) : ∀ q, rfoot x lv av tv q → ¬ djfoot d bl j wv nv q := by
  intro q hr hd
  rcases hd with hd | hd
  · rcases hd with rfl | rfl | hd
    · exact h.xr.hx.off h.run.dj.hD.hd (by decide) (by decide) (by decide) hr
    · exact h.xr.hx.off h.run.dj.hD.hl (by decide) (by decide) (by decide) hr
    · obtain ⟨cs, hcs⟩ := own_blk h.run.dj.hD.hw hd
      exact h.xr.hx.off hcs (by decide) (by decide) (by decide) hr
  · rcases hd with rfl | hd
    · exact h.xr.hx.off h.run.dj.hJ.hj (by decide) (by decide) (by decide) hr
    · obtain ⟨cs, hcs⟩ := own_blk h.run.dj.hJ.hn hd
      exact h.xr.hx.off hcs (by decide) (by decide) (by decide) hr
theorem XRun.fr {base : Nat} {S : Nat → Prop} (h : XRun w base x y c lv av tv nx D J hf lg su) (hf' : Fr S w w') (h1 : ∀ q, xfoot y nx q → ¬ S q) (h2 : ∀ q, rfoot x lv av tv q → ¬ S q) : XRun w' base x y c lv av tv nx D J hf lg su :=
  ⟨h.hx.fr hf' h2, h.hy.fr hf' h1, h.ok, h.hc, h.cnt⟩
theorem JAll.xcnt (h : JAll c k D J Rs Rp Rn A) (hk : k ≤ 800) : D.waits.length ≤ 490000000 ∧ D.writes ≤ 490000000000 ∧ D.syncs < 490000000000 := by
  have := h.bud.w; have := h.bud.r; have := h.bud.s
  omega
theorem kp_dj (h : Pair w0 w d bl j x y c k wv nv lv av tv nx D J D2 J2 hf lg su Rs Rp Rn A) (hf' : Fr (djfoot d bl j wv nv) w w') : Kp w w' := fun q cs hq =>
  hq.fr hf' (fun hd => by
    rcases hd with hd | hd
    · exact h.run.dj.hD.off hq (by decide) (by decide) (.inl (by decide)) hd
    · exact h.run.dj.hJ.off hq (by decide) (by decide) hd)
theorem kp_x (h : Pair w0 w d bl j x y c k wv nv lv av tv nx D J D2 J2 hf lg su Rs Rp Rn A) (hf' : TFr w0.heap.size (xfoot y nx) w w') : Kp w w' := fun q cs hq =>
  hf'.blk hq (h.xr.hy.off hq (by decide) (by decide)) (by decide) (by decide) (by decide)
/-- the journal's call. -/
theorem Pair.left (h : Pair w0 w d bl j x y c k wv nv lv av tv nx D J D2 J2 hf lg su Rs Rp Rn A) {Rs' Rp' Rn' A' : List (List UInt8)} {k' : Nat} (hl : Left w w' w0.heap.size d bl j c wv nv D' J') (ha : JAll c k' D' J' Rs' Rp' Rn' A') (hk : k' ≤ 800) (hdl : D'.l.length = D.l.length) :
    PairE w0 w' d j x y c k' D' J' D2 J2 ∧ Kp w w' := by
  obtain ⟨wv', nv', hD, hJ, hf', l1, l2⟩ := hl
  refine ⟨⟨bl, wv', nv', lv, av, tv, nx, hf, lg, su, Rs', Rp', Rn', A', ⟨DJ.ofLeft h.run.dj hD hJ ha.inv.jk hdl (ha.cnt hk), ha, h.run.low_fr hf', by rw [hdl]; exact h.run.hc⟩, h.xr.fr hf' h.offX h.offR, fun q hq hv => ?_⟩, kp_dj h hf'⟩
  rcases l2 q hv with h1 | h1
  · exact h.dis q hq h1
  · have := (h.xr.hy.low q (.inr hq)).2; omega
/-- the document's call. -/
theorem Pair.right (h : Pair w0 w d bl j x y c k wv nv lv av tv nx D J D2 J2 hf lg su Rs Rp Rn A) (hk : k ≤ 800) (hl : XLeft w w' w0.heap.size x y lv nx D J) (hdl : D.l.length = D2.l.length) :
    PairE w0 w' d j x y c k D J D J ∧ Kp w w' := by
  obtain ⟨av', tv', nx', hf', lg', su', hX, hY, ft, l1⟩ := hl
  have hc := h.run.ja.xcnt hk
  have hD := h.run.dj.hD.tfr ft (fun q hq hx => h.offX q hx (.inl hq))
  have hJ := h.run.dj.hJ.tfr ft (fun q hq hx => h.offX q hx (.inr hq))
  refine ⟨⟨bl, wv, nv, lv, av', tv', nx', hf', lg', su', Rs, Rp, Rn, A, ⟨⟨hD, hJ, h.run.dj.ok, h.run.dj.dl, h.run.dj.cnt⟩, h.run.ja, h.run.low.trans (ft.below h.run.low.size (fun q hq => (h.xr.hy.low q hq).1)), h.run.hc⟩, ⟨hX, hY, h.run.dj.ok, h.run.hc, ⟨hc.1, hc.2.1, by omega⟩⟩, fun q hq hv => ?_⟩, kp_x h ft⟩
  rcases l1 q hq with h1 | h1
  · exact h.dis q h1 hv
  · have := (h.run.dj.hJ.low q (.inr hv)).2; omega
end
end Go.Proofs.Ytnnhklembdaieaa
namespace Go.Proofs.Ytnnhklembdaieaa
open Go.RowKit
set_option linter.unusedSimpArgs false
set_option linter.unusedVariables false

section
variable {w0 w w' : World} {d bl j x y c k : Nat} {wv nv lv av tv nx : Value} {D D' D2 : DSt} {J J' J2 : JSt} {hf lg su : Nat} {Rs Rp Rn A : List (List UInt8)}
theorem JAll.more {k' : Nat} (h : JAll c k D J Rs Rp Rn A) (hk : k ≤ k') (hk' : k' ≤ 1000) : JAll c k' D J Rs Rp Rn A := ⟨h.inv, h.cont, h.bud.more hk, hk'⟩
theorem japp_all (h : JAll c k D J Rs Rp Rn A) (hk : k < 800) (r : List UInt8) : ∃ Rs' Rp' Rn' A', JAll c (k + 1) D (japp c J r).1 Rs' Rp' Rn' A' := by
  by_cases h1 : isRec r.length = true
  · by_cases h2 : jfits c J (r.length : Int) = true
    · have he : japp c J r = (J.app r, J.all + 1, 0) := by unfold japp; rw [if_pos h1, if_pos h2]
      rw [he]
      exact ⟨_, _, _, _, (h.app (by omega) r h1 h2).1⟩
    · have he : japp c J r = (J, 0, 5) := by unfold japp; rw [if_pos h1, if_neg h2]
      rw [he]
      exact ⟨_, _, _, _, h.more (by omega) (by omega)⟩
  · have he : japp c J r = (J, 0, 1) := by unfold japp; rw [if_neg h1]
    rw [he]
    exact ⟨_, _, _, _, h.more (by omega) (by omega)⟩
theorem jstep_jall (h : JAll c k D J Rs Rp Rn A) (hk : k < 800) : (jstep c D J).1.l.length = D.l.length ∧ ∃ Rs' Rp' Rn' A', JAll c (k + 1) (jstep c D J).1 (jstep c D J).2.1 Rs' Rp' Rn' A' := by
  by_cases hm : J.stage = 0 ∧ J.next.length = 0
  · rw [h.none_ hm]
    exact ⟨rfl, _, _, _, _, h.more (by omega) (by omega)⟩
  · obtain ⟨s1, s2, s3, Rs', Rp', Rn', sa, -⟩ := h.step (by omega) hm
    exact ⟨s3, _, _, _, _, sa⟩
theorem janew_jall (h : JAll c k D J Rs Rp Rn A) (hk : k < 800) (X : List (List UInt8)) : (janew c D J X).1.l.length = D.l.length ∧ ∃ Rs' Rp' Rn' A', JAll c (k + 1) (janew c D J X).1 (janew c D J X).2.1 Rs' Rp' Rn' A' := by
  by_cases h1 : allRec X
  · have hall : X.all (fun r => isRec r.length) = true := List.all_eq_true.2 h1
    by_cases h2 : (encL X).length ≤ c * 128
    · obtain ⟨s1, s2, Rs', sa, -⟩ := h.anew (by omega) X h1 h2
      exact ⟨s2, _, _, _, _, sa⟩
    · have he : janew c D J X = (D, J, 5) := by unfold janew; rw [if_pos hall, if_neg h2]
      rw [he]
      exact ⟨rfl, _, _, _, _, h.more (by omega) (by omega)⟩
  · have he : janew c D J X = (D, J, 1) := by
      unfold janew
      rw [if_neg (fun hall => h1 (fun r hr => List.all_eq_true.1 hall r hr))]
    rw [he]
    exact ⟨rfl, _, _, _, _, h.more (by omega) (by omega)⟩
theorem pair_append_j (h : PairE w0 w d j x y c k D J D J) (hk : k < 800) (B : Option Addr) (n cp : Nat) (r : List UInt8) (hr : SlAt w0 B n (bvs r)) (hn : n ≤ 9223372036854775807) :
    Calls Try.prog 48 #[.pointer (some ⟨j, 0, none⟩), .slice B n cp] w fun e w' => e = .returned (.tuple #[.int .i64 ((japp c J r).2.1 : Int), .int .i64 ((japp c J r).2.2 : Int)]) ∧ PairE w0 w' d j x y c (k + 1) D (japp c J r).1 D J ∧ Kp w w' := by
  obtain ⟨bl, wv, nv, lv, av, tv, nx, hf, lg, su, Rs, Rp, Rn, A, h⟩ := h
  refine (jappend_ok h.run.dj.hJ h.run.dj.ok B n cp r (hr.below h.run.low (Nat.le_refl _)) hn).mono ?_
  rintro e w' ⟨nv', rfl, hJ, hf', hl⟩
  obtain ⟨Rs', Rp', Rn', A', ha⟩ := japp_all h.run.ja hk r
  exact ⟨rfl, h.left ⟨wv, nv', h.run.dj.hD.fr hf' (fun q hq => dj_off h.run.dj.hD h.run.dj.hJ q hq), hJ, hf'.mono (fun q hq => .inr hq), Later.refl _ _, hl⟩ ha (by omega) rfl⟩
theorem pair_append_x (r : List UInt8) (h : PairE w0 w d j x y c k D (japp c J r).1 D J) (hk : k ≤ 800) (B : Option Addr) (n cp : Nat) (hr : SlAt w0 B n (bvs r)) (hn : n ≤ 9223372036854775807) :
    Calls Try.prog 57 #[.pointer (some ⟨y, 0, none⟩), .slice B n cp] w fun e w' => e = .returned (.tuple #[.int .i64 ((japp c J r).2.1 : Int), .int .i64 ((japp c J r).2.2 : Int)]) ∧ PairE w0 w' d j x y c k D (japp c J r).1 D (japp c J r).1 ∧ Kp w w' := by
  obtain ⟨bl, wv, nv, lv, av, tv, nx, hf, lg, su, Rs, Rp, Rn, A, h⟩ := h
  refine (xappend_ok h.xr B n cp r (hr.below h.run.low (Nat.le_refl _)) hn).mono ?_
  rintro e w' ⟨nx', rfl, hY, hf', hl⟩
  exact ⟨rfl, h.right hk ⟨av, tv, nx', hf, lg, su, h.xr.hx.fr hf' (fun q hr hq => h.xr.hy.offRef h.xr.hx q hq hr), hY, TFr.ofFr hf', hl⟩ rfl⟩
theorem pair_step_j (h : PairE w0 w d j x y c k D J D J) (hk : k < 800) :
    Calls Try.prog 49 #[.pointer (some ⟨j, 0, none⟩)] w fun e w' => e = .returned (.tuple #[.int .i64 ((jstep c D J).2.1.stage : Int), .int .i64 ((jstep c D J).2.2 : Int)]) ∧ PairE w0 w' d j x y c (k + 1) (jstep c D J).1 (jstep c D J).2.1 D J ∧ Kp w w' := by
  obtain ⟨bl, wv, nv, lv, av, tv, nx, hf, lg, su, Rs, Rp, Rn, A, h⟩ := h
  refine (jstep_all h.run.dj).mono ?_
  rintro e w' ⟨rfl, hl⟩
  obtain ⟨hdl, Rs', Rp', Rn', A', ha⟩ := jstep_jall h.run.ja hk
  exact ⟨rfl, h.left hl ha (by omega) hdl⟩
theorem pair_step_x (h : PairE w0 w d j x y c k (jstep c D J).1 (jstep c D J).2.1 D J) (hk : k ≤ 800) (hg : 1 ≤ J.gen ∧ J.gen < 1000000000000) (hdl : (jstep c D J).1.l.length = D.l.length) :
    Calls Try.prog 58 #[.pointer (some ⟨y, 0, none⟩)] w fun e w' => e = .returned (.tuple #[.int .i64 ((jstep c D J).2.1.stage : Int), .int .i64 ((jstep c D J).2.2 : Int)]) ∧ PairE w0 w' d j x y c k (jstep c D J).1 (jstep c D J).2.1 (jstep c D J).1 (jstep c D J).2.1 ∧ Kp w w' := by
  obtain ⟨bl, wv, nv, lv, av, tv, nx, hf, lg, su, Rs, Rp, Rn, A, h⟩ := h
  refine (xstep_ok h.xr hg).mono ?_
  rintro e w' ⟨rfl, hl⟩
  exact ⟨rfl, h.right hk hl hdl⟩
theorem pair_anew_j (h : PairE w0 w d j x y c k D J D J) (hk : k < 800) (B : Option Addr) (m cp : Nat) (rows : List RowM) (hm : rows.length = m) (hr : TextsAt w B rows) (hm1 : m ≤ 1000) :
    Calls Try.prog 50 #[.pointer (some ⟨j, 0, none⟩), .slice B m cp] w fun e w' => e = .returned (.int .i64 ((janew c D J (rows.map (·.l))).2.2 : Int)) ∧ PairE w0 w' d j x y c (k + 1) (janew c D J (rows.map (·.l))).1 (janew c D J (rows.map (·.l))).2.1 D J ∧ Kp w w' := by
  obtain ⟨bl, wv, nv, lv, av, tv, nx, hf, lg, su, Rs, Rp, Rn, A, h⟩ := h
  have hb := h.run.ja.bounds
  have hx := h.run.ja.xcnt (by omega)
  refine (janew_ok h.run.dj hb.2.2.2 (by omega) B m cp rows hm hr hm1).mono ?_
  rintro e w' ⟨rfl, hl⟩
  obtain ⟨hdl, Rs', Rp', Rn', A', ha⟩ := janew_jall h.run.ja hk (rows.map (·.l))
  exact ⟨rfl, h.left hl ha (by omega) hdl⟩
theorem pair_anew_x (rows : List RowM) (h : PairE w0 w d j x y c k (janew c D J (rows.map (·.l))).1 (janew c D J (rows.map (·.l))).2.1 D J) (hk : k ≤ 800) (hg : 1 ≤ J.gen ∧ J.gen < 1000000000000) (hs : D.syncs < 490000000000) (hdl : (janew c D J (rows.map (·.l))).1.l.length = D.l.length) (B : Option Addr) (m cp : Nat) (hm : rows.length = m) (hr : TextsAt w B rows) (hm1 : m ≤ 1000) :
    Calls Try.prog 59 #[.pointer (some ⟨y, 0, none⟩), .slice B m cp] w fun e w' => e = .returned (.int .i64 ((janew c D J (rows.map (·.l))).2.2 : Int)) ∧ PairE w0 w' d j x y c k (janew c D J (rows.map (·.l))).1 (janew c D J (rows.map (·.l))).2.1 (janew c D J (rows.map (·.l))).1 (janew c D J (rows.map (·.l))).2.1 ∧ Kp w w' := by
  obtain ⟨bl, wv, nv, lv, av, tv, nx, hf, lg, su, Rs, Rp, Rn, A, h⟩ := h
  refine (xanew_ok h.xr hs hg B m cp rows hm hr hm1).mono ?_
  rintro e w' ⟨rfl, hl⟩
  exact ⟨rfl, h.right hk hl hdl⟩
/-- what the second call asks of the first's. -/
theorem PairE.gen (h : PairE w0 w d j x y c k D J D2 J2) (hk : k ≤ 800) : (1 ≤ J.gen ∧ J.gen < 1000000000000) ∧ D.syncs < 490000000000 := by
  obtain ⟨bl, wv, nv, lv, av, tv, nx, hf, lg, su, Rs, Rp, Rn, A, h⟩ := h
  exact ⟨⟨h.run.ja.inv.g1, h.run.ja.bounds.2.2.2⟩, (h.run.ja.xcnt hk).2.2⟩
theorem PairE.steps (h : PairE w0 w d j x y c k D J D2 J2) (hk : k < 800) : (jstep c D J).1.l.length = D.l.length := by
  obtain ⟨bl, wv, nv, lv, av, tv, nx, hf, lg, su, Rs, Rp, Rn, A, h⟩ := h
  exact (jstep_jall h.run.ja hk).1
theorem PairE.anews (h : PairE w0 w d j x y c k D J D2 J2) (hk : k < 800) (X : List (List UInt8)) : (janew c D J X).1.l.length = D.l.length := by
  obtain ⟨bl, wv, nv, lv, av, tv, nx, hf, lg, su, Rs, Rp, Rn, A, h⟩ := h
  exact (janew_jall h.run.ja hk X).1
theorem PairE.below (h : PairE w0 w d j x y c k D J D2 J2) (hb : Below w.heap.size w w') : PairE w0 w' d j x y c k D J D2 J2 := by
  obtain ⟨bl, wv, nv, lv, av, tv, nx, hf, lg, su, Rs, Rp, Rn, A, h⟩ := h
  exact ⟨bl, wv, nv, lv, av, tv, nx, hf, lg, su, Rs, Rp, Rn, A, h.below hb⟩
theorem PairE.low (h : PairE w0 w d j x y c k D J D2 J2) : Below w0.heap.size w0 w := by
  obtain ⟨bl, wv, nv, lv, av, tv, nx, hf, lg, su, Rs, Rp, Rn, A, h⟩ := h
  exact h.run.low
theorem PairE.more {k' : Nat} (h : PairE w0 w d j x y c k D J D2 J2) (hk : k ≤ k') (hk' : k' ≤ 1000) : PairE w0 w d j x y c k' D J D2 J2 := by
  obtain ⟨bl, wv, nv, lv, av, tv, nx, hf, lg, su, Rs, Rp, Rn, A, h⟩ := h
  exact ⟨bl, wv, nv, lv, av, tv, nx, hf, lg, su, Rs, Rp, Rn, A, h.run.more hk hk', h.xr, h.dis⟩
/-- does it say what the document's says; does a record fit in both. -/
theorem pair_tells (h : PairE w0 w d j x y c k D J D J) : Calls Try.prog 61 #[.pointer (some ⟨j, 0, none⟩), .pointer (some ⟨y, 0, none⟩)] w fun e w' => e = .returned (.bool true) ∧ PairE w0 w' d j x y c k D J D J ∧ Below w.heap.size w w' := by
  obtain ⟨bl, wv, nv, lv, av, tv, nx, hf, lg, su, Rs, Rp, Rn, A, h⟩ := h
  refine (tells_ok h.run.dj.hJ h.xr.hy).mono ?_
  rintro e w' ⟨rfl, hb⟩
  exact ⟨rfl, ⟨bl, wv, nv, lv, av, tv, nx, hf, lg, su, Rs, Rp, Rn, A, h.below hb⟩, hb⟩
theorem pair_fits_j (h : PairE w0 w d j x y c k D J D J) (n : Int) : Calls Try.prog 62 #[.pointer (some ⟨j, 0, none⟩), .int .i64 n] w fun e w' => e = .returned (.bool (jfits c J n)) ∧ PairE w0 w' d j x y c k D J D J ∧ Below w.heap.size w w' := by
  obtain ⟨bl, wv, nv, lv, av, tv, nx, hf, lg, su, Rs, Rp, Rn, A, h⟩ := h
  refine (jfits_ok h.run.dj.hJ h.run.dj.ok n).mono ?_
  rintro e w' ⟨rfl, hb⟩
  exact ⟨rfl, ⟨bl, wv, nv, lv, av, tv, nx, hf, lg, su, Rs, Rp, Rn, A, h.below hb⟩, hb⟩
theorem pair_fits_x (h : PairE w0 w d j x y c k D J D J) (n : Int) : Calls Try.prog 63 #[.pointer (some ⟨y, 0, none⟩), .int .i64 n] w fun e w' => e = .returned (.bool (jfits c J n)) ∧ PairE w0 w' d j x y c k D J D J ∧ Below w.heap.size w w' := by
  obtain ⟨bl, wv, nv, lv, av, tv, nx, hf, lg, su, Rs, Rp, Rn, A, h⟩ := h
  refine (xfits_ok h.xr n).mono ?_
  rintro e w' ⟨rfl, hb⟩
  exact ⟨rfl, ⟨bl, wv, nv, lv, av, tv, nx, hf, lg, su, Rs, Rp, Rn, A, h.below hb⟩, hb⟩
theorem PairE.yx (h : PairE w0 w d j x y c k D J D2 J2) : w.cell? ⟨y, 0, none⟩ = some (.pointer (some ⟨x, 0, none⟩)) := by
  obtain ⟨bl, wv, nv, lv, av, tv, nx, hf, lg, su, Rs, Rp, Rn, A, h⟩ := h
  exact (h.xr.hy.hy.cell 0).trans rfl
end
end Go.Proofs.Ytnnhklembdaieaa
namespace Go.Proofs.Ytnnhklembdaieaa
open Go.RowKit
set_option linter.unusedSimpArgs false
set_option linter.unusedVariables false

section
variable {w0 w w' : World} {d bl j x y c k : Nat} {wv nv lv av tv nx : Value} {D D' D2 : DSt} {J J' J2 : JSt} {hf lg su : Nat} {Rs Rp Rn A : List (List UInt8)}
theorem JInv.crashed_g (h : JInv c D J Rs Rp Rn) (hg : J.gen < 1000000000000) (ks : List Bool) : ∃ g a l R, Found c (D.crash ks) g a l R ∧ g ≤ J.gen + 1 := by
  have k := h.jk
  have e2 : (J.gen + 1 + 1) % 2 = J.gen % 2 := by omega
  have hold : Old J.gen ((J.gen + 1) % 2) ((D.crash ks).read ((J.gen + 1) % 2)) → ∃ g a l R, Found c (D.crash ks) g a l R ∧ g ≤ J.gen + 1 := fun ho => by
    have hr : (D.crash ks).read (J.gen % 2) = superBytes J.s := (h.sl.crash ks).read
    have hby : ∀ k, k < J.len → (D.crash ks).byteAt (pl c J.area + k) = (encL Rs).getD k 0 := fun k hk => Keeps.read ((h.ss k hk).crash ks)
    exact ⟨J.gen, J.area, J.len, Rs, ⟨newest_old h.sright _ hr ho, k.a1, k.le, h.rs, seg_of h.ls hby, h.opened ks ⟨h.g1, k.gn⟩ k.a1 k.le h.rs h.ls hby hr ho⟩, by omega⟩
  by_cases h3 : J.stage = 3
  · rcases ((h.s3 h3).1.crash ks).read with ho | hn
    · exact hold ho
    · have hr : (D.crash ks).read (J.gen % 2) = superBytes J.s := (h.sl.crash ks).read
      have hby : ∀ k, k < J.length → (D.crash ks).byteAt (pl c J.half + k) = (encL Rp).getD k 0 := fun k hk => Keeps.read ((h.p2 (.inr h3) k hk).crash ks)
      refine ⟨J.gen + 1, J.half, J.length, Rp, ⟨newest_both h.sright h.nright rfl _ hr hn, k.h1, k.lg, h.rp (by omega), seg_of (h.lp (by omega)) hby, h.opened ks ⟨by omega, by omega⟩ k.h1 k.lg (h.rp (by omega)) (h.lp (by omega)) hby hn ?_⟩, by omega⟩
      rw [e2, hr]
      intro t ht
      rw [slotS_super h.sright (J.gen % 2) rfl] at ht
      cases ht
      show J.gen < J.gen + 1
      omega
  · exact hold ((h.so h3).crash ks).read
def Mid1 (w0 w : World) (d x y c k : Nat) (ks : List Bool) (D : DSt) (J : JSt) : Prop :=
  ∃ bl lv av tv nx hf lg su g a l R, Dead w0 w d bl c ks D g a l R ∧ XRun w w0.heap.size x y c lv av tv nx D J hf lg su ∧ g ≤ (k + 1) * 2 ∧ D.writes ≤ 600000 * k ∧ D.syncs ≤ k * 2
def Mid2 (w0 w : World) (d x y c k : Nat) (ks : List Bool) (D : DSt) : Prop :=
  ∃ bl lv g a l R, Dead w0 w d bl c ks D g a l R ∧ RefAt w w0.heap.size x lv (.slice none 0 0) (.slice none 0 0) (D.crash ks) ∧ w.cell? ⟨y, 0, none⟩ = some (.pointer (some ⟨x, 0, none⟩)) ∧ g ≤ (k + 1) * 2 ∧ D.writes ≤ 600000 * k ∧ D.syncs ≤ k * 2
def Mid3 (w0 w : World) (d j x y c k : Nat) (ks : List Bool) (D : DSt) (A : Option Addr) (rows : List RowM) : Prop :=
  ∃ bl lv g a l R, Dead w0 w d bl c ks D g a l R ∧ RefAt w w0.heap.size x lv (.slice none 0 0) (.slice none 0 0) (D.crash ks) ∧ w.cell? ⟨y, 0, none⟩ = some (.pointer (some ⟨x, 0, none⟩)) ∧ g ≤ (k + 1) * 2 ∧ D.writes ≤ 600000 * k ∧ D.syncs ≤ k * 2 ∧
    JAt w w0.heap.size j d c (.slice none 0 0) (JSt.new g a l) ∧ TextsAt w A rows ∧ rows.map (·.l) = R
theorem pair_crash (h : PairE w0 w d j x y c k D J D J) (K : Option Addr) (kn kc : Nat) (ks : List Bool) (hK : SlAt w0 K kn (ks.map .bool)) (hkn : kn ≤ 9223372036854775807) :
    Calls Try.prog 26 #[.pointer (some ⟨d, 0, none⟩), .slice K kn kc] w fun e w' => e = .returned (.int .i64 0) ∧ Mid1 w0 w' d x y c k ks D J ∧ Kp w w' := by
  obtain ⟨bl, wv, nv, lv, av, tv, nx, hf, lg, su, Rs, Rp, Rn, A, h⟩ := h
  refine (crash_ok w _ d bl wv D h.run.dj.hD (by have := h.run.dj.dl; have := h.run.dj.ok.c1; omega) K kn kc ks (hK.below h.run.low (Nat.le_refl _)) (fun a ha h0 e => ?_) hkn).mono ?_
  · have h1 := hK.lt a ha h0
    have h2 := h.run.dj.hD.bb
    omega
  · rintro e w' ⟨rfl, hD, hf'⟩
    obtain ⟨g, a, l, R, hF, hR⟩ := h.run.ja.inv.crashed_g h.run.ja.bounds.2.2.2 ks
    have hb := h.run.ja.bud.g
    have hf2 : Fr (djfoot d bl j wv nv) w w' := hf'.mono (fun q hq => .inl hq)
    exact ⟨rfl, ⟨bl, lv, av, tv, nx, hf, lg, su, g, a, l, R, ⟨hD, hF, h.run.low_fr hf2, h.run.hc, h.run.dj.ok.c1, h.run.ja.inv.ok.num⟩, h.xr.fr hf2 h.offX h.offR, by omega, h.run.ja.bud.r, h.run.ja.bud.s⟩, kp_dj h hf2⟩
theorem Dead.offR {ks : List Bool} {g a l : Nat} {R : List (List UInt8)} (h : Dead w0 w d bl c ks D g a l R) {b2 : Nat} {s : DSt} (hx : RefAt w b2 x lv av tv s) : ∀ q, dfoot d bl (.slice none 0 0) q → ¬ rfoot x lv av tv q := by
  rintro q (rfl | rfl | hd) hr
  · exact hx.off h.hD.hd (by decide) (by decide) (by decide) hr
  · exact hx.off h.hD.hl (by decide) (by decide) (by decide) hr
  · cases hd
theorem mid_crash {ks : List Bool} (h : Mid1 w0 w d x y c k ks D J) (K : Option Addr) (kn kc : Nat) (hK : SlAt w0 K kn (ks.map .bool)) (hkn : kn ≤ 9223372036854775807) :
    Calls Try.prog 32 #[.pointer (some ⟨x, 0, none⟩), .slice K kn kc, .bool false] w fun e w' => e = .returned (.tuple #[]) ∧ Mid2 w0 w' d x y c k ks D ∧ Kp w w' := by
  obtain ⟨bl, lv, av, tv, nx, hf, lg, su, g, a, l, R, hd, hx, h1, h2, h3⟩ := h
  refine (refCrash_ok w _ x lv av tv D hx.hx (by have := hx.dl; omega) K kn kc false ks ks (hK.below hd.low (Nat.le_refl _)) (fun a ha h0 e => ?_) hkn (fun q _ => by simp)).mono ?_
  · have h1 := hK.lt a ha h0
    have h2 := (hx.hx.low _ (.inr (.inl e))).1
    omega
  · rintro e w' ⟨rfl, hX, hf'⟩
    have hy := hx.hy.hy.fr hf' (hx.hy.offRef hx.hx y (.inl rfl))
    refine ⟨rfl, ⟨bl, lv, g, a, l, R, ⟨hd.hD.fr hf' (hd.offR hx.hx), hd.fnd, hd.low.trans (hf'.below hd.low.size (fun q hq => (hx.hx.low q hq).1)), hd.hc, hd.c1, hd.nl⟩, hX, (hy.cell 0).trans rfl, h1, h2, h3⟩, fun q cs hq => hq.fr hf' (hx.hx.off hq (by decide) (by decide) (by decide))⟩
theorem mid_open_j {ks : List Bool} (h : Mid2 w0 w d x y c k ks D) : Calls Try.prog 54 #[.pointer (some ⟨d, 0, none⟩)] w fun e w' => ∃ j A n cp rows, e = .returned (.tuple #[.pointer (some ⟨j, 0, none⟩), .slice A n cp, .int .i64 0]) ∧ rows.length = n ∧ Mid3 w0 w' d j x y c k ks D A rows ∧ Kp w w' := by
  obtain ⟨bl, lv, g, a, l, R, hd, hx, hy, h1, h2, h3⟩ := h
  refine (dead_open hd).mono ?_
  rintro e w' ⟨j, v, rows, rfl, h4, h5, h6, h7, h8, h9⟩
  obtain ⟨A, cp, rfl, -, -, -⟩ := own_shape h7.own
  exact ⟨j, A, rows.length, cp, rows, rfl, rfl, ⟨bl, lv, g, a, l, R, h8, hx.below h9 (Nat.le_refl _), (h9.cell (p := ⟨y, 0, none⟩) (World.block_lt_of_cell? w _ hy)).trans hy, h1, h2, h3, h4, h7.texts.2, h6⟩, Kp.ofBelow h9⟩
theorem Mid1.yx {ks : List Bool} (h : Mid1 w0 w d x y c k ks D J) : w.cell? ⟨y, 0, none⟩ = some (.pointer (some ⟨x, 0, none⟩)) := by
  obtain ⟨bl, lv, av, tv, nx, hf, lg, su, g, a, l, R, hd, hx, h1, h2, h3⟩ := h
  exact (hx.hy.hy.cell 0).trans rfl
theorem Mid1.below {ks : List Bool} (h : Mid1 w0 w d x y c k ks D J) (hb : Below w.heap.size w w') : Mid1 w0 w' d x y c k ks D J := by
  obtain ⟨bl, lv, av, tv, nx, hf, lg, su, g, a, l, R, hd, hx, h1, h2, h3⟩ := h
  exact ⟨bl, lv, av, tv, nx, hf, lg, su, g, a, l, R, hd.below hb, hx.below hb, h1, h2, h3⟩
theorem Mid3.yx {ks : List Bool} {A : Option Addr} {rows : List RowM} (h : Mid3 w0 w d j x y c k ks D A rows) : w.cell? ⟨y, 0, none⟩ = some (.pointer (some ⟨x, 0, none⟩)) := by
  obtain ⟨bl, lv, g, a, l, R, hd, hx, hy, h1, h2, h3, h4⟩ := h
  exact hy
theorem mid_open_x {ks : List Bool} {A : Option Addr} {rows : List RowM} (h : Mid3 w0 w d j x y c k ks D A rows) (hk : k < 800) : Calls Try.prog 60 #[.pointer (some ⟨x, 0, none⟩)] w fun e w' => ∃ y' A2 n cp rows2, e = .returned (.tuple #[.pointer (some ⟨y', 0, none⟩), .slice A2 n cp, .int .i64 0]) ∧ rows2.length = n ∧ rows.map (·.l) = rows2.map (·.l) ∧ (∃ D' J', PairE w0 w' d j x y' c (k + 1) D' J' D' J') ∧ TextsAt w' A rows ∧ TextsAt w' A2 rows2 ∧ Kp w w' := by
  obtain ⟨bl, lv, g, a, l, R, hd, hx, hy, h1, h2, h3, h4, h5, h6⟩ := h
  refine (xopen_ok hx c g a l R hd.fnd (by rw [crash_l]; exact hd.hc) ⟨by simp [DSt.crash], by simp only [DSt.crash]; omega, by simp only [DSt.crash]; omega⟩).mono ?_
  rintro e w' ⟨y', v, rows2, rfl, hr, e1, e2, hb⟩
  obtain ⟨A2, cp, rfl, -, -, -⟩ := own_shape e2.own
  have hja : JAll c (k + 1) (D.crash ks) (JSt.new g a l) R [] [] R := ⟨hd.fnd.inv, ⟨fun _ => ⟨by simp, rfl⟩, fun h' => absurd rfl h'⟩, ⟨by simp [DSt.crash], by simp only [DSt.crash]; omega, by simp only [DSt.crash]; omega, by simpa [JSt.new] using h1, by simp [JSt.new]⟩, by omega⟩
  have hd' := hd.below hb
  refine ⟨y', A2, rows2.length, cp, rows2, rfl, rfl, by rw [h6, e1], ⟨D.crash ks, JSt.new g a l, bl, .slice none 0 0, .slice none 0 0, lv, .slice none 0 0, .slice none 0 0, .slice none 0 0, 0, 0, 0, R, [], [], R, ⟨⟨hd'.hD, h4.below hb (Nat.le_refl _), hja.inv.jk, hja.inv.dl, hja.cnt (by omega)⟩, hja, hd'.low, by rw [crash_l]; exact hd.hc⟩, hr, fun q hq => by cases hq⟩, h5.below hb, e2.texts.2, Kp.ofBelow hb⟩
end
end Go.Proofs.Ytnnhklembdaieaa
namespace Go.Proofs.Ytnnhklembdaieaa
open Go.RowKit
set_option linter.unusedSimpArgs false
set_option linter.unusedVariables false

theorem RefAt.base_ {w : World} {b b' x : Nat} {lv av tv : Value} {s : DSt} (h : RefAt w b x lv av tv s) (hb : b' ≤ b) : RefAt w b' x lv av tv s :=
  ⟨h.ok, h.hx, own_base h.hl hb, own_base h.ha hb, own_base h.ht hb, h.ne, Nat.le_trans hb h.bx⟩
theorem DJ.tfr {w w' : World} {base d bl j c : Nat} {wv nv : Value} {D : DSt} {J : JSt} (h : DJ w base d bl j c wv nv D J) {b2 : Nat} (hf : TFr b2 nob w w') : DJ w' base d bl j c wv nv D J :=
  ⟨h.hD.tfr hf (fun _ _ h => h), h.hJ.tfr hf (fun _ _ h => h), h.ok, h.dl, h.cnt⟩
theorem pair_format {w0 w : World} {d bl j x n : Nat} {lv : Value} (h4 : 4 ≤ n) (hn : n ≤ 4096) (h : JRun w0 w d bl j ((n - 2) / 2) 1 (.slice none 0 0) (.slice none 0 0) ((DSt.new n).write 1 (superBytes ⟨1, 0, 0⟩)).sync (JSt.new 1 0 0) [] [] [] []) (hx : RefAt w w0.heap.size x lv (.slice none 0 0) (.slice none 0 0) (DSt.new n)) :
    Calls Try.prog 56 #[.pointer (some ⟨x, 0, none⟩)] w fun e w' => ∃ y, e = .returned (.pointer (some ⟨y, 0, none⟩)) ∧ ∃ D J, PairE w0 w' d j x y ((n - 2) / 2) 1 D J D J := by
  have hl : (DSt.new n).l.length = n := by simp [DSt.new]
  refine (xformat_ok hx (by omega) (by simp [DSt.new])).mono ?_
  rintro e w' ⟨y, av', tv', rfl, hr, hf⟩
  rw [hl] at hr
  exact ⟨y, rfl, _, _, bl, .slice none 0 0, .slice none 0 0, lv, av', tv', .slice none 0 0, 0, 0, 0, [], [], [], [], ⟨h.dj.tfr hf, h.ja, h.low.trans (hf.below h.low.size (fun q hq => hq.elim)), h.hc⟩, hr, fun q hq => by cases hq⟩
end Go.Proofs.Ytnnhklembdaieaa
