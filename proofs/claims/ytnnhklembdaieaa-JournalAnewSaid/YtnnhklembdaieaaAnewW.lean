/- JournalAnew: the walk. -/
import Derived.Test.YtnnhklembdaieaaJouE
import Derived.Laws.AppendOwnNone
import Derived.Deep.CutBlock
import Derived.Deep.DeepCutAuto
namespace Go.Proofs.Ytnnhklembdaieaa
open Go.RowKit
set_option linter.unusedSimpArgs false
set_option linter.unusedVariables false

/-- append of a slice that may be nil. -/
theorem wpList_append_any {P : Program} {w : World} {ops : Array Oper} {rest : List Oper} {o : Oper} {a : Act} {Q : Exit → Act → World → Prop} (hgd : o.guard = none) (s x : Operand) (t : TypeId)
    (ho : o.op = .call { callee := .builtin .append, args := #[s, x], argTypes := #[t, t] }) (base : Nat) (e : TypeId) (i : TypeInfo) (z : Value) (size bytes : Nat) (ht : P.underlying t = some (.slice e)) (hi : P.info? e = some i) (hz : i.zero = some z)
    (hsize : i.size = size) (hby : i.bytes = bytes) (hzs : z.cells.size = size) (hsz : 0 < size) (v : Value) (n : Nat) (xs : List Value) (hs : a.eval s = v) (hown : w.ownsRow base e size v n xs)
    (X : Option Addr) (m c : Nat) (news : List Value) (hx : a.eval x = .slice X m c) (hnone : X = none → m = 0 ∧ c = 0) (hl : news.length = m * size) (hnews : ∀ ad, X = some ad → ∀ j u, news[j]? = some u → w.cell? (ad.add j) = some u) (h1 : ∀ u ∈ news, u.oneCell' = true)
    (hbound : n + m ≤ maxLen) (hbytes : (n + m) * bytes ≤ 140737488355328) (hbase : base ≤ w.heap.size)
    (h : ∀ v' w', w'.ownsRow base e size v' (n + m) (xs ++ news) → w.grownBy w' v.ownBlock → wpList P ops Q rest (a.put o.dst v') w') : wpList P ops Q (o :: rest) a w := by
  cases X with
  | none =>
    obtain ⟨rfl, rfl⟩ := hnone rfl
    obtain rfl : news = [] := List.eq_nil_of_length_eq_zero (by rw [hl]; simp)
    refine wpList_append_own_none hgd s x t ho base e i size ht hi v n xs hs hown hx (h v w ?_ ⟨rfl, rfl, rfl, Nat.le_refl _, fun _ _ _ => rfl⟩)
    simpa using hown
  | some ad => exact wpList_append_own w hgd s x t ho base e i z size bytes ht hi hz hsize hby hzs hsz v n xs hs hown ad m c news hx hl (hnews ad rfl) h1 hbound hbytes hbase (fun v' w' a1 a2 _ => h v' w' a1 a2)
theorem meas_stage {J : JSt} (h : meas J ≤ 3) : (if (J.stage : Int) = 0 then 0 else 4 - (J.stage : Int).toNat) = meas J := by
  unfold meas at *
  by_cases a : J.stage = 0
  · by_cases b : J.next.length = 0
    · simp [a, b]
    · rw [if_pos a, if_neg b] at h; omega
  · by_cases b : J.next.length = 0
    · rw [if_neg a, if_pos b, if_neg (by omega)]; simp
    · rw [if_neg a, if_neg b] at h; omega
/-- a row of none, made. -/
theorem own_empty {w : World} {base g : Nat} {e : TypeId} (hb : base ≤ g) (h : Blk w g e #[]) : w.ownsRow base e 1 (.slice (some ⟨g, 0, none⟩) 0 0) 0 [] := by
  refine ⟨rfl, .inr ⟨g, 0, #[], rfl, hb, h, Nat.le_refl _, by simp [maxLen], by simp, by simp⟩⟩

set_option maxRecDepth 100000 in
set_option maxHeartbeats 6400000 in
theorem anew_core (w : World) (A : Option Addr) (N cA : Nat) (ops : List JOpM) (hN : ops.length = N) (hA : JOpsAt w A ops) (L : Option Addr) (M cL : Nat) (lrows : List RowM) (hM : lrows.length = M) (hL : TextsAt w L lrows) (hLn : L = none → M = 0 ∧ cL = 0)
    (B : Option Addr) (bn cB : Nat) (more : List UInt8) (hB : SlAt w B bn (bvs more)) (hbn : bn ≤ 9223372036854775807) :
    Calls Try.prog 7 #[.slice A N cA, .slice L M cL, .slice B bn cB] w fun e w' => e = .returned (.bool true) ∧ Below w.heap.size w w' := by
  have hlen := hA.1
  rw [hN] at hlen
  have HN := hide hN
  have HM := hide hM
  have hMl := hL.1
  rw [hM] at hMl
  have hbl : more.length = bn := by have := hB.1; rwa [bvs_length] at this
  have HBL := hide hbl
  clear hN hM hbl
  obtain ⟨i0, z0, hi0, hz0, hzl, hs0, hb0⟩ := infoN (show (Try.prog.info? 28).map (fun i => (i.size, i.bytes, i.zero.map (·.cells.toList))) = some (1, 24, some [.slice none 0 0]) by kernel_rfl)
  have hzs : z0.cells.size = 1 := by rw [← Array.length_toList, hzl]; rfl
  go_enter Try.func7, Try.ntmps7
  go_wp2_with fail
  refine (newE 30 w (by omega) (by omega)).mono ?_
  rintro e w1 ⟨d, bl, rfl, h1, b1⟩
  have HF := hide (run_format w w1 d bl 30 (by omega) (by omega) h1 b1)
  clear h1 b1
  go_wp2_with fail
  refine HF.out.mono ?_
  rintro e w2 ⟨j, rfl, R2⟩
  have HR2 := hide R2
  clear HF R2
  go_upto_block 0 with fail
  go_cut [11] (fun s11 wx => ∃ (wv nv : Value) (D : DSt) (J : JSt) (Rs Rp Rn A : List (List UInt8)), JRun w wx d bl j 14 50 wv nv D J Rs Rp Rn A)
  case first =>
   go_wp2_with fail
   go_loopw [11] (fun i wr => ∃ (q : Nat) (wv nv : Value) (D : DSt) (J : JSt) (Rs Rp Rn A : List (List UInt8)), q ≤ N ∧ q ≤ 40 ∧ i = .int .i64 q ∧ JRun w wr d bl j 14 (1 + q) wv nv D J Rs Rp Rn A) (fun i _ => 40 - (intOf i).toNat)
   case atStart => exact ⟨0, _, _, _, _, _, _, _, _, by omega, by omega, rfl, HR2.out⟩
   case round =>
     clear HR2
     obtain ⟨q, wv, nv, D, J, Rs, Rp, Rn, A0, hqN, hq40, rfl, R⟩ := hrel
     have HR := hide R
     clear R
     by_cases hlt : q < N ∧ q < 40
     · obtain ⟨hlt1, hlt2⟩ := hlt
       obtain ⟨g, o, rfl, hg, hops⟩ := hA.2 (by rw [HN.out]; omega)
       have hkl : q < ops.length := by rw [HN.out]; exact hlt1
       obtain ⟨m, hm⟩ : ∃ m, m = ops[q] := ⟨_, rfl⟩
       have hop := hops q hkl
       rw [← hm] at hop
       clear hops hkl hm
       obtain ⟨kd, bA, bc, b, lA, lc, lrows', kA, kc, keep⟩ := m
       have hopr := (hop.below HR.out.low hg)
       have c0 := hopr.c0
       have c1 := hopr.c1
       have c2 := hopr.c2
       have c3 := hopr.c3
       simp only at c0 c1 c2 c3
       have hk0 : (0 : Int) ≤ (q : Int) := by omega
       have hk1 : (q : Int) < (N : Int) := by omega
       have HOP := hide hop
       have HG := hide (great_ok wr kd bA b.length bc hop.mb lA lrows'.length lc lrows' rfl hopr.hl (.slice kA keep.length kc) rfl)
       have HCC := hide (fun w' (hb : Below w.heap.size w w') => And.intro ((hop.below hb hg).c0) ((hop.below hb hg).c1))
       clear hop hopr
       obtain ⟨gr, hgr⟩ : ∃ gr, gr = greatO b.length (lrows'.map (·.l.length)) := ⟨_, rfl⟩
       rw [← hgr] at HG
       cases gr
       rotate_left
       · clear hgr
         go_wp2_with (go_at_call 46; refine HG.out.mono ?_; rintro e w4 ⟨rfl, b4⟩; have HR4 := hide (HR.out.below b4))
         refine (alive14 _).mono ?_
         rintro e w5 ⟨rfl, b5⟩
         clear c0 c1 c2 c3
         go_wp2
         go_ret
         exact ⟨rfl, HR4.out.low.trans (b5.mono HR4.out.low.size)⟩
       · have hbl : b.length ≤ 2100 := JOpM.notGreat (m := ⟨kd, bA, bc, b, lA, lc, lrows', kA, kc, keep⟩) hgr.symm
         clear hgr
         by_cases hb21 : 2100 < bn
         · have t1 : decide ((bn : Int) > 2100) = true := by simp; omega
           go_wp2_with (go_at_call 46; refine HG.out.mono ?_; rintro e w4 ⟨rfl, b4⟩; have HR4 := hide (HR.out.below b4))
           refine (alive14 _).mono ?_
           rintro e w5 ⟨rfl, b5⟩
           clear c0 c1 c2 c3
           go_wp2
           go_ret
           exact ⟨rfl, HR4.out.low.trans (b5.mono HR4.out.low.size)⟩
         · have t1 : decide ((bn : Int) > 2100) = false := by simp; omega
           by_cases hk0' : kd = 0
           · subst hk0'
             go_wp2_with (go_at_call 46; refine HG.out.mono ?_; rintro e w4 ⟨rfl, b4⟩; have HR4 := hide (HR.out.below b4); have y0 := (HCC.out w4 HR4.out.low).1; have y1 := (HCC.out w4 HR4.out.low).2; simp only at y0 y1)
             have HAP := hide (run_append HR4.out (by omega) bA b.length bc b (HOP.out.hb.below HR4.out.low (Nat.le_refl _)) (by omega))
             obtain ⟨r1, hr1⟩ : ∃ r, r = (japp 14 J b).2.1 := ⟨_, rfl⟩
             obtain ⟨r2, hr2⟩ : ∃ r, r = (japp 14 J b).2.2 := ⟨_, rfl⟩
             rw [← hr1, ← hr2] at HAP
             clear hr1 hr2
             refine HAP.out.mono ?_
             rintro e w5 ⟨rfl, h5, -⟩
             have h5' : ∃ wv nv D J Rs Rp Rn A, JRun w w5 d bl j 14 (1 + (q + 1)) wv nv D J Rs Rp Rn A := by
               rcases h5 with ⟨-, -, -, nv5, R5⟩ | ⟨-, -, nv5, R5⟩
               · exact ⟨_, _, _, _, _, _, _, _, by rw [show 1 + (q + 1) = 1 + q + 1 by omega]; exact R5⟩
               · exact ⟨_, _, _, _, _, _, _, _, R5.more (by omega) (by omega)⟩
             obtain ⟨wv5, nv5, D5, J5, Rs5, Rp5, Rn5, A5, R5⟩ := h5'
             have HR5 := hide R5
             clear R5 h5 c0 c1 c2 c3 y0 y1
             go_wp2
             go_roundw
             case rel => exact ⟨q + 1, wv5, nv5, D5, J5, Rs5, Rp5, Rn5, A5, by omega, by omega, by go_num, HR5.out⟩
             case measure => simp [intOf] <;> omega
           · have t0 : (kd == 0) = false := by simpa using hk0'
             clear hk0'
             go_wp2_with (go_at_call 46; refine HG.out.mono ?_; rintro e w4 ⟨rfl, b4⟩; have HR4 := hide (HR.out.below b4); have y0 := (HCC.out w4 HR4.out.low).1; simp only at y0)
             have HS := hide (run_step HR4.out (by omega))
             refine HS.out.mono ?_
             rintro e w5 ⟨st, er, rfl, wv5, nv5, D5, J5, Rs5, Rp5, Rn5, R5, hdl, hpre, hstr, -, hf5⟩
             have HR5 := hide R5
             clear R5 hdl hpre hstr hf5 HS c0 c1 c2 c3 y0
             go_wp2
             go_roundw
             case rel => exact ⟨q + 1, wv5, nv5, D5, J5, Rs5, Rp5, Rn5, A0, by omega, by omega, by go_num, by rw [show 1 + (q + 1) = 1 + q + 1 by omega]; exact HR5.out⟩
             case measure => simp [intOf] <;> omega
     · rcases (show ¬ q < N ∨ (q < N ∧ ¬ q < 40) by omega) with hx1 | hx1
       all_goals
         clear hlt
         go_wp2_with fail
         go_meet
         case rel => exact ⟨wv, nv, D, J, Rs, Rp, Rn, A0, HR.out.more (by omega) (by omega)⟩
  case rest =>
    obtain ⟨wv, nv, D, J, Rs, Rp, Rn, A0, R⟩ := hcut
    have HR := hide R
    clear R HR2 HN hA
    have HG := hide (great_ok wc 0 none 0 0 (by omega) L M cL lrows HM.out (hL.below HR.out.low) (.slice none 0 0) rfl)
    obtain ⟨gr, hgr⟩ : ∃ gr, gr = greatO 0 (lrows.map (·.l.length)) := ⟨_, rfl⟩
    rw [← hgr] at HG
    cases gr
    rotate_left
    · clear hgr
      go_wp2_with (go_at_call 46; refine HG.out.mono ?_; rintro e w4 ⟨rfl, b4⟩; have HR4 := hide (HR.out.below b4))
      refine (alive14 _).mono ?_
      rintro e w5 ⟨rfl, b5⟩
      go_wp2
      go_ret
      exact ⟨rfl, HR4.out.low.trans (b5.mono HR4.out.low.size)⟩
    · have hM40 : M ≤ 40 := by
        have h := hgr.symm
        unfold greatO at h
        simp only [Bool.or_eq_false_iff, decide_eq_false_iff_not, List.length_map, HM.out] at h
        omega
      clear hgr
      go_wp2_with (go_at_call 46; refine HG.out.mono ?_; rintro e w4 ⟨rfl, b4⟩; have HR4 := hide (HR.out.below b4))
      have HN4 := hide (run_anew HR4.out (by omega) L M cL lrows HM.out (hL.below HR4.out.low) (by omega))
      clear HG HR
      refine HN4.out.mono ?_
      rintro e w5 ⟨er, rfl, h5, -⟩
      clear HN4
      rcases h5 with ⟨rfl, hrec, wv5, nv5, D5, J5, Rs5, R5, -, hst5, hnx5, -⟩ | ⟨hne, -, wv5, nv5, R5⟩
      rotate_left
      · have HR5 := hide R5
        have t1 : ((er : Int) != 0) = true := by simpa using hne
        clear R5 hne HR4
        go_wp2_with fail
        refine (alive14 _).mono ?_
        rintro e w6 ⟨rfl, b6⟩
        clear t1
        go_wp2
        go_ret
        exact ⟨rfl, HR5.out.low.trans (b6.mono HR5.out.low.size)⟩
      · have HR5 := hide R5
        have HX := hide (And.intro hst5 hnx5)
        clear R5 hst5 hnx5 HR4 hrec
        have hsz5 : w.heap.size ≤ w5.heap.size := HR5.out.low.size
        have hse : ∀ r ∈ lrows, SlAt w r.A r.l.length (bvs r.l) ∧ r.l.length ≤ 9223372036854775807 := fun r hr => by
          obtain ⟨k, hk, rfl⟩ := List.getElem_of_mem hr
          obtain ⟨g, o, -, -, hk'⟩ := hL.2 (by omega)
          exact (hk' k hk).2
        have HSE := hide hse
        have he5 : (w5.alloc (.cells #[] 28)).ownsRow w.heap.size 28 1 (.slice (some ⟨w5.heap.size, 0, none⟩) 0 0) 0 [] := own_empty hsz5 (Blk.new w5 28 #[])
        have hLc : ∀ ad, L = some ad → ∀ j u, (lrows.map fun r => Value.slice r.A r.l.length r.c)[j]? = some u → (w5.alloc (.cells #[] 28)).cell? (ad.add j) = some u := fun ad had jj u hu => by
          have hjl : jj < lrows.length := by have := (List.getElem?_eq_some_iff.1 hu).1; simpa using this
          obtain ⟨g, o, e, hg, hk'⟩ := hL.2 (by omega)
          rw [had] at e
          injection e with e
          subst e
          rw [Addr.add_mid, World.cell?_alloc_lt _ _ _ (by show g < w5.heap.size; omega)]
          refine ((HR5.out.low.cell (p := ⟨g, o + jj, none⟩) hg).trans (hk' jj hjl).1).trans ?_
          rw [List.getElem?_map, List.getElem?_eq_getElem hjl] at hu
          exact hu
        have hmx : maxLen = 9223372036854775807 := by decide
        clear hse
        go_upto_if 98 with (at_builtin; refine wpList_append_any rfl _ _ 85 rfl w.heap.size 28 i0 _ 1 24 Try.underlying85 hi0 hz0 hs0 hb0 hzs (by omega) (.slice (some ⟨w5.heap.size, 0, none⟩) 0 0) 0 [] rfl he5 L M cL (lrows.map fun r => Value.slice r.A r.l.length r.c) rfl hLn (by rw [List.length_map, HM.out, Nat.mul_one]) hLc (by intro u hu; rw [List.mem_map] at hu; obtain ⟨r, -, rfl⟩ := hu; rfl) (by omega) (by omega) (by simp; omega) ?_; intro v6 w6 hown6 hgrow6)
        have hrw : ∀ k, (Value.slice (some ⟨w5.heap.size, 0, none⟩) 0 0).ownBlock = some k → nob k ∨ w5.heap.size ≤ k := fun k hk => by
          have hk' : w5.heap.size = k := by simpa [Value.ownBlock] using hk
          exact .inr (by omega)
        have b6 : Below w5.heap.size w5 w6 := (((Fr.refl nob w5).alloc (.cells #[] 28)).grown hgrow6 hrw).belowThis (fun _ h => h)
        have HR6 := hide (HR5.out.below b6)
        have HA6 : Hid (AllAt w w6 v6 lrows) := hide ⟨by rw [HM.out]; rw [Nat.zero_add, List.nil_append] at hown6; exact hown6, HSE.out⟩
        have HAP := hide (run_append HR6.out (by omega) B bn cB more (hB.below HR6.out.low (Nat.le_refl _)) hbn)
        obtain ⟨r1, hr1⟩ : ∃ r, r = (japp 14 J5 more).2.1 := ⟨_, rfl⟩
        obtain ⟨r2, hr2⟩ : ∃ r, r = (japp 14 J5 more).2.2 := ⟨_, rfl⟩
        rw [← hr1, ← hr2] at HAP
        have HR2 := hide hr2
        clear hr1 hr2 b6 hown6 hgrow6 HR5 he5 hLc
        refine HAP.out.mono ?_
        rintro e w7 ⟨rfl, h7, hf7⟩
        have HA7 := hide (HA6.out.run HR6.out hf7)
        have HS7 : Hid ((r2 = 0 ∧ ∃ nv J Rn, JRun w w7 d bl j 14 52 wv5 nv D5 J Rs5 (lrows.map (·.l)) Rn (lrows.map (·.l) ++ [more])) ∨ (r2 ≠ 0 ∧ ∃ nv J Rn, JRun w w7 d bl j 14 52 wv5 nv D5 J Rs5 (lrows.map (·.l)) Rn (lrows.map (·.l)))) := hide (by
          rcases h7 with ⟨-, -, hje, nv7, R7⟩ | ⟨hne, -, nv7, R7⟩
          · exact .inl ⟨by rw [HR2.out, hje], _, _, _, R7⟩
          · exact .inr ⟨hne, _, _, _, R7.more (by omega) (by omega)⟩)
        clear HAP h7 hf7 HA6 HR2 HR6 HX
        go_upto_if 98 with fail
        go_cut [12] (fun s12 wx => ∃ (rows : List RowM) (nv : Value) (J : JSt) (Rn : List (List UInt8)), rows.length ≤ 41 ∧ AllAt w wx s12 rows ∧ JRun w wx d bl j 14 52 wv5 nv D5 J Rs5 (lrows.map (·.l)) Rn (rows.map (·.l)))
        case first =>
          rcases HS7.out with ⟨rfl, nv7, J7, Rn7, R7⟩ | ⟨hne, nv7, J7, Rn7, R7⟩
          · have HR7 := hide R7
            clear HS7 R7
            have hn1 : ∀ j u, [Value.slice B bn cB][j]? = some u → (w7.alloc (.cells #[.slice B bn cB] 28)).cell? ((⟨w7.heap.size, 0, none⟩ : Addr).add j) = some u := cell_one_new w7 _ 28
            have hsz7 : w.heap.size ≤ w7.heap.size := HR7.out.low.size
            have hov := HR7.out.offOwn HA7.out.own (by decide) (by decide) (by decide) (by decide) (by decide)
            have hlow := fun k (hk : v6.ownBlock = some k) => (HA7.out.own.lt k hk).1
            have HOV := hide (And.intro hov hlow)
            clear hov hlow
            go_wp2_with (at_builtin; refine wpList_append_own _ rfl _ _ 85 rfl w.heap.size 28 i0 _ 1 24 Try.underlying85 hi0 hz0 hs0 hb0 hzs (by omega) v6 lrows.length (lrows.map fun r => .slice r.A r.l.length r.c) rfl (HA7.out.own.alloc _) ⟨w7.heap.size, 0, none⟩ 1 1 [.slice B bn cB] rfl rfl hn1 (by simp [Value.oneCell']) (by rw [HM.out]; omega) (by rw [HM.out]; omega) (by simp; omega) ?_; intro v8 w8 hown8 hgrow8 _)
            have f8 : Fr (fun k => v6.ownBlock = some k) w7 w8 := ((Fr.refl _ w7).alloc _).grown hgrow8 (fun k hk => .inl hk)
            go_meet
            case rel => exact ⟨lrows ++ [⟨B, cB, more⟩], nv7, J7, Rn7, by rw [List.length_append, HM.out]; simp; omega, ⟨by
              have e9 : List.map (fun r : RowM => Value.slice r.A r.l.length r.c) [⟨B, cB, more⟩] = [.slice B bn cB] := by simp [HBL.out]
              rw [List.length_append, List.map_append, e9]; exact hown8, fun r hr => by
              rcases List.mem_append.1 hr with hr | hr
              · exact HSE.out r hr
              · rw [List.mem_singleton.1 hr]; exact ⟨by rw [HBL.out]; exact hB, by rw [HBL.out]; exact hbn⟩⟩, by
                rw [List.map_append]
                exact ⟨⟨HR7.out.dj.hD.fr f8 (fun k hk hS => HOV.out.1 k hS (.inl hk)), HR7.out.dj.hJ.fr f8 (fun k hk hS => HOV.out.1 k hS (.inr hk)), HR7.out.dj.ok, HR7.out.dj.dl, HR7.out.dj.cnt⟩, HR7.out.ja, HR7.out.low.trans (f8.below hsz7 HOV.out.2), HR7.out.hc⟩⟩
          · have hz : ((r2 : Int) == 0) = false := by simpa using hne
            have HR7 := hide R7
            clear HS7 R7 hne
            go_wp2_with fail
            go_meet
            case rel => exact ⟨lrows, nv7, J7, Rn7, by rw [HM.out]; omega, HA7.out, HR7.out⟩
        case rest =>
          obtain ⟨rows, nv8, J8, Rn8, hrl, hall, R⟩ := hcut
          have HR8 := hide R
          have HA8 := hide hall
          clear R hall HS7 HA7 HSE HM HBL hL hLn hB
          clear i0 z0 hi0 hz0 hzl hs0 hb0 hzs
          go_wp2_with fail
          go_loopw [15] (fun i wr => ∃ (n : Nat) (wv nv : Value) (D : DSt) (J : JSt) (Rs Rp Rn : List (List UInt8)), meas J + n ≤ 7 ∧ i = .int .i64 n ∧ JRun w wr d bl j 14 (52 + n) wv nv D J Rs Rp Rn (rows.map (·.l)) ∧ AllAt w wr u12 rows) (fun i _ => 8 - (intOf i).toNat)
          case atStart => exact ⟨0, _, _, _, _, _, _, _, by have := meas_le J8; omega, rfl, HR8.out, HA8.out⟩
          case round =>
            clear HR8 HA8
            obtain ⟨n, wv, nv, D, J, Rs, Rp, Rn, hme, rfl, R, hall⟩ := hrel
            have HR := hide R
            have HALL := hide hall
            have HD1 := hide (run_done R)
            have HD2 := hide (run_all R)
            clear R hall
            have t2 : decide ((n : Int) < 8) = true := by simp; omega
            by_cases hlt : J.done < J.all
            · have HST := hide (run_step_some HR.out (by omega) (HR.out.ja.some_left hlt))
              have t1 : decide (J.done < J.all) = true := by simpa using hlt
              clear hlt
              go_wp2_with (first
                | (go_at_call 51; refine HD1.out.mono ?_; rintro e w' ⟨rfl, rfl⟩)
                | (go_at_call 52; refine HD2.out.mono ?_; rintro e w' ⟨rfl, rfl⟩))
              refine HST.out.mono ?_
              rintro e w9 ⟨⟨st, rfl⟩, ⟨wv', nv', D', J', Rs', Rp', Rn', g1, g2, g3, g4, g5, g6, g7, g8⟩, gf⟩
              have HN := hide (And.intro g1 g3)
              have HA9 := hide (HALL.out.run HR.out gf)
              clear g1 g2 g3 g4 g5 g6 g7 g8 gf HST t1 t2
              go_wp2
              go_roundw
              case rel => exact ⟨n + 1, wv', nv', D', J', Rs', Rp', Rn', by have := HN.out.2; omega, by go_num, by rw [show 52 + (n + 1) = 52 + n + 1 by omega]; exact HN.out.1, HA9.out⟩
              case measure => simp [intOf] <;> omega
            · have hrn := HR.out.ja.sure_all hlt
              have hn0 := HR.out.ja.next_nil.2 hrn
              have HM3 : Hid (meas J ≤ 3) := hide (by unfold meas; rw [if_pos hn0]; split <;> omega)
              have t1 : decide (J.done < J.all) = false := by simpa using hlt
              clear hlt hrn hn0
              go_wp2_with (first
                | (go_at_call 51; refine HD1.out.mono ?_; rintro e w' ⟨rfl, rfl⟩)
                | (go_at_call 52; refine HD2.out.mono ?_; rintro e w' ⟨rfl, rfl⟩))
              clear t1 t2 HD1 HD2
              go_loopw [] (fun wr => ∃ (k : Nat) (wv nv : Value) (D : DSt) (J : JSt) (Rs Rp Rn : List (List UInt8)), k + meas J ≤ 70 ∧ meas J ≤ 3 ∧ JRun w wr d bl j 14 k wv nv D J Rs Rp Rn (rows.map (·.l)) ∧ AllAt w wr u12 rows) (fun wr => match wr.cell? ⟨j, 13, none⟩ with | some (.int _ s) => (if s = 0 then 0 else 4 - s.toNat) | _ => 0)
              case atStart => exact ⟨52 + n, wv, nv, D, J, Rs, Rp, Rn, by have := HM3.out; omega, HM3.out, HR.out, HALL.out⟩
              case round =>
                rename World => w3
                obtain ⟨k, wv, nv, D, J, Rs, Rp, Rn, hk70, hm3, R, hall⟩ := hrel
                have HR := hide R
                have HALL := hide hall
                have HM3 := hide (And.intro hk70 hm3)
                have HST := hide (run_stage R)
                have hst3 := R.ja.inv.jk.st
                have hc13 : w3.cell? ⟨j, 13, none⟩ = some (.int .i64 (J.stage : Int)) := (R.dj.hJ.hj.cell 13).trans rfl
                have HC13 := hide hc13
                clear R hall hk70 hm3 hc13
                by_cases hs : J.stage = 0
                · have hn0 : J.next.length = 0 := by
                    have h := HM3.out.2
                    unfold meas at h
                    split at h <;> split at h <;> omega
                  have hrn := HR.out.ja.next_nil.1 hn0
                  have hA0 : Rs = rows.map (·.l) := by have := (HR.out.ja.cont.c0 hs).1; rw [hrn, List.append_nil] at this; exact this.symm
                  have HX := hide (And.intro hs hA0)
                  have HCR := hide (run_crash HR.out none 0 0 [] (SlAt.nil _ _) (by omega))
                  rw [hs] at HST
                  clear hs hn0 hrn hA0 hst3
                  go_wp2_with (go_at_call 53; refine HST.out.mono ?_; rintro e w' ⟨rfl, rfl⟩)
                  clear HST
                  refine HCR.out.mono ?_
                  rintro e w6 ⟨rfl, -, gg, aa, ll, R, hdead, hRR, f6⟩
                  have hR : R = rows.map (·.l) := by
                    rcases hRR with h | h
                    · rw [h, HX.out.2]
                    · exact absurd h.1 (by rw [HX.out.1]; decide)
                  have HA6 := hide (HALL.out.disk HR.out.dj.hD f6)
                  have HOP := hide (dead_open hdead)
                  clear HCR hdead hRR f6 HALL
                  go_wp2_with fail
                  refine HOP.out.mono ?_
                  rintro e w7 ⟨j7, v7, rows7, rfl, -, -, hrows7, hin7, hdead7, b7⟩
                  have HA7 := hide (HA6.out.below b7)
                  have HI7 := hide hin7
                  obtain ⟨A7, cp7, rfl, hcp7, hmx7, -⟩ := own_shape hin7.own
                  have HL7 := hide hdead7.low
                  have HM7 := hide (hrows7.trans hR)
                  clear HA6 HOP hin7 hdead7 b7 hrows7 hR
                  go_wp2_with fail
                  refine (alive14 _).mono ?_
                  rintro e w11 ⟨rfl, b11⟩
                  have hl11 := HL7.out.trans (b11.mono HL7.out.size)
                  obtain ⟨AA, cpA, rfl, -, -, -⟩ := own_shape HA7.out.own
                  have htx := (HA7.out.below b11).texts hl11 rows.length
                  rw [List.take_length] at htx
                  have hs11 := same_rows w11 A7 AA rows7.length rows.length cp7 cpA rows7 rows rfl rfl (HI7.out.below b11).texts.2 htx.2.2.2
                  have hsame : decide (rows7.map (·.l) = rows.map (·.l)) = true := by rw [HM7.out]; simp
                  rw [hsame] at hs11
                  have HS11 := hide hs11
                  have HL11 := hide hl11
                  clear hs11 hl11 hsame HI7 HA7 HL7 b11 htx
                  go_wp2_with fail
                  refine HS11.out.mono ?_
                  rintro e w12 ⟨rfl, b12⟩
                  go_wp2
                  go_ret
                  exact ⟨rfl, HL11.out.trans (b12.mono HL11.out.size)⟩
                · have HSS := hide (run_step_some HR.out (by have := HM3.out.1; omega) (fun h => hs h.1))
                  have hs0 : (0 : Int) < (J.stage : Int) := by omega
                  have t1 : decide ((J.stage : Int) > 0) = true := by simpa using hs0
                  have t1' : decide (0 < J.stage) = true := by simp; omega
                  have HS := hide hs
                  clear hs
                  go_wp2_with (go_at_call 53; refine HST.out.mono ?_; rintro e w' ⟨rfl, rfl⟩)
                  refine HSS.out.mono ?_
                  rintro e w9 ⟨⟨st, rfl⟩, ⟨wv', nv', D', J', Rs', Rp', Rn', g1, g2, g3, g4, g5, g6, g7, g8⟩, gf⟩
                  have HN := hide (And.intro g1 g3)
                  have HA9 := hide (HALL.out.run HR.out gf)
                  have HC9 : Hid (w9.cell? ⟨j, 13, none⟩ = some (.int .i64 (J'.stage : Int))) := hide ((g1.dj.hJ.hj.cell 13).trans rfl)
                  clear g1 g2 g3 g4 g5 g6 g7 g8 gf HSS t1 t1' hs0
                  go_wp2
                  go_roundw
                  case rel => exact ⟨k + 1, wv', nv', D', J', Rs', Rp', Rn', by have := HN.out.2; have := HM3.out; omega, by have := HN.out.2; have := HM3.out; omega, HN.out.1, HA9.out⟩
                  case measure =>
                    rw [HC9.out, HC13.out]
                    have h1 := HN.out.2
                    have h2 := HM3.out.2
                    have e1 := meas_stage (J := J') (by omega)
                    have e2 := meas_stage (J := J) (by omega)
                    show (if (J'.stage : Int) = 0 then 0 else 4 - (J'.stage : Int).toNat) < (if (J.stage : Int) = 0 then 0 else 4 - (J.stage : Int).toNat)
                    rw [e1, e2]
                    omega
theorem anew_any (w : World) (A : Option Addr) (N cA : Nat) (ops : List JOpM) (hN : ops.length = N) (hA : JOpsAt w A ops) (L : Option Addr) (M cL : Nat) (lrows : List RowM) (hM : lrows.length = M) (hL : TextsAt w L lrows ∧ (L = none → M = 0 ∧ cL = 0))
    (B : Option Addr) (bn cB : Nat) (more : List UInt8) (hml : more.length = bn) (oB : more.length ≤ 9223372036854775807 ∧ SlAt w B bn (bvs more)) :
    Calls Try.prog 7 #[.slice A N cA, .slice L M cL, .slice B bn cB] w fun e w' => e = .returned (.bool true) ∧ Below w.heap.size w w' :=
  anew_core w A N cA ops hN hA L M cL lrows hM hL.1 hL.2 B bn cB more oB.2 (by omega)
end Go.Proofs.Ytnnhklembdaieaa
