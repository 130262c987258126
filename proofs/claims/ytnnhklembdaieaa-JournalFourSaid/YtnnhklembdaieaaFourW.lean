/- JournalFour: the walk. -/
import Derived.Test.YtnnhklembdaieaaJouE
namespace Go.Proofs.Ytnnhklembdaieaa
open Go.RowKit
set_option linter.unusedSimpArgs false
set_option linter.unusedVariables false

set_option maxRecDepth 100000 in
set_option maxHeartbeats 6400000 in
theorem four_core (w : World) (A : Option Addr) (N cA : Nat) (ops : List JOpM) (hN : ops.length = N) (hA : JOpsAt w A ops) (K : Option Addr) (kn kc : Nat) (ks : List Bool) (hK : SlAt w K kn (ks.map .bool)) (hkn : kn ≤ 9223372036854775807) :
    Calls Try.prog 19 #[.slice A N cA, .slice K kn kc] w fun e w' => e = .returned (.bool true) ∧ Below w.heap.size w w' := by
  have hlen := hA.1
  rw [hN] at hlen
  have HN := hide hN
  clear hN
  obtain ⟨i0, z0, hi0, hz0, hzl, hs0, hb0⟩ := infoN (show (Try.prog.info? 28).map (fun i => (i.size, i.bytes, i.zero.map (·.cells.toList))) = some (1, 24, some [.slice none 0 0]) by kernel_rfl)
  have hzs : z0.cells.size = 1 := by rw [← Array.length_toList, hzl]; rfl
  go_enter Try.func19, Try.ntmps19
  go_wp2_with fail
  refine (newE 30 w (by omega) (by omega)).mono ?_
  rintro e w1 ⟨d, bl, rfl, h1, b1⟩
  have HF := hide (run_format w w1 d bl 30 (by omega) (by omega) h1 b1)
  clear h1 b1
  go_wp2_with fail
  refine HF.out.mono ?_
  rintro e w2 ⟨j, rfl, R2⟩
  have HR2 := hide R2
  clear HF R2
  go_wp2_with fail
  go_loopw [9, 10] (fun av i wr => ∃ (q : Nat) (wv nv : Value) (D : DSt) (J : JSt) (Rs Rp Rn : List (List UInt8)) (rows : List RowM), q ≤ N ∧ q ≤ 60 ∧ rows.length ≤ q ∧ i = .int .i64 q ∧ JRun w wr d bl j 14 (1 + q) wv nv D J Rs Rp Rn (rows.map (·.l)) ∧ JPre J Rs (rows.map (·.l)) ∧ JStrict J ∧ AllAt w wr av rows) (fun _ i _ => 60 - (intOf i).toNat)
  case atStart => exact ⟨0, _, _, _, _, _, _, _, [], by omega, by omega, by simp, rfl, HR2.out, (JAll.format 30 (by omega) (by omega)).2.1, (JAll.format 30 (by omega) (by omega)).2.2, AllAt.nil _ _⟩
  case round =>
    clear HR2
    obtain ⟨q, wv, nv, D, J, Rs, Rp, Rn, rows, hqN, hq60, hrq, rfl, R, hpre, hstr, hall⟩ := hrel
    have HR := hide R
    have HP := hide (And.intro hpre hstr)
    have HALL := hide hall
    obtain ⟨AA, cpA, rfl, hcpA, hmxA, -⟩ := own_shape hall.own
    clear R hpre hstr hall
    by_cases hlt : q < N ∧ q < 60
    · obtain ⟨hlt1, hlt2⟩ := hlt
      obtain ⟨g, o, rfl, hg, hops⟩ := hA.2 (by rw [HN.out]; omega)
      have hkl : q < ops.length := by rw [HN.out]; exact hlt1
      obtain ⟨m, hm⟩ : ∃ m, m = ops[q] := ⟨_, rfl⟩
      have hop := hops q hkl
      rw [← hm] at hop
      have hopr := (hop.below HR.out.low hg)
      have c0 := hopr.c0
      have c1 := hopr.c1
      have c2 := hopr.c2
      have c3 := hopr.c3
      have hk0 : (0 : Int) ≤ (q : Int) := by omega
      have hk1 : (q : Int) < (N : Int) := by omega
      have HOP := hide hop
      clear hops hkl hm hop hopr
      go_upto_region 12 with fail
      obtain ⟨kd, bA, bc, b, lA, lc, lrows, kA, kc, keep⟩ := m
      simp only at c0 c1 c2 c3 HOP
      obtain ⟨w3, hw3⟩ : ∃ w3, w3 = wr.alloc (.cells #[.int .i64 kd, .slice bA b.length bc, .slice lA lrows.length lc, .slice kA keep.length kc] 91) := ⟨_, rfl⟩
      obtain ⟨p, hp⟩ : ∃ p, p = wr.heap.size := ⟨_, rfl⟩
      have hb3 : Below wr.heap.size wr w3 := by rw [hw3]; exact (Below.refl _ _).alloc (Nat.le_refl _) _
      have kp : Blk w3 p 91 #[.int .i64 kd, .slice bA b.length bc, .slice lA lrows.length lc, .slice kA keep.length kc] := by rw [hw3, hp]; exact Blk.new wr _ _
      rw [← hw3, ← hp]
      have R3 := HR.out.below hb3
      have A3 := HALL.out.below hb3
      have HR3 := hide R3
      have HA3 := hide A3
      have y0 := kp.cell 0
      have y1 := kp.cell 1
      have y2 := kp.cell 2
      have y3 := kp.cell 3
      simp at y0 y1 y2 y3
      have HKP := hide kp
      have HG := hide (great_ok w3 kd bA b.length bc HOP.out.mb lA lrows.length lc lrows rfl (HOP.out.hl.below R3.low) (.slice kA keep.length kc) rfl)
      clear hw3 hp kp R3 A3 HR HALL c0 c1 c2 c3 hb3
      go_wp2_with fail
      refine HG.out.mono ?_
      rintro e w4 ⟨rfl, b4⟩
      have HR4 := hide (HR3.out.below b4)
      have HA4 := hide (HA3.out.below b4)
      have kp4 := HKP.out.below b4 HKP.out.lt
      have x0 := kp4.cell 0
      have x1 := kp4.cell 1
      simp at x0 x1
      have HKP4 := hide kp4
      clear HR3 HA3 kp4 HKP HG y0 y1 y2 y3 b4
      obtain ⟨gr, hgr⟩ : ∃ gr, gr = greatO b.length (lrows.map (·.l.length)) := ⟨_, rfl⟩
      rw [← hgr]
      cases gr
      rotate_left
      · clear hgr
        go_wp2_with fail
        refine (alive14 _).mono ?_
        rintro e w5 ⟨rfl, b5⟩
        clear x0 x1
        go_wp2
        go_ret
        exact ⟨rfl, HR4.out.low.trans (b5.mono HR4.out.low.size)⟩
      · have hbl : b.length ≤ 2100 := JOpM.notGreat (m := ⟨kd, bA, bc, b, lA, lc, lrows, kA, kc, keep⟩) hgr.symm
        clear hgr
        by_cases hk0' : kd = 0
        · subst hk0'
          have HAP := hide (run_append HR4.out (by omega) bA b.length bc b (HOP.out.hb.below HR4.out.low (Nat.le_refl _)) (by omega))
          obtain ⟨r1, hr1⟩ : ∃ r, r = (japp 14 J b).2.1 := ⟨_, rfl⟩
          obtain ⟨r2, hr2⟩ : ∃ r, r = (japp 14 J b).2.2 := ⟨_, rfl⟩
          rw [← hr1, ← hr2] at HAP
          have HR2 := hide hr2
          clear hr1 hr2
          go_wp2_with fail
          refine HAP.out.mono ?_
          rintro e w5 ⟨rfl, h5, hf5⟩
          have HA5 := hide (HA4.out.run HR4.out hf5)
          have hp4 := HR4.out.dj.above
          have kp5 := HKP4.out.fr hf5 (fun hd => by
            rcases hd with hd | hd
            · exact HR4.out.dj.hD.off HKP4.out (by decide) (by decide) (.inl (by decide)) hd
            · exact HR4.out.dj.hJ.off HKP4.out (by decide) (by decide) hd)
          have v1 : w5.cell? ⟨p, 1, none⟩ = some (.slice bA b.length bc) := (kp5.cell 1).trans rfl
          have v0 : w5.cell? ⟨p, 0, none⟩ = some (.int .i64 0) := (kp5.cell 0).trans rfl
          have HKP5 := hide kp5
          clear kp5 hf5 hp4 HAP HKP4 x0 x1
          rcases h5 with ⟨hrec, hfit, hje, nv5, R5⟩ | ⟨hne, hle, nv5, R5⟩
          · have hz : r2 = 0 := by rw [HR2.out, hje]
            subst hz
            have HP5 := hide (And.intro ((HR4.out.ja.app (by omega) b hrec hfit).2.1 HP.out.1) ((HR4.out.ja.app (by omega) b hrec hfit).2.2 HP.out.2))
            have HR5 := hide R5
            clear R5 hje hrec hfit
            have hn1 : ∀ j u, [Value.slice bA b.length bc][j]? = some u → (w5.alloc (.cells #[.slice bA b.length bc] 28)).cell? ((⟨w5.heap.size, 0, none⟩ : Addr).add j) = some u := cell_one_new w5 _ 28
            have hsz5 : w.heap.size ≤ w5.heap.size := HR5.out.low.size
            go_wp2_with (at_builtin; refine wpList_append_own _ rfl _ _ 85 rfl w.heap.size 28 i0 _ 1 24 Try.underlying85 hi0 hz0 hs0 hb0 hzs (by omega) (.slice AA rows.length cpA) rows.length (rows.map fun r => .slice r.A r.l.length r.c) rfl (HA5.out.own.alloc _) ⟨w5.heap.size, 0, none⟩ 1 1 [.slice bA b.length bc] rfl rfl hn1 (by simp [Value.oneCell']) (by unfold maxLen; omega) (by omega) (by simp; omega) ?_; intro v6 w6 hown6 hgrow6 _; have v60 : w6.cell? ⟨p, 0, none⟩ = some (.int .i64 0) := ((HKP5.out.app HA5.out.own (by decide) hgrow6).cell 0).trans rfl)
            have f6 : Fr (fun k => (Value.slice AA rows.length cpA).ownBlock = some k) w5 w6 := ((Fr.refl _ w5).alloc _).grown hgrow6 (fun k hk => .inl hk)
            have hoff := HR5.out.offOwn HA5.out.own (by decide) (by decide) (by decide) (by decide) (by decide)
            have HR6 : Hid (JRun w w6 d bl j 14 (1 + q + 1) wv nv5 D (J.app b) Rs Rp (Rn ++ [b]) (List.map (fun x => x.l) rows ++ [b])) := hide ⟨⟨HR5.out.dj.hD.fr f6 (fun k hk hS => hoff k hS (.inl hk)), HR5.out.dj.hJ.fr f6 (fun k hk hS => hoff k hS (.inr hk)), HR5.out.dj.ok, HR5.out.dj.dl, HR5.out.dj.cnt⟩, HR5.out.ja, HR5.out.low.trans (f6.below hsz5 (fun k hk => (HA5.out.own.lt k hk).1)), HR5.out.hc⟩
            have HA6 : Hid (AllAt w w6 v6 (rows ++ [⟨bA, bc, b⟩])) := hide ⟨by rw [List.length_append, List.map_append]; exact hown6, fun r hr => by
              rcases List.mem_append.1 hr with hr | hr
              · exact HA5.out.each r hr
              · rw [List.mem_singleton.1 hr]; exact ⟨HOP.out.hb, HOP.out.mb⟩⟩
            clear hoff f6 hown6 hgrow6 hn1 v1 v0 HKP5
            go_roundw
            case rel => exact ⟨q + 1, wv, nv5, D, _, Rs, Rp, _, rows ++ [⟨bA, bc, b⟩], by omega, by omega, by simp; omega, by go_num, by rw [List.map_append, show 1 + (q + 1) = 1 + q + 1 by omega]; exact HR6.out, by rw [List.map_append]; exact HP5.out.1, HP5.out.2, HA6.out⟩
            case measure => simp [intOf] <;> omega
          · have hz : ((r2 : Int) == 0) = false := by simpa using hne
            have HR5 := hide R5
            clear R5 hne hle
            go_wp2
            go_roundw
            case rel => exact ⟨q + 1, wv, nv5, D, J, Rs, Rp, Rn, rows, by omega, by omega, by omega, by go_num, HR5.out.more (by omega) (by omega), HP.out.1, HP.out.2, HA5.out⟩
            case measure => simp [intOf] <;> omega
        · by_cases hk1' : kd = 1
          · subst hk1'
            have HS := hide (run_step HR4.out (by omega))
            clear hk0'
            go_wp2_with fail
            refine HS.out.mono ?_
            rintro e w5 ⟨st, er, rfl, wv5, nv5, D5, J5, Rs5, Rp5, Rn5, R5, hdl, hpre, hstr, -, hf5⟩
            have HA5 := hide (HA4.out.run HR4.out hf5)
            have HR5 := hide R5
            have HP5 := hide (And.intro (hpre HP.out.1) (hstr HP.out.2))
            clear R5 hdl hpre hstr hf5 HS
            go_wp2
            go_roundw
            case rel => exact ⟨q + 1, wv5, nv5, D5, J5, Rs5, Rp5, Rn5, rows, by omega, by omega, by omega, by go_num, by rw [show 1 + (q + 1) = 1 + q + 1 by omega]; exact HR5.out, HP5.out.1, HP5.out.2, HA5.out⟩
            case measure => simp [intOf] <;> omega
          · have t0 : (kd == 0) = false := by simpa using hk0'
            have t1 : (kd == 1) = false := by simpa using hk1'
            clear hk0' hk1'
            go_wp2
            go_roundw
            case rel => exact ⟨q + 1, wv, nv, D, J, Rs, Rp, Rn, rows, by omega, by omega, by omega, by go_num, HR4.out.more (by omega) (by omega), HP.out.1, HP.out.2, HA4.out⟩
            case measure => simp [intOf] <;> omega
    · clear HN hA i0 z0 hi0 hz0 hzl hs0 hb0 hzs
      rcases (show ¬ q < N ∨ (q < N ∧ ¬ q < 60) by omega) with hx1 | hx1
      all_goals
        clear hlt
        go_wp2_with fail
        go_loopw [14] (fun i wr => ∃ (n : Nat) (wv nv : Value) (D : DSt) (J : JSt) (Rs Rp Rn : List (List UInt8)), meas J + n ≤ 7 ∧ i = .int .i64 n ∧ JRun w wr d bl j 14 (61 + n) wv nv D J Rs Rp Rn (rows.map (·.l)) ∧ JStrict J ∧ AllAt w wr (.slice AA rows.length cpA) rows) (fun i _ => 10 - (intOf i).toNat)
        case atStart => exact ⟨0, wv, nv, D, J, Rs, Rp, Rn, by have := meas_le J; omega, rfl, HR.out.more (by omega) (by omega), HP.out.2, HALL.out⟩
        case round =>
          clear HR HALL HP
          obtain ⟨n, wv, nv, D, J, Rs, Rp, Rn, hme, rfl, R, hstr, hall⟩ := hrel
          have HR := hide R
          have HS := hide hstr
          have HALL := hide hall
          have HD1 := hide (run_done R)
          have HD2 := hide (run_all R)
          clear R hstr hall
          by_cases hlt : J.done < J.all
          · have HST := hide (run_step_some HR.out (by omega) (HR.out.ja.some_left hlt))
            have t1 : decide (J.done < J.all) = true := by simpa using hlt
            have t2 : decide ((n : Int) < 10) = true := by simp; omega
            clear hlt
            go_wp2_with (first
              | (go_at_call 51; refine HD1.out.mono ?_; rintro e w' ⟨rfl, rfl⟩)
              | (go_at_call 52; refine HD2.out.mono ?_; rintro e w' ⟨rfl, rfl⟩))
            refine HST.out.mono ?_
            rintro e w5 ⟨⟨st, rfl⟩, ⟨wv', nv', D', J', Rs', Rp', Rn', g1, g2, g3, g4, g5, g6, g7, g8⟩, gf⟩
            have HN := hide (And.intro g1 (And.intro g3 (g5 HS.out)))
            have HA5 := hide (HALL.out.run HR.out gf)
            clear g1 g2 g3 g4 g5 g6 g7 g8 gf HST t1 t2
            go_wp2
            go_roundw
            case rel => exact ⟨n + 1, wv', nv', D', J', Rs', Rp', Rn', by have := HN.out.2.1; omega, by go_num, by rw [show 61 + (n + 1) = 61 + n + 1 by omega]; exact HN.out.1, HN.out.2.2, HA5.out⟩
            case measure => simp [intOf] <;> omega
          · have hrn := HR.out.ja.sure_all hlt
            have hs0 : J.stage = 0 := by
              refine Classical.byContradiction fun h => ?_
              have h1 := HS.out h
              have h2 := (HR.out.ja.cont.c1 h).2.1
              omega
            have hm : J.stage = 0 ∧ J.next.length = 0 := ⟨hs0, HR.out.ja.next_nil.2 hrn⟩
            have hA0 : Rs = rows.map (·.l) := by have := (HR.out.ja.cont.c0 hs0).1; rw [hrn, List.append_nil] at this; exact this.symm
            have HST := hide (run_step_none HR.out hm)
            have HCR := hide (run_crash HR.out K kn kc ks hK hkn)
            have HX := hide (And.intro hs0 hA0)
            have t1 : decide (J.done < J.all) = false := by simpa using hlt
            clear hlt hrn hm hA0 hs0
            go_wp2_with (first
              | (go_at_call 51; refine HD1.out.mono ?_; rintro e w' ⟨rfl, rfl⟩)
              | (go_at_call 52; refine HD2.out.mono ?_; rintro e w' ⟨rfl, rfl⟩))
            refine HST.out.mono ?_
            rintro e w5 ⟨rfl, rfl⟩
            clear HST HD1 HD2 t1
            go_wp2_with fail
            refine HCR.out.mono ?_
            rintro e w6 ⟨rfl, hj6, gg, aa, ll, R, hdead, hRR, f6⟩
            have hR : R = rows.map (·.l) := by
              rcases hRR with h | h
              · rw [h, HX.out.2]
              · exact absurd h.1 (by rw [HX.out.1]; decide)
            have HJ6 := hide hj6
            have HA6 := hide (HALL.out.disk HR.out.dj.hD f6)
            have HOP := hide (dead_open hdead)
            clear HCR hdead hRR f6 HALL hj6
            go_wp2_with fail
            refine HOP.out.mono ?_
            rintro e w7 ⟨j7, v7, rows7, rfl, -, -, hrows7, hin7, hdead7, b7⟩
            have HA7 := hide (HA6.out.below b7)
            have HI7 := hide hin7
            have HJ7 := hide (HJ6.out.below b7 (Nat.le_refl _))
            obtain ⟨A7, cp7, rfl, hcp7, hmx7, -⟩ := own_shape hin7.own
            have HL7 := hide hdead7.low
            have HM7 := hide (hrows7.trans hR)
            clear HA6 HOP hin7 hdead7 b7 hrows7 hR HJ6
            go_wp2_with fail
            refine (alive14 _).mono ?_
            rintro e w11 ⟨rfl, b11⟩
            have hj11 := HJ7.out.below b11 (Nat.le_refl _)
            have hst := jstage_ok hj11
            rw [HX.out.1] at hst
            have HST := hide hst
            have hl11 := HL7.out.trans (b11.mono HL7.out.size)
            have htx := (HA7.out.below b11).texts hl11 rows.length
            rw [List.take_length] at htx
            have hs11 := same_rows w11 A7 AA rows7.length rows.length cp7 cpA rows7 rows rfl rfl (HI7.out.below b11).texts.2 htx.2.2.2
            have hsame : decide (rows7.map (·.l) = rows.map (·.l)) = true := by rw [HM7.out]; simp
            rw [hsame] at hs11
            have HS11 := hide hs11
            have HL11 := hide hl11
            have t2 : decide ((n : Int) ≤ 8) = true := by simp; omega
            clear hs11 hl11 hsame HI7 HA7 HL7 b11 hst hj11 HJ7 htx
            go_wp2_with (go_at_call 53; refine HST.out.mono ?_; rintro e w' ⟨rfl, rfl⟩)
            refine HS11.out.mono ?_
            rintro e w12 ⟨rfl, b12⟩
            go_wp2
            go_ret
            exact ⟨rfl, HL11.out.trans (b12.mono HL11.out.size)⟩
theorem four_any (w : World) (A : Option Addr) (N cA : Nat) (ops : List JOpM) (hN : ops.length = N) (hA : JOpsAt w A ops) (K : Option Addr) (kn kc : Nat) (ks : List Bool) (hkl : ks.length = kn) (oK : ks.length ≤ 9223372036854775807 ∧ SlAt w K kn (ks.map .bool)) :
    Calls Try.prog 19 #[.slice A N cA, .slice K kn kc] w fun e w' => e = .returned (.bool true) ∧ Below w.heap.size w w' :=
  four_core w A N cA ops hN hA K kn kc ks oK.2 (by omega)
end Go.Proofs.Ytnnhklembdaieaa
