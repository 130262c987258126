/- JournalBegins: the walk. -/
import Derived.Test.YtnnhklembdaieaaJouE
namespace Go.Proofs.Ytnnhklembdaieaa
open Go.RowKit
set_option linter.unusedSimpArgs false
set_option linter.unusedVariables false

set_option maxRecDepth 100000 in
set_option maxHeartbeats 6400000 in
theorem begins_core (w : World) (A : Option Addr) (N cA : Nat) (ops : List JOpM) (hN : ops.length = N) (hA : JOpsAt w A ops) (K : Option Addr) (kn kc : Nat) (ks : List Bool) (hK : SlAt w K kn (ks.map .bool)) (hkn : kn ≤ 9223372036854775807) :
    Calls Try.prog 20 #[.slice A N cA, .slice K kn kc] w fun e w' => e = .returned (.bool true) ∧ Below w.heap.size w w' := by
  have hlen := hA.1
  rw [hN] at hlen
  have HN := hide hN
  clear hN
  obtain ⟨i0, z0, hi0, hz0, hzl, hs0, hb0⟩ := infoN (show (Try.prog.info? 28).map (fun i => (i.size, i.bytes, i.zero.map (·.cells.toList))) = some (1, 24, some [.slice none 0 0]) by kernel_rfl)
  have hzs : z0.cells.size = 1 := by rw [← Array.length_toList, hzl]; rfl
  go_enter Try.func20, Try.ntmps20
  go_wp2_with fail
  refine (newE 30 w (by omega) (by omega)).mono ?_
  rintro e w1 ⟨d, bl, rfl, h1, b1⟩
  have HF := hide (run_format w w1 d bl 30 (by omega) (by omega) h1 b1)
  clear h1 b1
  go_wp2_with fail
  refine HF.out.mono ?_
  rintro e w2 ⟨j, rfl, R2⟩
  have HR2 := hide R2
  clear HF R2
  go_wp2_with fail
  go_loopw [9, 10] (fun av i wr => ∃ (q : Nat) (wv nv : Value) (D : DSt) (J : JSt) (Rs Rp Rn : List (List UInt8)) (rows : List RowM), q ≤ N ∧ q ≤ 60 ∧ rows.length ≤ q ∧ i = .int .i64 q ∧ JRun w wr d bl j 14 (1 + q) wv nv D J Rs Rp Rn (rows.map (·.l)) ∧ JPre J Rs (rows.map (·.l)) ∧ AllAt w wr av rows) (fun _ i _ => 60 - (intOf i).toNat)
  case atStart => exact ⟨0, _, _, _, _, _, _, _, [], by omega, by omega, by simp, rfl, HR2.out, (JAll.format 30 (by omega) (by omega)).2.1, AllAt.nil _ _⟩
  case round =>
    clear HR2
    obtain ⟨q, wv, nv, D, J, Rs, Rp, Rn, rows, hqN, hq60, hrq, rfl, R, hpre, hall⟩ := hrel
    have HR := hide R
    have HP := hide hpre
    have HALL := hide hall
    obtain ⟨AA, cpA, rfl, hcpA, hmxA, -⟩ := own_shape hall.own
    clear R hpre hall
    by_cases hlt : q < N ∧ q < 60
    · obtain ⟨hlt1, hlt2⟩ := hlt
      obtain ⟨g, o, rfl, hg, hops⟩ := hA.2 (by rw [HN.out]; omega)
      have hkl : q < ops.length := by rw [HN.out]; exact hlt1
      obtain ⟨m, hm⟩ : ∃ m, m = ops[q] := ⟨_, rfl⟩
      have hop := hops q hkl
      rw [← hm] at hop
      have hopr := (hop.below HR.out.low hg)
      have c0 := hopr.c0
      have c1 := hopr.c1
      have c2 := hopr.c2
      have c3 := hopr.c3
      have hk0 : (0 : Int) ≤ (q : Int) := by omega
      have hk1 : (q : Int) < (N : Int) := by omega
      have HOP := hide hop
      clear hops hkl hm hop hopr
      go_upto_region 12 with fail
      obtain ⟨kd, bA, bc, b, lA, lc, lrows, kA, kc, keep⟩ := m
      simp only at c0 c1 c2 c3 HOP
      obtain ⟨w3, hw3⟩ : ∃ w3, w3 = wr.alloc (.cells #[.int .i64 kd, .slice bA b.length bc, .slice lA lrows.length lc, .slice kA keep.length kc] 91) := ⟨_, rfl⟩
      obtain ⟨p, hp⟩ : ∃ p, p = wr.heap.size := ⟨_, rfl⟩
      have hb3 : Below wr.heap.size wr w3 := by rw [hw3]; exact (Below.refl _ _).alloc (Nat.le_refl _) _
      have kp : Blk w3 p 91 #[.int .i64 kd, .slice bA b.length bc, .slice lA lrows.length lc, .slice kA keep.length kc] := by rw [hw3, hp]; exact Blk.new wr _ _
      rw [← hw3, ← hp]
      have R3 := HR.out.below hb3
      have A3 := HALL.out.below hb3
      have HR3 := hide R3
      have HA3 := hide A3
      have y0 := kp.cell 0
      have y1 := kp.cell 1
      have y2 := kp.cell 2
      have y3 := kp.cell 3
      simp at y0 y1 y2 y3
      have HKP := hide kp
      have HG := hide (great_ok w3 kd bA b.length bc HOP.out.mb lA lrows.length lc lrows rfl (HOP.out.hl.below R3.low) (.slice kA keep.length kc) rfl)
      clear hw3 hp kp R3 A3 HR HALL c0 c1 c2 c3 hb3
      go_wp2_with fail
      refine HG.out.mono ?_
      rintro e w4 ⟨rfl, b4⟩
      have HR4 := hide (HR3.out.below b4)
      have HA4 := hide (HA3.out.below b4)
      have kp4 := HKP.out.below b4 HKP.out.lt
      have x0 := kp4.cell 0
      have x1 := kp4.cell 1
      simp at x0 x1
      have HKP4 := hide kp4
      clear HR3 HA3 kp4 HKP HG y0 y1 y2 y3 b4
      obtain ⟨gr, hgr⟩ : ∃ gr, gr = greatO b.length (lrows.map (·.l.length)) := ⟨_, rfl⟩
      rw [← hgr]
      cases gr
      rotate_left
      · clear hgr
        go_wp2_with fail
        refine (alive14 _).mono ?_
        rintro e w5 ⟨rfl, b5⟩
        clear x0 x1
        go_wp2
        go_ret
        exact ⟨rfl, HR4.out.low.trans (b5.mono HR4.out.low.size)⟩
      · have hbl : b.length ≤ 2100 := JOpM.notGreat (m := ⟨kd, bA, bc, b, lA, lc, lrows, kA, kc, keep⟩) hgr.symm
        clear hgr
        by_cases hk0' : kd = 0
        · subst hk0'
          have HAP := hide (run_append HR4.out (by omega) bA b.length bc b (HOP.out.hb.below HR4.out.low (Nat.le_refl _)) (by omega))
          obtain ⟨r1, hr1⟩ : ∃ r, r = (japp 14 J b).2.1 := ⟨_, rfl⟩
          obtain ⟨r2, hr2⟩ : ∃ r, r = (japp 14 J b).2.2 := ⟨_, rfl⟩
          rw [← hr1, ← hr2] at HAP
          have HR2 := hide hr2
          clear hr1 hr2
          go_wp2_with fail
          refine HAP.out.mono ?_
          rintro e w5 ⟨rfl, h5, hf5⟩
          have HA5 := hide (HA4.out.run HR4.out hf5)
          have hp4 := HR4.out.dj.above
          have kp5 := HKP4.out.fr hf5 (fun hd => by
            rcases hd with hd | hd
            · exact HR4.out.dj.hD.off HKP4.out (by decide) (by decide) (.inl (by decide)) hd
            · exact HR4.out.dj.hJ.off HKP4.out (by decide) (by decide) hd)
          have v1 : w5.cell? ⟨p, 1, none⟩ = some (.slice bA b.length bc) := (kp5.cell 1).trans rfl
          clear kp5 hf5 hp4 HAP HKP4 x0 x1
          rcases h5 with ⟨hrec, hfit, hje, nv5, R5⟩ | ⟨hne, hle, nv5, R5⟩
          · have hz : r2 = 0 := by rw [HR2.out, hje]
            subst hz
            have HP5 := hide ((HR4.out.ja.app (by omega) b hrec hfit).2.1 HP.out)
            have HR5 := hide R5
            clear R5 hje hrec hfit
            have hn1 : ∀ j u, [Value.slice bA b.length bc][j]? = some u → (w5.alloc (.cells #[.slice bA b.length bc] 28)).cell? ((⟨w5.heap.size, 0, none⟩ : Addr).add j) = some u := cell_one_new w5 _ 28
            have hsz5 : w.heap.size ≤ w5.heap.size := HR5.out.low.size
            go_wp2_with (at_builtin; refine wpList_append_own _ rfl _ _ 85 rfl w.heap.size 28 i0 _ 1 24 Try.underlying85 hi0 hz0 hs0 hb0 hzs (by omega) (.slice AA rows.length cpA) rows.length (rows.map fun r => .slice r.A r.l.length r.c) rfl (HA5.out.own.alloc _) ⟨w5.heap.size, 0, none⟩ 1 1 [.slice bA b.length bc] rfl rfl hn1 (by simp [Value.oneCell']) (by unfold maxLen; omega) (by omega) (by simp; omega) ?_; intro v6 w6 hown6 hgrow6 _)
            have f6 : Fr (fun k => (Value.slice AA rows.length cpA).ownBlock = some k) w5 w6 := ((Fr.refl _ w5).alloc _).grown hgrow6 (fun k hk => .inl hk)
            have hoff := HR5.out.offOwn HA5.out.own (by decide) (by decide) (by decide) (by decide) (by decide)
            have HR6 : Hid (JRun w w6 d bl j 14 (1 + q + 1) wv nv5 D (J.app b) Rs Rp (Rn ++ [b]) (List.map (fun x => x.l) rows ++ [b])) := hide ⟨⟨HR5.out.dj.hD.fr f6 (fun k hk hS => hoff k hS (.inl hk)), HR5.out.dj.hJ.fr f6 (fun k hk hS => hoff k hS (.inr hk)), HR5.out.dj.ok, HR5.out.dj.dl, HR5.out.dj.cnt⟩, HR5.out.ja, HR5.out.low.trans (f6.below hsz5 (fun k hk => (HA5.out.own.lt k hk).1)), HR5.out.hc⟩
            have HA6 : Hid (AllAt w w6 v6 (rows ++ [⟨bA, bc, b⟩])) := hide ⟨by rw [List.length_append, List.map_append]; exact hown6, fun r hr => by
              rcases List.mem_append.1 hr with hr | hr
              · exact HA5.out.each r hr
              · rw [List.mem_singleton.1 hr]; exact ⟨HOP.out.hb, HOP.out.mb⟩⟩
            clear hoff f6 hown6 hgrow6 hn1 v1
            go_wp2
            go_roundw
            case rel => exact ⟨q + 1, wv, nv5, D, _, Rs, Rp, _, rows ++ [⟨bA, bc, b⟩], by omega, by omega, by simp; omega, by go_num, by rw [List.map_append, show 1 + (q + 1) = 1 + q + 1 by omega]; exact HR6.out, by rw [List.map_append]; exact HP5.out, HA6.out⟩
            case measure => simp [intOf] <;> omega
          · have hz : ((r2 : Int) == 0) = false := by simpa using hne
            have HR5 := hide R5
            clear R5 hne hle
            go_wp2
            go_roundw
            case rel => exact ⟨q + 1, wv, nv5, D, J, Rs, Rp, Rn, rows, by omega, by omega, by omega, by go_num, HR5.out.more (by omega) (by omega), HP.out, HA5.out⟩
            case measure => simp [intOf] <;> omega
        · by_cases hk1' : kd = 1
          · subst hk1'
            have HS := hide (run_step HR4.out (by omega))
            clear hk0'
            go_wp2_with fail
            refine HS.out.mono ?_
            rintro e w5 ⟨st, er, rfl, wv5, nv5, D5, J5, Rs5, Rp5, Rn5, R5, hdl, hpre, -, -, hf5⟩
            have HA5 := hide (HA4.out.run HR4.out hf5)
            have HR5 := hide R5
            have HP5 := hide (hpre HP.out)
            clear R5 hdl hpre hf5 HS
            go_wp2
            go_roundw
            case rel => exact ⟨q + 1, wv5, nv5, D5, J5, Rs5, Rp5, Rn5, rows, by omega, by omega, by omega, by go_num, by rw [show 1 + (q + 1) = 1 + q + 1 by omega]; exact HR5.out, HP5.out, HA5.out⟩
            case measure => simp [intOf] <;> omega
          · by_cases hk2' : kd = 2
            · subst hk2'
              clear hk0' hk1'
              have htx := (HA4.out.texts HR4.out.low rows.length).2.2.2
              rw [List.take_length] at htx
              have HN4 := hide (run_anew HR4.out (by omega) AA rows.length cpA rows rfl htx (by omega))
              clear htx
              go_wp2_with fail
              refine HN4.out.mono ?_
              rintro e w5 ⟨er, rfl, h5, hf5⟩
              have HA5 := hide (HA4.out.run HR4.out hf5)
              have h5' : (er = 0 ∨ er = 5) ∧ ∃ wv nv D J Rs Rp Rn, JRun w w5 d bl j 14 (1 + (q + 1)) wv nv D J Rs Rp Rn (rows.map (·.l)) ∧ JPre J Rs (rows.map (·.l)) := by
                rcases h5 with ⟨he, hrec, wv', nv', D', J', Rs', h1, h2, h3, h4, h6⟩ | ⟨he, h5, wv', nv', h1⟩
                · exact ⟨.inl he, wv', nv', D', J', Rs', _, _, by rw [show 1 + (q + 1) = 1 + q + 1 by omega]; exact h1, h6 HP.out (by trivial)⟩
                · exact ⟨.inr (h5 HR4.out.ja.all_rec), wv', nv', D, J, Rs, Rp, Rn, h1.more (by omega) (by omega), HP.out⟩
              obtain ⟨her, wv5, nv5, D5, J5, Rs5, Rp5, Rn5, R5, P5⟩ := h5'
              have HR5 := hide (And.intro R5 P5)
              clear R5 P5 h5 hf5 HN4
              rcases her with rfl | rfl
              all_goals
                go_wp2
                go_roundw
                case rel => exact ⟨q + 1, wv5, nv5, D5, J5, Rs5, Rp5, Rn5, rows, by omega, by omega, by omega, by go_num, HR5.out.1, HR5.out.2, HA5.out⟩
                case measure => simp [intOf] <;> omega
            · have t0 : (kd == 0) = false := by simpa using hk0'
              have t1 : (kd == 1) = false := by simpa using hk1'
              have t2 : (kd == 2) = false := by simpa using hk2'
              clear hk0' hk1' hk2'
              go_wp2
              go_roundw
              case rel => exact ⟨q + 1, wv, nv, D, J, Rs, Rp, Rn, rows, by omega, by omega, by omega, by go_num, HR4.out.more (by omega) (by omega), HP.out, HA4.out⟩
              case measure => simp [intOf] <;> omega
    · have HCR := hide (run_crash HR.out K kn kc ks hK hkn)
      have HDN := hide (run_done HR.out)
      clear HN hA i0 z0 hi0 hz0 hzl hs0 hb0 hzs
      rcases (show ¬ q < N ∨ (q < N ∧ ¬ q < 60) by omega) with hx1 | hx1
      all_goals
        clear hlt
        go_wp2_with fail
        refine HDN.out.mono ?_
        rintro e w5 ⟨rfl, rfl⟩
        go_wp2_with fail
        refine HCR.out.mono ?_
        rintro e w6 ⟨rfl, -, gg, aa, ll, R, hdead, hRR, f6⟩
        have HB := hide (HR.out.ja.begins HP.out hRR)
        have HA6 := hide (HALL.out.disk HR.out.dj.hD f6)
        have HOP := hide (dead_open hdead)
        clear HCR HDN hdead hRR f6 HALL HP
        go_wp2_with fail
        refine HOP.out.mono ?_
        rintro e w7 ⟨j7, v7, rows7, rfl, -, -, hrows7, hin7, hdead7, b7⟩
        have HA7 := hide (HA6.out.below b7)
        have HI7 := hide hin7
        obtain ⟨A7, cp7, rfl, hcp7, hmx7, -⟩ := own_shape hin7.own
        obtain ⟨m7, hm7⟩ : ∃ m, m = rows7.length := ⟨_, rfl⟩
        have hRl : R.length = m7 := by rw [hm7, ← hrows7, List.length_map]
        have hb := HB.out
        rw [hRl, List.length_map] at hb
        have t1 : decide (m7 < J.done) = false := by simp; omega
        have t2 : decide (rows.length < m7) = false := by simp; omega
        have hm7c : m7 ≤ cpA := by omega
        have hsame : decide (rows7.map (·.l) = (rows.take m7).map (·.l)) = true := by
          rw [hrows7, List.map_take]; simpa using hb.2.2
        have HS := hide (same_rows w7 A7 AA m7 m7 cp7 cpA rows7 (rows.take m7) hm7.symm (by rw [List.length_take]; omega) (hin7.texts).2 ((HA7.out.texts hdead7.low m7).2.2.2))
        rw [hsame] at HS
        rw [← hm7]
        have HD7 := hide hdead7
        have HRO := hide hrows7
        have HM7 := hide hm7
        clear HA6 HOP hin7 hdead7 b7 hrows7 hb hsame hRl HB hm7
        go_wp2_with fail
        refine HS.out.mono ?_
        rintro e w8 ⟨rfl, b8⟩
        have HD8 := hide (HD7.out.below b8)
        have HI8 := hide (HI7.out.below b8)
        have HC8 := hide (dead_crash HD8.out K kn kc ks hK hkn)
        clear HS HD7 HI7 HA7 b8
        go_wp2_with fail
        refine HC8.out.mono ?_
        rintro e w9 ⟨rfl, hd9, f9⟩
        have HI9 := hide (HI8.out.disk HD8.out.hD f9)
        have HO9 := hide (dead_open hd9)
        clear HD8 HI8 HC8 hd9 f9
        go_wp2_with fail
        refine HO9.out.mono ?_
        rintro e w10 ⟨j10, v10, rows10, rfl, -, -, hrows10, hin10, hd10, b10⟩
        have HI10 := hide (HI9.out.below b10)
        have HI10' := hide hin10
        obtain ⟨A10, cp10, rfl, hcp10, hmx10, -⟩ := own_shape hin10.own
        have HL10 := hide hd10.low
        have HR10 := hide hrows10
        clear HO9 HI9 hin10 hd10 b10 hrows10
        go_wp2_with fail
        refine (alive14 _).mono ?_
        rintro e w11 ⟨rfl, b11⟩
        have hl11 := HL10.out.trans (b11.mono HL10.out.size)
        have hs11 := same_rows w11 A7 A10 m7 rows10.length cp7 cp10 rows7 rows10 HM7.out.symm rfl (HI10.out.below b11).texts.2 (HI10'.out.below b11).texts.2
        have hsame : decide (rows7.map (·.l) = rows10.map (·.l)) = true := by rw [HRO.out, HR10.out]; simp
        rw [hsame] at hs11
        have HS11 := hide hs11
        have HL11 := hide hl11
        clear hs11 hl11 hsame HI10 HI10' HL10 b11
        go_wp2_with fail
        refine HS11.out.mono ?_
        rintro e w12 ⟨rfl, b12⟩
        go_wp2
        go_ret
        exact ⟨rfl, HL11.out.trans (b12.mono HL11.out.size)⟩
theorem begins_any (w : World) (A : Option Addr) (N cA : Nat) (ops : List JOpM) (hN : ops.length = N) (hA : JOpsAt w A ops) (K : Option Addr) (kn kc : Nat) (ks : List Bool) (hkl : ks.length = kn) (oK : ks.length ≤ 9223372036854775807 ∧ SlAt w K kn (ks.map .bool)) :
    Calls Try.prog 20 #[.slice A N cA, .slice K kn kc] w fun e w' => e = .returned (.bool true) ∧ Below w.heap.size w w' :=
  begins_core w A N cA ops hN hA K kn kc ks oK.2 (by omega)
end Go.Proofs.Ytnnhklembdaieaa
