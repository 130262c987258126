/- The document's disk: Crash, Sync. -/
import Derived.Test.YtnnhklembdaieaaRefC
namespace Go.Proofs.Ytnnhklembdaieaa
open Go.RowKit
set_option linter.unusedSimpArgs false
set_option linter.unusedVariables false

set_option maxRecDepth 100000 in
set_option maxHeartbeats 1600000 in
theorem refCrash_ok (w : World) (base x : Nat) (lv av tv : Value) (s : DSt) (h : RefAt w base x lv av tv s) (hpos : 0 < s.l.length) (K : Option Addr) (kn kc : Nat) (al : Bool) (ks ks' : List Bool) (hks : SlAt w K kn (ks.map .bool)) (hkb : ∀ a, K = some a → 0 < kn → lv.ownBlock ≠ some a.block) (hkm : kn ≤ 9223372036854775807)
    (hk' : ∀ k, k < s.waits.length → ks'.getD k false = (al || ks.getD k false)) :
    Calls Try.prog 32 #[.pointer (some ⟨x, 0, none⟩), .slice K kn kc, .bool al] w fun e w' => e = .returned (.tuple #[]) ∧ RefAt w' base x lv (.slice none 0 0) (.slice none 0 0) (s.crash ks') ∧ Fr (rfoot x lv av tv) w w' := by
  obtain ⟨LA, lcap, hlv, hlc, hlm, hLA⟩ := own_shape h.hl
  obtain ⟨AA, acap, rfl, hac, ham, hAA⟩ := own_shape h.ha
  obtain ⟨TA, tcap, rfl, htc, htm, hTA⟩ := own_shape h.ht
  obtain ⟨g, rfl, hg1, hg2, _⟩ := hLA hpos
  subst hlv
  have hc0 := h.hx.cell 0
  have hc1 := h.hx.cell 1
  have hc2 := h.hx.cell 2
  simp at hc0 hc1 hc2
  have hxg : x ≠ g := fun e => own_ne h.hl h.hx (by decide) (by rw [e]; rfl)
  have hxl := h.hx.lt
  have hnum := h.ok.num
  have hwat := h.ok.wat
  have hsec := h.ok.sec
  have hcnt := h.ok.cnt.1
  have hl0 := h.hl
  have hga := own_own h.ha h.hl (by decide)
  have hgt : ∀ k, (Value.slice TA s.waits.length tcap).ownBlock = some k → k ≠ g := fun k hk e => h.ne g rfl (e ▸ hk)
  have H := hide h
  have HA := hide hAA
  have HTA := hide hTA
  clear h hAA hTA hLA
  obtain ⟨N, hN⟩ : ∃ N, s.l.length = N := ⟨_, rfl⟩
  rw [hN] at hc0 hnum hlc hl0 hpos
  generalize hn : s.waits.length = n at *
  have HN := hide hn
  have HNN := hide hN
  clear hn hN
  go_enter Try.func32, Try.ntmps32
  go_wp2_with fail
  go_loopw [6] (fun c wr => ∃ k : Nat, k ≤ n ∧ c = .int .i64 k ∧ wr.ownsRow base 9 1 (.slice (some ⟨g, 0, none⟩) N lcap) N ((doneKeep s.l (s.waits.take k) ks').map strv) ∧ Fr (fun k => k = g) w wr) (fun c _ => n - (intOf c).toNat)
  case atStart => exact ⟨0, Nat.zero_le _, rfl, by simpa [doneKeep] using hl0, Fr.refl _ _⟩
  case round =>
    obtain ⟨k, hk, rfl, hown, hfr⟩ := hrel
    have hd0 : wr.drew.cell? ⟨x, 0, none⟩ = some (.slice (some ⟨g, 0, none⟩) N lcap) := (hfr.cell (p := ⟨x, 0, none⟩) hxl hxg).trans hc0
    have hd1 : wr.drew.cell? ⟨x, 1, none⟩ = some (.slice AA n acap) := (hfr.cell (p := ⟨x, 1, none⟩) hxl hxg).trans hc1
    have hd2 : wr.drew.cell? ⟨x, 2, none⟩ = some (.slice TA n tcap) := (hfr.cell (p := ⟨x, 2, none⟩) hxl hxg).trans hc2
    have hd1' : wr.cell? ⟨x, 1, none⟩ = some (.slice AA n acap) := hd1
    by_cases hlt : k < n
    · have hkn : k < s.waits.length := by rw [HN.out]; exact hlt
      obtain ⟨p, hp⟩ : ∃ p, p = s.waits[k] := ⟨_, rfl⟩
      have hpw := hwat p (by rw [hp]; exact List.getElem_mem hkn)
      obtain ⟨ga, rfl, ha1, ha2, hra⟩ := HA.out (by omega)
      obtain ⟨gt, rfl, ht1, ht2, hrt⟩ := HTA.out (by omega)
      have hgag : ga ≠ g := by
        rcases hga with e | e
        · simp [Value.ownBlock] at e
        · simpa [Value.ownBlock] using e
      have hgtg : gt ≠ g := hgt gt rfl
      have hca : wr.drew.cell? ⟨ga, k, none⟩ = some (.int .i64 (p.1 : Int)) := by
        have := hra k (.int .i64 (p.1 : Int)) (by rw [List.getElem?_map, List.getElem?_eq_getElem hkn, hp]; rfl)
        rw [Nat.zero_add] at this
        exact (hfr.cell (p := ⟨ga, k, none⟩) ha2 hgag).trans this
      have hct : wr.drew.cell? ⟨gt, k, none⟩ = some (strv p.2) := by
        have := hrt k (strv p.2) (by rw [List.getElem?_map, List.getElem?_eq_getElem hkn, hp]; rfl)
        rw [Nat.zero_add] at this
        exact (hfr.cell (p := ⟨gt, k, none⟩) ht2 hgtg).trans this
      have hk0 : (0 : Int) ≤ (k : Int) := by omega
      have hk1 : (k : Int) < (n : Int) := by omega
      have hp0 : (0 : Int) ≤ (p.1 : Int) := by omega
      have hp1 : (p.1 : Int) < (N : Int) := by have := HNN.out; omega
      have hLl : (doneKeep s.l (s.waits.take k) ks').length = N := by rw [doneKeep_length]; exact HNN.out
      obtain ⟨old, hold⟩ : ∃ old, wr.cell? ⟨g, p.1, none⟩ = some old := by
        have := hown.cellAt p.1 (by omega)
        rw [this, List.getElem?_map, List.getElem?_eq_getElem (by rw [hLl]; omega)]
        exact ⟨_, rfl⟩
      have hkk := hk' k hlt
      have HP := hide hp
      clear hp hra hrt hLl
      cases al with
      | true =>
        have HKT := hide (p := ks'.getD k false = true) (by rw [hkk]; rfl)
        clear hkk
        have hwn : wr.drew.ownsRow base 9 1 (.slice (some ⟨g, 0, none⟩) N lcap) N ((doneKeep s.l (s.waits.take k) ks').map strv) := hown
        have hcg : wr.drew.cell? ⟨g, p.1, none⟩ = some old := hold
        have hfg : wr.drew.frozen? ⟨g, p.1, none⟩ = false := hown.frozenAt p.1
        go_wp2_with fail
        refine wp_region_held 19 (fun w' => w'.cell? ⟨x, 0, none⟩ = some (.slice (some ⟨g, 0, none⟩) N lcap) ∧ w'.cell? ⟨x, 1, none⟩ = some (.slice (some ⟨ga, 0, none⟩) n acap) ∧ w'.cell? ⟨x, 2, none⟩ = some (.slice (some ⟨gt, 0, none⟩) n tcap) ∧ w'.cell? ⟨ga, k, none⟩ = some (.int .i64 (p.1 : Int)) ∧ w'.cell? ⟨gt, k, none⟩ = some (.string (bs p.2))) (fun _ => false) (by kernel_rfl) (by kernel_rfl) ⟨hd0, hd1, hd2, hca, hct⟩ (fun ops hops F hF => ?_)
        clear hops
        simp only [List.take_succ_cons, List.take_zero, List.drop_succ_cons, List.drop_zero] at hF ⊢
        iterate 19 (refine held_q rfl rfl ?_; apply Exists.intro; refine ⟨fun w' hw' => ?_, ?_⟩; (obtain ⟨q1, q2, q3, q4, q5⟩ := hw'; go_simp; rfl); simp only [Act.put, List.setIfInBounds_toArray, List.set_cons_zero, List.set_cons_succ, Nat.reduceAdd])
        refine held_nil (hF _ _ ?_)
        clear hF F
        go_wp2
        go_roundw
        case rel => exact ⟨k + 1, by omega, by go_num, by
            rw [take_snoc _ _ hkn, doneKeep_snoc, ← HP.out, List.length_take, Nat.min_eq_left (Nat.le_of_lt hkn), if_pos HKT.out, List.map_set]
            exact (hwn.stored p.1 (strv p.2)).1, (hfr.drew).setCell (p := ⟨g, p.1, none⟩) (.inl rfl) _⟩
        case measure => simp [intOf] <;> omega
      | false =>
        by_cases hkl : k < kn
        · obtain ⟨kb, ko, rfl, hkl2, hkr⟩ := hks.2 (by omega)
          have hkg : kb ≠ g := fun e => hkb ⟨kb, ko, none⟩ rfl (by omega) (by rw [e]; rfl)
          have hksl : k < ks.length := by have := hks.1; simp at this; omega
          obtain ⟨kq, hkq⟩ : ∃ kq, kq = ks[k] := ⟨_, rfl⟩
          have hcell : wr.cell? ⟨kb, ko + k, none⟩ = some (.bool kq) := by
            refine (hfr.cell (p := ⟨kb, ko + k, none⟩) hkl2 hkg).trans (hkr k _ ?_)
            rw [List.getElem?_map, List.getElem?_eq_getElem hksl, hkq]; rfl
          have hgd : ks.getD k false = kq := by rw [List.getD_eq_getElem?_getD, List.getElem?_eq_getElem hksl, hkq]; rfl
          rw [hgd] at hkk
          clear hkr hkq hgd
          cases kq with
          | true =>
            have HKT := hide (p := ks'.getD k false = true) (by rw [hkk]; rfl)
            clear hkk
            have hwn : wr.drew.ownsRow base 9 1 (.slice (some ⟨g, 0, none⟩) N lcap) N ((doneKeep s.l (s.waits.take k) ks').map strv) := hown
            have hcg : wr.drew.cell? ⟨g, p.1, none⟩ = some old := hold
            have hfg : wr.drew.frozen? ⟨g, p.1, none⟩ = false := hown.frozenAt p.1
            go_wp2_with fail
            refine wp_region_held 19 (fun w' => w'.cell? ⟨x, 0, none⟩ = some (.slice (some ⟨g, 0, none⟩) N lcap) ∧ w'.cell? ⟨x, 1, none⟩ = some (.slice (some ⟨ga, 0, none⟩) n acap) ∧ w'.cell? ⟨x, 2, none⟩ = some (.slice (some ⟨gt, 0, none⟩) n tcap) ∧ w'.cell? ⟨ga, k, none⟩ = some (.int .i64 (p.1 : Int)) ∧ w'.cell? ⟨gt, k, none⟩ = some (.string (bs p.2))) (fun _ => false) (by kernel_rfl) (by kernel_rfl) ⟨hd0, hd1, hd2, hca, hct⟩ (fun ops hops F hF => ?_)
            clear hops
            simp only [List.take_succ_cons, List.take_zero, List.drop_succ_cons, List.drop_zero] at hF ⊢
            iterate 19 (refine held_q rfl rfl ?_; apply Exists.intro; refine ⟨fun w' hw' => ?_, ?_⟩; (obtain ⟨q1, q2, q3, q4, q5⟩ := hw'; go_simp; rfl); simp only [Act.put, List.setIfInBounds_toArray, List.set_cons_zero, List.set_cons_succ, Nat.reduceAdd])
            refine held_nil (hF _ _ ?_)
            clear hF F
            go_wp2
            go_roundw
            case rel => exact ⟨k + 1, by omega, by go_num, by
                rw [take_snoc _ _ hkn, doneKeep_snoc, ← HP.out, List.length_take, Nat.min_eq_left (Nat.le_of_lt hkn), if_pos HKT.out, List.map_set]
                exact (hwn.stored p.1 (strv p.2)).1, (hfr.drew).setCell (p := ⟨g, p.1, none⟩) (.inl rfl) _⟩
            case measure => simp [intOf] <;> omega
          | false =>
            have HKT := hide (p := ¬ ks'.getD k false = true) (by rw [hkk]; decide)
            clear hkk
            go_wp2
            go_roundw
            case rel => exact ⟨k + 1, by omega, by go_num, by
                rw [take_snoc _ _ hkn, doneKeep_snoc, ← HP.out, List.length_take, Nat.min_eq_left (Nat.le_of_lt hkn), if_neg HKT.out]
                exact hown, hfr⟩
            case measure => simp [intOf] <;> omega
        · have hgd : ks.getD k false = false := by
            have : ks.length ≤ k := by have := hks.1; simp at this; omega
            rw [List.getD_eq_getElem?_getD, List.getElem?_eq_none this]; rfl
          have HKT := hide (p := ¬ ks'.getD k false = true) (by rw [hkk, hgd]; decide)
          clear hkk hgd
          go_wp2
          go_roundw
          case rel => exact ⟨k + 1, by omega, by go_num, by
              rw [take_snoc _ _ hkn, doneKeep_snoc, ← HP.out, List.length_take, Nat.min_eq_left (Nat.le_of_lt hkn), if_neg HKT.out]
              exact hown, hfr⟩
          case measure => simp [intOf] <;> omega
    · obtain rfl : k = n := by omega
      have hxb := H.out.hx.fr hfr hxg
      have hm1 := hxb.frozen 1
      have hm2 : ∀ U, (wr.setCell ⟨x, 1, none⟩ U).frozen? ⟨x, 2, none⟩ = false := fun U => by rw [World.frozen?_setCell]; exact hxb.frozen 2
      have hq2 : ∀ U, (wr.setCell ⟨x, 1, none⟩ U).cell? ⟨x, 2, none⟩ = some (.slice TA k tcap) := fun U => by rw [World.cell?_setCell_other _ _ _ _ (by simp)]; exact hd2
      rw [List.take_of_length_le (by rw [HN.out]; omega)] at hown
      have HOW := hide hown
      clear hown hd0 hd1 hd2
      go_wp2
      go_end0
      have h1 : Fr (fun k => k = x) wr ((wr.setCell ⟨x, 1, none⟩ (.slice none 0 0)).setCell ⟨x, 2, none⟩ (.slice none 0 0)) := ((Fr.refl (fun k => k = x) wr).setCell (p := ⟨x, 1, none⟩) (.inl rfl) _).setCell (p := ⟨x, 2, none⟩) (.inl rfl) _
      have hlen : (doneKeep s.l s.waits ks').length = N := by rw [doneKeep_length]; exact HNN.out
      have hcn := H.out.ok.cnt
      refine ⟨rfl, ⟨⟨doneKeep_sec _ _ _ hsec (fun p hp => (hwat p hp).2), by simp [DSt.crash], by simp only [DSt.crash, hlen]; exact hnum, by simp only [DSt.crash, List.length_nil]; omega⟩, ?_, ?_, World.ownsRow_nil _ _ _ _, World.ownsRow_nil _ _ _ _, fun _ _ e => by simp [Value.ownBlock] at e, H.out.bx⟩, ?_⟩
      · have := (hxb.set_ 1 (.slice none 0 0)).set_ 2 (.slice none 0 0)
        simpa [DSt.crash] using this
      · have := Fr.own HOW.out h1 (fun k hk e => by simp [Value.ownBlock] at hk; omega)
        rw [HNN.out]
        simp only [DSt.crash, hlen]
        exact this
      · have hf2 : Fr (rfoot x (.slice (some ⟨g, 0, none⟩) s.l.length lcap) (.slice AA k acap) (.slice TA k tcap)) w wr := hfr.mono (fun k e => by rw [e]; exact .inr (.inl rfl))
        exact (hf2.setCell (p := ⟨x, 1, none⟩) (.inl (.inl rfl)) _).setCell (p := ⟨x, 2, none⟩) (.inl (.inl rfl)) _

theorem refSync_ok (w : World) (base x : Nat) (lv av tv : Value) (s : DSt) (h : RefAt w base x lv av tv s) (hpos : 0 < s.l.length) (hcs : s.syncs < 1000000000000) :
    Calls Try.prog 31 #[.pointer (some ⟨x, 0, none⟩)] w fun e w' => e = .returned (.tuple #[]) ∧ RefAt w' base x lv (.slice none 0 0) (.slice none 0 0) s.sync ∧ Fr (rfoot x lv av tv) w w' := by
  have hc := refCrash_ok w base x lv av tv s h hpos none 0 0 true [] (List.replicate s.waits.length true) (SlAt.nil _ _) (fun a h _ => by cases h) (by omega) (fun k hk => by simp [hk])
  go_enter Try.func31, Try.ntmps31
  go_wp2_with fail
  refine hc.mono ?_
  rintro e w1 ⟨rfl, h1, f1⟩
  have hk4 := h1.hx.cell 4
  have hf4 := h1.hx.frozen 4
  simp [DSt.crash] at hk4
  go_wp2
  go_end0
  have e1 : (s.crash (List.replicate s.waits.length true)) = ⟨doneAll s.l s.waits, [], s.writes, s.syncs⟩ := by simp [DSt.crash, doneKeep_all]
  rw [e1] at h1
  have hf : Fr (fun k => k = x) w1 (w1.setCell ⟨x, 4, none⟩ (.int .i64 ((s.syncs : Int) + 1))) := (Fr.refl (fun k => k = x) w1).setCell (p := ⟨x, 4, none⟩) (.inl rfl) _
  refine ⟨rfl, ⟨⟨h1.ok.sec, h1.ok.wat, h1.ok.num, ?_⟩, ?_, ?_, World.ownsRow_nil _ _ _ _, World.ownsRow_nil _ _ _ _, fun _ _ e => by simp [Value.ownBlock] at e, h.bx⟩, f1.setCell (p := ⟨x, 4, none⟩) (.inl (.inl rfl)) _⟩
  · have := h1.ok.cnt
    simp only [DSt.sync] at this ⊢
    omega
  · have := h1.hx.set_ 4 (.int .i64 ((s.syncs : Int) + 1))
    simpa [DSt.sync] using this
  · exact Fr.own h1.hl hf (fun k hk e => own_ne h1.hl h1.hx (by decide) (e ▸ hk))
end Go.Proofs.Ytnnhklembdaieaa
