/- The document's disk: Read, Crash, Sync; lists of numbers compared. -/
import Derived.Test.YtnnhklembdaieaaRefB
namespace Go.Proofs.Ytnnhklembdaieaa
open Go.RowKit
set_option linter.unusedSimpArgs false
set_option linter.unusedVariables false

theorem readAt_none (i : Nat) : ∀ (l : List (Nat × List UInt8)) (d : List UInt8), (∀ p ∈ l, p.1 ≠ i) → readAt l i d = d
  | [], d, _ => rfl
  | p :: l, d, h => by
    have h1 : (if p.1 = i then p.2 else d) = d := if_neg (h p (by simp))
    have := readAt_none i l d (fun q hq => h q (by simp [hq]))
    simp only [readAt, List.foldl_cons, h1] at this ⊢
    exact this
theorem readAt_hit (l : List (Nat × List UInt8)) (i k : Nat) (hk : k < l.length) (d : List UInt8) (h : ∀ p ∈ l.drop (k + 1), p.1 ≠ i) (hp : l[k].1 = i) : readAt l i d = l[k].2 := by
  have e : l = l.take k ++ (l[k] :: l.drop (k + 1)) := by rw [← List.drop_eq_getElem_cons hk, List.take_append_drop]
  conv => lhs; rw [e]
  unfold readAt
  rw [List.foldl_append, List.foldl_cons, if_pos hp]
  exact readAt_none i _ _ h

theorem refRead_bad (w : World) (base x : Nat) (lv av tv : Value) (s : DSt) (h : RefAt w base x lv av tv s) (i : Int) (hi : ¬ (0 ≤ i ∧ i < s.l.length)) :
    Calls Try.prog 33 #[.pointer (some ⟨x, 0, none⟩), .int .i64 i] w fun e w' => e = .returned (.tuple #[.string ⟨#[]⟩, .int .i64 1]) ∧ w = w' := by
  obtain ⟨LA, lcap, rfl, hlc, hlm, hLA⟩ := own_shape h.hl
  have hc0 := h.hx.cell 0
  simp at hc0
  have hnum := h.ok.num
  obtain ⟨n, hn⟩ : ∃ n, s.l.length = n := ⟨_, rfl⟩
  rw [hn] at hc0 hnum hi
  clear hn
  by_cases h0 : i < 0
  · have h1 : decide (i < 0) = true := by simp [h0]
    go_enter Try.func33, Try.ntmps33
    go_wp2
    go_ret2
    exact ⟨rfl, rfl⟩
  · have h1 : decide (i < 0) = false := by simp; omega
    have h2 : decide (i ≥ (n : Int)) = true := by simp; omega
    clear h0 hi
    go_enter Try.func33, Try.ntmps33
    go_wp2
    go_ret2
    exact ⟨rfl, rfl⟩

set_option maxHeartbeats 400000 in
theorem refRead_ok (w : World) (base x : Nat) (lv av tv : Value) (s : DSt) (h : RefAt w base x lv av tv s) (i : Nat) (hi : i < s.l.length) :
    Calls Try.prog 33 #[.pointer (some ⟨x, 0, none⟩), .int .i64 (i : Int)] w fun e w' => e = .returned (.tuple #[strv (s.read i), .int .i64 0]) ∧ w = w' := by
  obtain ⟨LA, lcap, rfl, hlc, hlm, hLA⟩ := own_shape h.hl
  obtain ⟨AA, acap, rfl, hac, ham, hAA⟩ := own_shape h.ha
  obtain ⟨TA, tcap, rfl, htc, htm, hTA⟩ := own_shape h.ht
  have hc0 := h.hx.cell 0
  have hc1 := h.hx.cell 1
  have hc2 := h.hx.cell 2
  simp at hc0 hc1 hc2
  have hnum := h.ok.num
  have hcnt := h.ok.cnt.1
  obtain ⟨g, hge, hg1, hg2, hrg⟩ := hLA (by omega)
  have hli : w.cell? ⟨g, i, none⟩ = some (strv s.l[i]) := by
    have := hrg i (strv s.l[i]) (by rw [List.getElem?_map, List.getElem?_eq_getElem hi]; rfl)
    rwa [Nat.zero_add] at this
  have hre : s.read i = readAt s.waits i s.l[i] := by rw [DSt.read, List.getD_eq_getElem?_getD, List.getElem?_eq_getElem hi]; rfl
  rw [hre]
  obtain ⟨d, hd⟩ : ∃ d, d = s.l[i] := ⟨_, rfl⟩
  rw [← hd] at hli ⊢
  obtain ⟨N, hN⟩ : ∃ N, s.l.length = N := ⟨_, rfl⟩
  rw [hN] at hc0 hi hnum
  have HA := hide hAA
  have HTA := hide hTA
  clear hrg hAA hTA hd hre hN
  subst hge
  generalize hn : s.waits.length = n at *
  have HN := hide hn
  clear hn
  have h0 : ¬ (i : Int) < 0 := by omega
  have h2 : ¬ (i : Int) ≥ (N : Int) := by omega
  have hi1 : (0 : Int) ≤ (i : Int) := by omega
  have hi2 : (i : Int) < (N : Int) := by omega
  go_enter Try.func33, Try.ntmps33
  go_wp2_with fail
  go_loopw [6] (fun c wr => ∃ k : Nat, k ≤ n ∧ c = .int .i64 ((k : Int) - 1) ∧ (∀ p ∈ s.waits.drop k, p.1 ≠ i) ∧ w = wr) (fun c _ => (intOf c + 1).toNat)
  case atStart => exact ⟨n, Nat.le_refl _, rfl, by rw [List.drop_eq_nil_of_le (by rw [HN.out]; omega)]; simp, rfl⟩
  case round =>
    obtain ⟨k, hk, rfl, hno, rfl⟩ := hrel
    by_cases hlt : 0 < k
    · obtain ⟨j, rfl⟩ : ∃ j, k = j + 1 := ⟨k - 1, by omega⟩
      have hjn : j < s.waits.length := by rw [HN.out]; omega
      obtain ⟨ga, rfl, ha1, ha2, hra⟩ := HA.out (by omega)
      obtain ⟨gt, rfl, ht1, ht2, hrt⟩ := HTA.out (by omega)
      obtain ⟨p, hp⟩ : ∃ p, p = s.waits[j] := ⟨_, rfl⟩
      have hca : w.cell? ⟨ga, j, none⟩ = some (.int .i64 (p.1 : Int)) := by
        have := hra j (.int .i64 (p.1 : Int)) (by rw [List.getElem?_map, List.getElem?_eq_getElem hjn, hp]; rfl)
        rwa [Nat.zero_add] at this
      have hct : w.cell? ⟨gt, j, none⟩ = some (strv p.2) := by
        have := hrt j (strv p.2) (by rw [List.getElem?_map, List.getElem?_eq_getElem hjn, hp]; rfl)
        rwa [Nat.zero_add] at this
      have e1 : ((j + 1 : Nat) : Int) - 1 = (j : Int) := by omega
      rw [e1]
      have hj0 : (0 : Int) ≤ (j : Int) := by omega
      have hj1 : (j : Int) < (n : Int) := by omega
      have HP := hide hp
      have HNO := hide hno
      clear hp hra hrt hno e1
      by_cases hat : p.1 = i
      · have hta : ((p.1 : Int) == (i : Int)) = true := by rw [beqNat]; simp [hat]
        go_wp2
        go_ret2
        have := readAt_hit s.waits i j hjn d HNO.out (by rw [← HP.out]; exact hat)
        rw [this, ← HP.out]
        exact ⟨rfl, rfl⟩
      · have hta : ((p.1 : Int) == (i : Int)) = false := by rw [beqNat]; simp [hat]
        go_wp2
        go_roundw
        case rel => exact ⟨j, by omega, by go_num, by
          rw [List.drop_eq_getElem_cons hjn]
          intro q hq
          rcases List.mem_cons.1 hq with e | e
          · rw [e, ← HP.out]; exact hat
          · exact HNO.out q e, trivial⟩
        case measure => simp [intOf] <;> omega
    · obtain rfl : k = 0 := by omega
      have HNO := hide hno
      clear hno
      go_wp2
      go_ret2
      have := readAt_none i s.waits d (by simpa using HNO.out)
      rw [this]
      exact ⟨rfl, rfl⟩

set_option maxHeartbeats 400000 in
theorem same_ok (w : World) (A B : Option Addr) (ca cb : Nat) (xs : List Int) (ha : SlAt w A xs.length (xs.map (.int .i64))) (hb : SlAt w B xs.length (xs.map (.int .i64))) (hn : xs.length ≤ 9223372036854775807) :
    Calls Try.prog 35 #[.slice A xs.length ca, .slice B xs.length cb] w fun e w' => e = .returned (.bool true) ∧ ∃ n, w.drewN n = w' := by
  obtain ⟨n, hnn⟩ : ∃ n, xs.length = n := ⟨_, rfl⟩
  rw [hnn] at ha hb hn ⊢
  have HN := hide hnn
  clear hnn
  have h0 : ((n : Int) != (n : Int)) = false := by simp
  go_enter Try.func35, Try.ntmps35
  go_wp2_with fail
  go_loopw [5] (fun c wr => ∃ k m : Nat, k ≤ n ∧ c = .int .i64 k ∧ w.drewN m = wr) (fun c _ => n - (intOf c).toNat)
  case atStart => exact ⟨0, 0, by omega, rfl, rfl⟩
  case round =>
    obtain ⟨k, m, hk, rfl, rfl⟩ := hrel
    by_cases hlt : k < n
    · obtain ⟨ga, oa, rfl, ga2, hra⟩ := ha.2 (by omega)
      obtain ⟨gb, ob, rfl, gb2, hrb⟩ := hb.2 (by omega)
      have hkx : k < xs.length := by rw [HN.out]; exact hlt
      have c1 : ∀ m, (w.drewN m).cell? ⟨ga, oa + k, none⟩ = some (.int .i64 xs[k]) := fun m => hra k _ (by rw [List.getElem?_map, List.getElem?_eq_getElem hkx]; rfl)
      have c2 : ∀ m, (w.drewN m).cell? ⟨gb, ob + k, none⟩ = some (.int .i64 xs[k]) := fun m => hrb k _ (by rw [List.getElem?_map, List.getElem?_eq_getElem hkx]; rfl)
      obtain ⟨v, hv⟩ : ∃ v, v = xs[k] := ⟨_, rfl⟩
      rw [← hv] at c1 c2
      clear hv hra hrb
      have hvv : (v != v) = false := by simp
      have hk1 : (0 : Int) ≤ (k : Int) := by omega
      have hk2 : (k : Int) < (n : Int) := by omega
      go_wp2_with fail
      go_quiet (fail)
      go_wp2
      go_roundw
      case rel => exact ⟨k + 1, _, by omega, by go_num, rfl⟩
      case measure => simp [intOf]; omega
    · obtain rfl : k = n := by omega
      go_wp2
      go_ret
      exact ⟨rfl, _, rfl⟩
end Go.Proofs.Ytnnhklembdaieaa
