/- The area's plain laws: bytes of a disk by their places; what is put, what is got. No walk. -/
import Derived.Test.YtnnhklembdaieaaLawA
namespace Go.Proofs.Ytnnhklembdaieaa
open Go.RowKit
set_option linter.unusedSimpArgs false
set_option linter.unusedVariables false

/-- the byte at place q of a disk, as it is read. -/
def DSt.byteAt (s : DSt) (q : Nat) : UInt8 := (s.read (q / 128)).getD (q % 128) 0
/-- n bytes from place q on. -/
def DSt.seg (s : DSt) (q n : Nat) : List UInt8 := (List.range n).map fun j => s.byteAt (q + j)
theorem seg_length (s : DSt) (q n : Nat) : (s.seg q n).length = n := by simp [DSt.seg]
theorem seg_zero (s : DSt) (q : Nat) : s.seg q 0 = [] := rfl
theorem seg_at (s : DSt) (q n j : Nat) (h : j < (s.seg q n).length) : (s.seg q n)[j] = s.byteAt (q + j) := by simp [DSt.seg]
theorem seg_add (s : DSt) (q m n : Nat) : s.seg q (m + n) = s.seg q m ++ s.seg (q + m) n := by
  apply List.ext_getElem
  · simp [seg_length]
  · intro j h1 h2
    rw [seg_at]
    by_cases hj : j < m
    · rw [List.getElem_append_left (by rw [seg_length]; exact hj), seg_at]
    · rw [List.getElem_append_right (by rw [seg_length]; omega), seg_at, seg_length]
      congr 1; omega
/-- a piece of a sector. -/
theorem seg_sector {s : DSt} (hok : s.Ok) (i r k : Nat) (hi : i < s.l.length) (hk : r + k ≤ 128) : ((s.read i).drop r).take k = s.seg (i * 128 + r) k := by
  have hl := DSt.read_length hok hi
  apply List.ext_getElem
  · rw [List.length_take, List.length_drop, hl, seg_length]; omega
  · intro j h1 h2
    rw [seg_length] at h2
    rw [seg_at, List.getElem_take, List.getElem_drop]
    unfold DSt.byteAt
    rw [show (i * 128 + r + j) / 128 = i by omega, show (i * 128 + r + j) % 128 = r + j by omega, List.getD_eq_getElem?_getD, List.getElem?_eq_getElem (by omega)]
    rfl

/-- x with other bytes from r on. -/
def over (x : List UInt8) (r : Nat) (b : List UInt8) : List UInt8 := x.take r ++ (b ++ x.drop (r + b.length))
theorem over_length (x : List UInt8) (r : Nat) (b : List UInt8) (h : r + b.length ≤ x.length) : (over x r b).length = x.length := by unfold over; simp; omega
theorem over_getD (x : List UInt8) (r : Nat) (b : List UInt8) (h : r + b.length ≤ x.length) (j : Nat) : (over x r b).getD j 0 = if r ≤ j ∧ j < r + b.length then b.getD (j - r) 0 else x.getD j 0 := by
  unfold over
  have h0 : (x.take r).length = r := by simp; omega
  simp only [List.getD_eq_getElem?_getD]
  by_cases h1 : j < r
  · rw [List.getElem?_append_left (by omega), List.getElem?_take_of_lt h1, if_neg (by omega)]
  · rw [List.getElem?_append_right (by omega), h0]
    by_cases h2 : j - r < b.length
    · rw [List.getElem?_append_left h2, if_pos (by omega)]
    · rw [List.getElem?_append_right (by omega), List.getElem?_drop, if_neg (by omega)]
      congr 2; omega

/-- one step of Put. -/
def DSt.put1 (s : DSt) (q : Nat) (b : List UInt8) : DSt := s.write (q / 128) (over (s.read (q / 128)) (q % 128) (b.take (128 - q % 128)))
def putF : Nat → DSt → Nat → List UInt8 → DSt
  | 0, s, _, _ => s
  | f + 1, s, q, b => if b = [] then s else putF f (s.put1 q b) (q + min b.length (128 - q % 128)) (b.drop (min b.length (128 - q % 128)))
/-- what Put leaves: b from place q on. -/
def DSt.put (s : DSt) (q : Nat) (b : List UInt8) : DSt := putF b.length s q b
theorem putF_nil (f : Nat) (s : DSt) (q : Nat) : putF f s q [] = s := by cases f <;> simp [putF]
theorem putF_more : ∀ (f g : Nat) (s : DSt) (q : Nat) (b : List UInt8), b.length ≤ f → b.length ≤ g → putF f s q b = putF g s q b
  | 0, g, s, q, b, h, _ => by
    have : b = [] := List.eq_nil_of_length_eq_zero (by omega)
    subst this
    rw [putF_nil, putF_nil]
  | f + 1, 0, s, q, b, _, h => by
    have : b = [] := List.eq_nil_of_length_eq_zero (by omega)
    subst this
    rw [putF_nil, putF_nil]
  | f + 1, g + 1, s, q, b, h1, h2 => by
    unfold putF
    by_cases hb : b = []
    · rw [if_pos hb, if_pos hb]
    · rw [if_neg hb, if_neg hb]
      have : 0 < b.length := List.length_pos_iff.2 hb
      have hm : q % 128 < 128 := Nat.mod_lt _ (by omega)
      exact putF_more f g _ _ _ (by rw [List.length_drop]; omega) (by rw [List.length_drop]; omega)
theorem put_nil (s : DSt) (q : Nat) : s.put q [] = s := rfl
theorem put_step (s : DSt) (q : Nat) (b : List UInt8) (hb : 0 < b.length) : s.put q b = (s.put1 q b).put (q + min b.length (128 - q % 128)) (b.drop (min b.length (128 - q % 128))) := by
  have hm : q % 128 < 128 := Nat.mod_lt _ (by omega)
  have hne : b ≠ [] := by rintro rfl; simp at hb
  unfold DSt.put
  obtain ⟨f, hf⟩ : ∃ f, b.length = f + 1 := ⟨b.length - 1, by omega⟩
  conv => lhs; rw [hf]; unfold putF
  rw [if_neg hne]
  exact putF_more _ _ _ _ _ (by rw [List.length_drop]; omega) (by rw [List.length_drop]; omega)

/-! ### what a put keeps, and what it says -/
theorem write_byteAt {s : DSt} (i : Nat) (x : List UInt8) (p : Nat) : (s.write i x).byteAt p = if i = p / 128 then x.getD (p % 128) 0 else s.byteAt p := by
  unfold DSt.byteAt DSt.write DSt.read
  simp only [readAt_snoc]
  split <;> rfl
theorem put1_byteAt {s : DSt} (hok : s.Ok) (q : Nat) (b : List UInt8) (hq : q / 128 < s.l.length) (p : Nat) :
    (s.put1 q b).byteAt p = if q ≤ p ∧ p < q + min b.length (128 - q % 128) then b.getD (p - q) 0 else s.byteAt p := by
  have hl := DSt.read_length hok hq
  have hm : q % 128 < 128 := Nat.mod_lt _ (by omega)
  have hdm := Nat.div_add_mod q 128
  have hdp := Nat.div_add_mod p 128
  have hpm : p % 128 < 128 := Nat.mod_lt _ (by omega)
  have htl : (b.take (128 - q % 128)).length = min b.length (128 - q % 128) := by rw [List.length_take, Nat.min_comm]
  unfold DSt.put1
  rw [write_byteAt]
  by_cases hi : q / 128 = p / 128
  · rw [if_pos hi, over_getD _ _ _ (by rw [htl, hl]; omega), htl]
    by_cases hc : q % 128 ≤ p % 128 ∧ p % 128 < q % 128 + min b.length (128 - q % 128)
    · rw [if_pos hc, if_pos (by omega)]
      simp only [List.getD_eq_getElem?_getD]
      rw [List.getElem?_take_of_lt (by omega)]
      congr 2; omega
    · rw [if_neg hc, if_neg (by omega)]
      unfold DSt.byteAt
      rw [hi]
  · rw [if_neg hi, if_neg (by omega)]

theorem put1_l (s : DSt) (q : Nat) (b : List UInt8) : (s.put1 q b).l = s.l := rfl
theorem put1_len {s : DSt} (hok : s.Ok) (q : Nat) (b : List UInt8) (hq : q / 128 < s.l.length) : (over (s.read (q / 128)) (q % 128) (b.take (128 - q % 128))).length = 128 := by
  have hl := DSt.read_length hok hq
  have hm : q % 128 < 128 := Nat.mod_lt _ (by omega)
  rw [over_length _ _ _ (by rw [List.length_take, hl]; omega), hl]
theorem write_Ok {s : DSt} (hok : s.Ok) (i : Nat) (x : List UInt8) (hi : i < s.l.length) (hx : x.length = 128) (hc : s.waits.length < 1000000000 ∧ s.writes < 1000000000000) : (s.write i x).Ok := by
  refine ⟨hok.sec, ?_, hok.num, ?_⟩
  · intro p hp
    simp only [DSt.write, List.mem_append, List.mem_singleton] at hp
    rcases hp with hp | rfl
    · exact hok.wat p hp
    · exact ⟨hi, hx⟩
  · have := hok.cnt
    simp only [DSt.write, List.length_append, List.length_cons, List.length_nil]
    omega
theorem put1_Ok {s : DSt} (hok : s.Ok) (q : Nat) (b : List UInt8) (hq : q / 128 < s.l.length) (hc : s.waits.length < 1000000000 ∧ s.writes < 1000000000000) : (s.put1 q b).Ok :=
  write_Ok hok _ _ hq (put1_len hok q b hq) hc

/-- all that a put says: a law over each of its steps. -/
theorem put_ind (I : DSt → Nat → List UInt8 → Prop) (step : ∀ s q b, 0 < b.length → I s q b → I (s.put1 q b) (q + min b.length (128 - q % 128)) (b.drop (min b.length (128 - q % 128)))) :
    ∀ (f : Nat) (s : DSt) (q : Nat) (b : List UInt8), b.length ≤ f → I s q b → ∃ q', q' = q + b.length ∧ I (s.put q b) q' []
  | 0, s, q, b, h, hI => by
    have : b = [] := List.eq_nil_of_length_eq_zero (by omega)
    subst this
    exact ⟨q, by simp, hI⟩
  | f + 1, s, q, b, h, hI => by
    by_cases hb : b = []
    · subst hb; exact ⟨q, by simp, hI⟩
    · have h0 : 0 < b.length := List.length_pos_iff.2 hb
      have hm : q % 128 < 128 := Nat.mod_lt _ (by omega)
      obtain ⟨q', hq', hI'⟩ := put_ind I step f _ _ _ (by rw [List.length_drop]; omega) (step s q b h0 hI)
      rw [put_step s q b h0]
      refine ⟨q', ?_, hI'⟩
      rw [hq', List.length_drop]; omega
theorem put_l (s : DSt) (q : Nat) (b : List UInt8) : (s.put q b).l = s.l :=
  (put_ind (fun s' _ _ => s'.l = s.l) (fun _ _ _ _ h => h) _ s q b (Nat.le_refl _) rfl).choose_spec.2
theorem put_syncs (s : DSt) (q : Nat) (b : List UInt8) : (s.put q b).syncs = s.syncs :=
  (put_ind (fun s' _ _ => s'.syncs = s.syncs) (fun _ _ _ _ h => h) _ s q b (Nat.le_refl _) rfl).choose_spec.2

/-- the state of a disk that a put leaves may be. -/
theorem put_Ok {s : DSt} (hok : s.Ok) (q : Nat) (b : List UInt8) (hq : q + b.length ≤ s.l.length * 128) (hc : s.waits.length + b.length ≤ 1000000000 ∧ s.writes + b.length ≤ 1000000000000) :
    (s.put q b).Ok ∧ (s.put q b).waits.length ≤ s.waits.length + b.length ∧ (s.put q b).writes ≤ s.writes + b.length := by
  have h := put_ind (fun s' q' b' => s'.Ok ∧ s'.l = s.l ∧ q' + b'.length = q + b.length ∧ s'.waits.length + b'.length ≤ s.waits.length + b.length ∧ s'.writes + b'.length ≤ s.writes + b.length) (fun s' q' b' h0 ⟨h1, h2, h3, h4, h5⟩ => by
    have hm : q' % 128 < 128 := Nat.mod_lt _ (by omega)
    have hi : q' / 128 < s'.l.length := by rw [h2]; omega
    refine ⟨put1_Ok h1 _ _ hi (by omega), h2, ?_, ?_, ?_⟩
    · rw [List.length_drop]; omega
    · simp only [DSt.put1, DSt.write, List.length_append, List.length_cons, List.length_nil, List.length_drop]; omega
    · simp only [DSt.put1, DSt.write, List.length_drop]; omega) _ s q b (Nat.le_refl _) ⟨hok, rfl, rfl, Nat.le_refl _, Nat.le_refl _⟩
  obtain ⟨q', _, h1, _, _, h4, h5⟩ := h
  exact ⟨h1, by simpa using h4, by simpa using h5⟩

/-- what is read behind a put. -/
theorem put_byteAt {s : DSt} (hok : s.Ok) (q : Nat) (b : List UInt8) (hq : q + b.length ≤ s.l.length * 128) (hc : s.waits.length + b.length ≤ 1000000000 ∧ s.writes + b.length ≤ 1000000000000) (p : Nat) :
    (s.put q b).byteAt p = if q ≤ p ∧ p < q + b.length then b.getD (p - q) 0 else s.byteAt p := by
  have h := put_ind (fun s' q' b' => s'.Ok ∧ s'.l = s.l ∧ q' + b'.length = q + b.length ∧ s'.waits.length + b'.length ≤ s.waits.length + b.length ∧ s'.writes + b'.length ≤ s.writes + b.length ∧ q ≤ q' ∧ b' = b.drop (q' - q) ∧
      s'.byteAt p = if q ≤ p ∧ p < q' then b.getD (p - q) 0 else s.byteAt p) (fun s' q' b' h0 ⟨h1, h2, h3, h4, h5, h6, h7, h8⟩ => by
    have hm : q' % 128 < 128 := Nat.mod_lt _ (by omega)
    have hi : q' / 128 < s'.l.length := by rw [h2]; omega
    refine ⟨put1_Ok h1 _ _ hi (by omega), h2, ?_, ?_, ?_, by omega, ?_, ?_⟩
    · rw [List.length_drop]; omega
    · simp only [DSt.put1, DSt.write, List.length_append, List.length_cons, List.length_nil, List.length_drop]; omega
    · simp only [DSt.put1, DSt.write, List.length_drop]; omega
    · rw [h7, List.drop_drop]; congr 1; rw [← h7]; omega
    · rw [put1_byteAt h1 _ _ hi, h8]
      by_cases ha : q' ≤ p ∧ p < q' + min b'.length (128 - q' % 128)
      · rw [if_pos ha, if_pos (by omega)]
        simp only [List.getD_eq_getElem?_getD]
        rw [h7, List.getElem?_drop]
        congr 2; omega
      · rw [if_neg ha]
        by_cases hb : q ≤ p ∧ p < q'
        · rw [if_pos hb, if_pos (by omega)]
        · rw [if_neg hb, if_neg (by omega)]) _ s q b (Nat.le_refl _) ⟨hok, rfl, rfl, Nat.le_refl _, Nat.le_refl _, Nat.le_refl _, by simp, by rw [if_neg (by omega)]⟩
  obtain ⟨q', hq', _, _, _, _, _, _, _, h8⟩ := h
  rw [h8, hq']
end Go.Proofs.Ytnnhklembdaieaa
