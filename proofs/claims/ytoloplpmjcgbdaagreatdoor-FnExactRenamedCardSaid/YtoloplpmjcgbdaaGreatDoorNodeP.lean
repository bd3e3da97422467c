/- One sign of a kind: what it comes to, byte by byte. -/
import Derived.Test.YtoloplpmjcgbdaaGreatDoorNodeD
namespace Go.Proofs.YtoloplpmjcgbdaaGreatDoor
open Go.RowKit

theorem fig_first {n : Int} (h : figN n = true) : firstN n = false := by
  unfold figN at h
  rw [Bool.and_eq_true, decide_eq_true_iff, decide_eq_true_iff] at h
  unfold firstN
  rw [decide_eq_false (show ¬ 97 ≤ n by omega), decide_eq_false (show ¬ 65 ≤ n by omega)]
  simp; omega
theorem ext_all (s : ByteArray) : s.extract 0 s.size = s := tl_zero s
theorem isSg_iff {s : ByteArray} {q : Int} : isSg s q = true ↔ sgn s 0 = some (q, s, s.size) := by unfold isSg; exact decide_eq_true_iff
theorem isSg_no {s : ByteArray} {q : Int} (h : ¬ isSg s q = true) : isSg s q = false := by
  cases g : isSg s q with
  | false => rfl
  | true => exact absurd g h
theorem nameAt_some {s x : ByteArray} {a n : Nat} {q : Int} (h : nameAt s a = some (q, x, n)) : q = 1 ∧ runTo innerN s a - a ≤ 30 ∧ n = runTo innerN s a - a := by
  unfold nameAt at h
  split at h
  · injection h with h; injection h with h1 h2; injection h2 with h2 h3; exact ⟨h1.symm, by assumption, h3.symm⟩
  · cases h
theorem numAt_some {s x : ByteArray} {a n : Nat} {q : Int} (h : numAt s a = some (q, x, n)) : q = 2 ∧ runTo figN s a - a ≤ 12 ∧ n = runTo figN s a - a := by
  unfold numAt at h
  split at h
  · injection h with h; injection h with h1 h2; injection h2 with h2 h3; exact ⟨h1.symm, by assumption, h3.symm⟩
  · cases h
theorem textAt_some {s x : ByteArray} {a n : Nat} {q : Int} (h : textAt s a = some (q, x, n)) : q = 3 ∧ (runTo notQ s (a + 1) < s.size ∧ runTo notQ s (a + 1) ≤ runTo plainN s (a + 1)) ∧ n = runTo notQ s (a + 1) + 1 - a := by
  unfold textAt at h
  split at h
  · injection h with h; injection h with h1 h2; injection h2 with h2 h3; exact ⟨h1.symm, by assumption, h3.symm⟩
  · cases h
theorem noteAt_some {s x : ByteArray} {a n : Nat} {q : Int} (h : noteAt s a = some (q, x, n)) : q = 5 ∧ runTo notNl s a ≤ runTo plainN s a ∧ x = trimT (s.extract a (runTo notNl s a)) ∧ n = runTo notNl s a - a := by
  unfold noteAt at h
  split at h
  · injection h with h; injection h with h1 h2; injection h2 with h2 h3; exact ⟨h1.symm, by assumption, h2.symm, h3.symm⟩
  · cases h
theorem markAt_some {s x : ByteArray} {a n : Nat} {q : Int} (h : markAt s a = some (q, x, n)) : q = 4 := by
  unfold markAt at h
  split at h
  · cases h
  · injection h with h; injection h with h1 h2; exact h1.symm
theorem isSg1_iff {s : ByteArray} : isSg s 1 = true ↔ ∃ h : 0 < s.size, firstN (s[0].toNat : Int) = true ∧ runTo innerN s 0 = s.size ∧ s.size ≤ 30 := by
  rw [isSg_iff]
  constructor
  · intro e
    have h0 : 0 < s.size := (sgn_pos e).1
    refine ⟨h0, ?_⟩
    unfold sgn at e
    rw [dif_pos h0] at e
    split at e
    · rename_i f
      have := nameAt_some e
      exact ⟨f, by omega, by omega⟩
    · split at e
      · exact absurd (numAt_some e).1 (by decide)
      · split at e
        · exact absurd (textAt_some e).1 (by decide)
        · split at e
          · exact absurd (noteAt_some e).1 (by decide)
          · exact absurd (markAt_some e) (by decide)
  · rintro ⟨h0, f, r, z⟩
    unfold sgn nameAt
    rw [dif_pos h0, if_pos f, r, if_pos (by omega), ext_all]; rfl
theorem isSg2_iff {s : ByteArray} : isSg s 2 = true ↔ runTo figN s 0 = s.size ∧ 1 ≤ s.size ∧ s.size ≤ 12 := by
  rw [isSg_iff]
  constructor
  · intro e
    have h0 : 0 < s.size := (sgn_pos e).1
    unfold sgn at e
    rw [dif_pos h0] at e
    split at e
    · exact absurd (nameAt_some e).1 (by decide)
    · split at e
      · have := numAt_some e
        exact ⟨by omega, by omega, by omega⟩
      · split at e
        · exact absurd (textAt_some e).1 (by decide)
        · split at e
          · exact absurd (noteAt_some e).1 (by decide)
          · exact absurd (markAt_some e) (by decide)
  · rintro ⟨r, h0, z⟩
    have f : figN (s[0].toNat : Int) = true := (runTo_iff (p := figN) (s := s) (i := 0) (j := s.size) (Nat.le_refl _) (Nat.zero_le _)).1 (by omega) 0 h0 (Nat.le_refl _) h0
    unfold sgn numAt
    rw [dif_pos (show 0 < s.size from h0), fig_first f, if_neg (by simp), if_pos f, r, if_pos (by omega), ext_all]; rfl
theorem q39 {n : Int} (h : (n == 39) = true) : firstN n = false ∧ figN n = false := by
  obtain rfl : n = 39 := by simpa using h
  exact ⟨by decide, by decide⟩
theorem isSg3_iff {s : ByteArray} : isSg s 3 = true ↔ ∃ h : 0 < s.size, ((s[0].toNat : Int) == 39) = true ∧ runTo notQ s 1 + 1 = s.size ∧ runTo notQ s 1 ≤ runTo plainN s 1 := by
  rw [isSg_iff]
  constructor
  · intro e
    have h0 : 0 < s.size := (sgn_pos e).1
    refine ⟨h0, ?_⟩
    unfold sgn at e
    rw [dif_pos h0] at e
    split at e
    · exact absurd (nameAt_some e).1 (by decide)
    · split at e
      · exact absurd (numAt_some e).1 (by decide)
      · split at e
        · rename_i f
          have := textAt_some e
          simp only [Nat.zero_add] at this
          exact ⟨f, by omega, this.2.1.2⟩
        · split at e
          · exact absurd (noteAt_some e).1 (by decide)
          · exact absurd (markAt_some e) (by decide)
  · rintro ⟨h0, f, r, z⟩
    obtain ⟨f1, f2⟩ := q39 f
    unfold sgn textAt
    rw [dif_pos h0, f1, if_neg (by simp), f2, if_neg (by simp), if_pos f, Nat.zero_add, if_pos ⟨by omega, z⟩, r, ext_all]; rfl
theorem isNote_b0 {s : ByteArray} (h : isNote s 0 = true) (h0 : 0 < s.size) : s[0] = 47 := by
  have hs := isNote_size h
  have e := str_eq.1 h
  have := congrArg (fun b : ByteArray => b.data.toList[0]?) e
  simp only [Lib.extract_data] at this
  rw [List.getElem?_take_of_lt (by omega), List.getElem?_drop, List.getElem?_eq_getElem (by rw [lsize]; omega)] at this
  exact Option.some.inj this
theorem isSg5_iff {s : ByteArray} : isSg s 5 = true ↔ isNote s 0 = true ∧ runTo notNl s 0 = s.size ∧ s.size ≤ runTo plainN s 0 ∧ trimT s = s := by
  rw [isSg_iff]
  constructor
  · intro e
    have h0 : 0 < s.size := (sgn_pos e).1
    unfold sgn at e
    rw [dif_pos h0] at e
    split at e
    · exact absurd (nameAt_some e).1 (by decide)
    · split at e
      · exact absurd (numAt_some e).1 (by decide)
      · split at e
        · exact absurd (textAt_some e).1 (by decide)
        · split at e
          · rename_i f
            obtain ⟨_, h1, h2, h3⟩ := noteAt_some e
            have hr : runTo notNl s 0 = s.size := by omega
            refine ⟨f, hr, by omega, ?_⟩
            rw [hr, ext_all] at h2
            exact h2.symm
          · exact absurd (markAt_some e) (by decide)
  · rintro ⟨f, r, z, t⟩
    have h0 : 0 < s.size := by have := isNote_size f; omega
    have hb := isNote_b0 f h0
    unfold sgn noteAt
    rw [dif_pos h0, hb, if_neg (by decide), if_neg (by decide), if_neg (by decide), if_pos f, r, if_pos z, ext_all, t]; rfl
/-- how long a note at a place is -/
def noteLen (t : ByteArray) (a : Nat) : Nat := if isNote t a = true ∧ runTo notNl t a ≤ runTo plainN t a then runTo notNl t a - a else 0
/-- how long a text at a place is -/
def quoteLen (t : ByteArray) (a : Nat) : Nat := if runTo notQ t (a + 1) < t.size ∧ runTo notQ t (a + 1) ≤ runTo plainN t (a + 1) then runTo notQ t (a + 1) + 1 - a else 0
theorem isSg5_len (s : ByteArray) : isSg s 5 = (decide (1 < s.size) && (noteLen s 0 == s.size) && ((trimT s).toList == s.toList)) := by
  rw [Bool.eq_iff_iff, isSg5_iff, Bool.and_eq_true, Bool.and_eq_true, decide_eq_true_iff, beq_iff_eq, str_eq]
  unfold noteLen
  constructor
  · rintro ⟨a, b, c, d⟩
    have := isNote_size a
    rw [if_pos ⟨a, by omega⟩]
    exact ⟨⟨by omega, by omega⟩, d⟩
  · rintro ⟨⟨a, b⟩, d⟩
    split at b
    · rename_i h
      exact ⟨h.1, by omega, by omega, d⟩
    · omega
theorem isSg3_len (s : ByteArray) : isSg s 3 = (decide (1 < s.size) && (if h : 0 < s.size then ((s[0].toNat : Int) == 39) else false) && (quoteLen s 0 == s.size)) := by
  rw [Bool.eq_iff_iff, isSg3_iff, Bool.and_eq_true, Bool.and_eq_true, decide_eq_true_iff, beq_iff_eq]
  unfold quoteLen
  rw [Nat.zero_add]
  constructor
  · rintro ⟨a, b, c, d⟩
    have := runTo_ge notQ s 1
    rw [dif_pos a, if_pos ⟨by omega, d⟩]
    exact ⟨⟨by omega, b⟩, by omega⟩
  · rintro ⟨⟨a, b⟩, d⟩
    rw [dif_pos (by omega)] at b
    split at d
    · rename_i h
      exact ⟨by omega, b, by omega, h.2⟩
    · omega
end Go.Proofs.YtoloplpmjcgbdaaGreatDoor
