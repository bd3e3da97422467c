/- How many lines two lists have in common at most; the table of it, half made. Plain lists: no program in sight. -/
import Derived.Test.YthfeochekadhcaaBase
namespace Go.Proofs.Ythfeochekadhcaa

def lcsGo (x : ByteArray) (f : List ByteArray → Nat) : List ByteArray → Nat
  | [] => 0
  | y :: ys => if x = y then f ys + 1 else max (f (y :: ys)) (lcsGo x f ys)
def lcs : List ByteArray → List ByteArray → Nat
  | [] => fun _ => 0
  | x :: xs => lcsGo x (lcs xs)
theorem lcs_nil_left (b : List ByteArray) : lcs [] b = 0 := rfl
theorem lcs_nil_right (a : List ByteArray) : lcs a [] = 0 := by cases a <;> rfl
theorem lcs_eq {x y : ByteArray} {xs ys : List ByteArray} (h : x = y) : lcs (x :: xs) (y :: ys) = lcs xs ys + 1 := by
  show (if x = y then _ else _) = _
  rw [if_pos h]
theorem lcs_ne {x y : ByteArray} {xs ys : List ByteArray} (h : ¬ x = y) : lcs (x :: xs) (y :: ys) = max (lcs xs (y :: ys)) (lcs (x :: xs) ys) := by
  show (if x = y then _ else _) = _
  rw [if_neg h]
  rfl
theorem lcs_le_left (a b : List ByteArray) : lcs a b ≤ a.length := by
  induction a generalizing b with
  | nil => rw [lcs_nil_left]; exact Nat.zero_le _
  | cons x xs ih =>
    induction b with
    | nil => rw [lcs_nil_right]; exact Nat.zero_le _
    | cons y ys ih2 =>
      by_cases h : x = y
      · rw [lcs_eq h]
        have := ih ys
        simp; omega
      · rw [lcs_ne h]
        have := ih (y :: ys)
        simp only [List.length_cons] at ih2 ⊢
        omega
theorem lcs_le_right (a b : List ByteArray) : lcs a b ≤ b.length := by
  induction a generalizing b with
  | nil => rw [lcs_nil_left]; exact Nat.zero_le _
  | cons x xs ih =>
    induction b with
    | nil => rw [lcs_nil_right]; exact Nat.zero_le _
    | cons y ys ih2 =>
      by_cases h : x = y
      · rw [lcs_eq h]
        have := ih ys
        simp; omega
      · rw [lcs_ne h]
        have := ih (y :: ys)
        simp only [List.length_cons] at this ⊢
        omega

section
variable (a b : List ByteArray)
/-- what is left of both from two places on has in common -/
def lc (p q : Nat) : Nat := lcs (a.drop p) (b.drop q)
theorem lc_eq {p q : Nat} (hp : p < a.length) (hq : q < b.length) (h : a[p] = b[q]) : lc a b p q = lc a b (p + 1) (q + 1) + 1 := by
  unfold lc; rw [drop_at hp, drop_at hq, lcs_eq h]
theorem lc_ne {p q : Nat} (hp : p < a.length) (hq : q < b.length) (h : ¬ a[p] = b[q]) : lc a b p q = max (lc a b (p + 1) q) (lc a b p (q + 1)) := by
  unfold lc
  conv => lhs; rw [drop_at hp, drop_at hq]
  rw [lcs_ne h, ← drop_at hp, ← drop_at hq]
theorem lc_end_left {p : Nat} (q : Nat) (h : a.length ≤ p) : lc a b p q = 0 := by unfold lc; rw [List.drop_eq_nil_of_le h, lcs_nil_left]
theorem lc_end_right (p : Nat) {q : Nat} (h : b.length ≤ q) : lc a b p q = 0 := by unfold lc; rw [List.drop_eq_nil_of_le h, lcs_nil_right]
theorem lc_le (p q : Nat) : lc a b p q ≤ a.length := by
  unfold lc
  have := lcs_le_left (a.drop p) (b.drop q)
  rw [List.length_drop] at this
  omega
/-- the table, rows from z on made, of the row ahead those from y on -/
def mrow (z y p : Nat) : List Int := (List.range (b.length + 1)).map fun q => if z ≤ p ∨ (p + 1 = z ∧ y ≤ q) then (lc a b p q : Int) else 0
def mtab (z y : Nat) : List (List Int) := (List.range (a.length + 1)).map fun p => mrow a b z y p
def tab : List (List Int) := (List.range (a.length + 1)).map fun p => (List.range (b.length + 1)).map fun q => (lc a b p q : Int)
theorem mrow_len (z y p : Nat) : (mrow a b z y p).length = b.length + 1 := by simp [mrow]
theorem mtab_len (z y : Nat) : (mtab a b z y).length = a.length + 1 := by simp [mtab]
theorem tab_len : (tab a b).length = a.length + 1 := by simp [tab]
theorem mtab_at {z y p : Nat} (h : p < (mtab a b z y).length) : (mtab a b z y)[p] = mrow a b z y p := by simp [mtab]
theorem mrow_at {z y p q : Nat} (h : q < (mrow a b z y p).length) : (mrow a b z y p)[q] = if z ≤ p ∨ (p + 1 = z ∧ y ≤ q) then (lc a b p q : Int) else 0 := by simp [mrow]
theorem mrow_zero (p : Nat) (_hp : p < a.length + 1) : mrow a b a.length (b.length + 1) p = List.replicate (b.length + 1) 0 := by
  apply List.ext_getElem
  · simp [mrow]
  · intro q h1 h2
    rw [mrow_at, List.getElem_replicate]
    rw [mrow_len] at h1
    split
    · rename_i h
      rcases h with h | h
      · rw [lc_end_left a b q h]; rfl
      · omega
    · rfl
theorem mtab_zero : mtab a b a.length (b.length + 1) = List.replicate (a.length + 1) (List.replicate (b.length + 1) 0) := by
  apply List.ext_getElem
  · simp [mtab]
  · intro p h1 h2
    rw [mtab_at, List.getElem_replicate]
    rw [mtab_len] at h1
    exact mrow_zero a b p h1
theorem mtab_last (z : Nat) : mtab a b z (b.length + 1) = mtab a b z b.length := by
  unfold mtab mrow
  refine List.map_congr_left fun p _ => List.map_congr_left fun q hq => ?_
  have hq' : q < b.length + 1 := by simpa using hq
  by_cases h1 : z ≤ p
  · rw [if_pos (.inl h1), if_pos (.inl h1)]
  · by_cases h2 : p + 1 = z ∧ b.length ≤ q
    · rw [if_neg (by omega), if_pos (.inr h2), lc_end_right a b p h2.2]; rfl
    · rw [if_neg (by omega), if_neg (by omega)]
theorem mtab_down (z : Nat) : mtab a b (z + 1) 0 = mtab a b z (b.length + 1) := by
  unfold mtab mrow
  refine List.map_congr_left fun p _ => List.map_congr_left fun q hq => ?_
  have hq' : q < b.length + 1 := by simpa using hq
  by_cases h1 : z ≤ p
  · rw [if_pos (by omega), if_pos (by omega)]
  · rw [if_neg (by omega), if_neg (by omega)]
theorem mtab_all (y : Nat) : mtab a b 0 y = tab a b := by
  unfold mtab mrow tab
  refine List.map_congr_left fun p _ => List.map_congr_left fun q _ => ?_
  rw [if_pos (.inl (Nat.zero_le _))]
theorem mrow_set (z y : Nat) : (mrow a b (z + 1) (y + 1) z).set y (lc a b z y : Int) = mrow a b (z + 1) y z := by
  apply List.ext_getElem
  · simp [mrow]
  · intro q h1 h2
    rw [mrow_at, List.getElem_set]
    by_cases h : y = q
    · subst h
      rw [if_pos rfl, if_pos (.inr ⟨rfl, Nat.le_refl _⟩)]
    · rw [if_neg h, mrow_at]
      by_cases h3 : y + 1 ≤ q
      · rw [if_pos (.inr ⟨rfl, h3⟩), if_pos (.inr ⟨rfl, by omega⟩)]
      · rw [if_neg (by omega), if_neg (by omega)]
theorem mrow_other {z y p : Nat} (h : p ≠ z) : mrow a b (z + 1) (y + 1) p = mrow a b (z + 1) y p := by
  unfold mrow
  refine List.map_congr_left fun q _ => ?_
  by_cases h1 : z + 1 ≤ p
  · rw [if_pos (.inl h1), if_pos (.inl h1)]
  · rw [if_neg (by omega), if_neg (by omega)]
theorem mtab_step (z y : Nat) : (mtab a b (z + 1) (y + 1)).set z ((mrow a b (z + 1) (y + 1) z).set y (lc a b z y : Int)) = mtab a b (z + 1) y := by
  apply List.ext_getElem
  · simp [mtab]
  · intro p h1 h2
    rw [mtab_at, List.getElem_set]
    by_cases h : z = p
    · subst h
      rw [if_pos rfl, mrow_set]
    · rw [if_neg h, mtab_at, mrow_other a b (Ne.symm h)]
end
end Go.Proofs.Ythfeochekadhcaa
