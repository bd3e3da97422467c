/- What changed, done to what was, is what is, and back. Plain lists: no program in sight. -/
import Derived.Test.YthfeochekadhcaaDiffD
namespace Go.Proofs.Ythfeochekadhcaa
theorem cnt_cons {α : Type} (p : α → Bool) (x : α) (xs : List α) : cnt p (x :: xs) = cnt p xs + if p x then 1 else 0 := by
  unfold cnt
  by_cases h : p x <;> simp [h]
theorem ap2 (x : ByteArray) (r : List ByteArray) (es : List Edit) : apE (x :: r) (⟨2, x⟩ :: es) = apE r es := apE_drop rfl rfl
theorem ap3 (x : ByteArray) (r : List ByteArray) (es : List Edit) : apE r (⟨3, x⟩ :: es) = (apE r es).map (x :: ·) := apE_add rfl
theorem ap1 (x : ByteArray) (r : List ByteArray) (es : List Edit) : apE (x :: r) (⟨1, x⟩ :: es) = (apE r es).map (x :: ·) := apE_keep (⟨Int.le_refl 1, (by decide : (1 : Int) ≤ 3)⟩ : (1 : Int) ≤ 1 ∧ (1 : Int) ≤ 3) (by decide : (1 : Int) ≠ 2) (by decide : (1 : Int) ≠ 3) rfl
theorem sw1 (x : ByteArray) : Edit.swap ⟨1, x⟩ = ⟨1, x⟩ := rfl
theorem sw2 (x : ByteArray) : Edit.swap ⟨2, x⟩ = ⟨3, x⟩ := rfl
theorem sw3 (x : ByteArray) : Edit.swap ⟨3, x⟩ = ⟨2, x⟩ := rfl
theorem kp1 (x : ByteArray) : isKept ⟨1, x⟩ = true := rfl
theorem kp2 (x : ByteArray) : isKept ⟨2, x⟩ = false := rfl
theorem kp3 (x : ByteArray) : isKept ⟨3, x⟩ = false := rfl
theorem dif_law (n : Nat) : ∀ a b : List ByteArray, a.length + b.length ≤ n →
    apE a (dif a b) = some b ∧ apE b ((dif a b).map Edit.swap) = some a ∧ cnt isKept (dif a b) = lcs a b ∧ (dif a b).length + lcs a b = a.length + b.length := by
  induction n with
  | zero =>
    intro a b h
    obtain rfl : a = [] := List.eq_nil_of_length_eq_zero (by omega)
    obtain rfl : b = [] := List.eq_nil_of_length_eq_zero (by omega)
    exact ⟨rfl, rfl, rfl, rfl⟩
  | succ n ih =>
    intro a b h
    cases a with
    | nil =>
      cases b with
      | nil => exact ⟨rfl, rfl, rfl, rfl⟩
      | cons y ys =>
        obtain ⟨h1, h2, h3, h4⟩ := ih [] ys (by simp at h ⊢; omega)
        rw [dif_right, List.map_cons, sw3, ap3, ap2, h1, h2, cnt_cons, h3, kp3]
        have e1 := lcs_nil_left ys
        have e2 := lcs_nil_left (y :: ys)
        refine ⟨rfl, rfl, by rw [e1, e2]; rfl, ?_⟩
        simp only [List.length_cons] at h4 ⊢
        omega
    | cons x xs =>
      cases b with
      | nil =>
        obtain ⟨h1, h2, h3, h4⟩ := ih xs [] (by simp at h ⊢; omega)
        rw [dif_left, List.map_cons, sw2, ap3, ap2, h1, h2, cnt_cons, h3, kp2]
        have e1 := lcs_nil_right xs
        have e2 := lcs_nil_right (x :: xs)
        refine ⟨rfl, rfl, by rw [e1, e2]; rfl, ?_⟩
        simp only [List.length_cons] at h4 ⊢
        omega
      | cons y ys =>
        simp only [List.length_cons] at h
        rw [dif_both]
        by_cases hx : x = y
        · subst hx
          obtain ⟨h1, h2, h3, h4⟩ := ih xs ys (by omega)
          rw [if_pos rfl, List.map_cons, sw1, ap1, ap1, h1, h2, cnt_cons, h3, kp1, lcs_eq rfl]
          exact ⟨rfl, rfl, rfl, by simp only [List.length_cons]; omega⟩
        · rw [if_neg hx]
          by_cases hc : lcs (x :: xs) ys ≤ lcs xs (y :: ys)
          · obtain ⟨h1, h2, h3, h4⟩ := ih xs (y :: ys) (by simp only [List.length_cons]; omega)
            rw [if_pos hc, List.map_cons, sw2, ap2, ap3, h1, h2, cnt_cons, h3, kp2, lcs_ne hx, Nat.max_eq_left hc]
            exact ⟨rfl, rfl, rfl, by simp only [List.length_cons] at h4 ⊢; omega⟩
          · obtain ⟨h1, h2, h3, h4⟩ := ih (x :: xs) ys (by simp only [List.length_cons]; omega)
            rw [if_neg hc, List.map_cons, sw3, ap2, ap3, h1, h2, cnt_cons, h3, kp3, lcs_ne hx, Nat.max_eq_right (by omega)]
            exact ⟨rfl, rfl, rfl, by simp only [List.length_cons] at h4 ⊢; omega⟩
theorem lcs_comm (n : Nat) : ∀ a b : List ByteArray, a.length + b.length ≤ n → lcs a b = lcs b a := by
  induction n with
  | zero =>
    intro a b h
    obtain rfl : a = [] := List.eq_nil_of_length_eq_zero (by omega)
    obtain rfl : b = [] := List.eq_nil_of_length_eq_zero (by omega)
    rfl
  | succ n ih =>
    intro a b h
    cases a with
    | nil => rw [lcs_nil_left, lcs_nil_right]
    | cons x xs =>
      cases b with
      | nil => rw [lcs_nil_left, lcs_nil_right]
      | cons y ys =>
        simp only [List.length_cons] at h
        by_cases hx : x = y
        · subst hx
          rw [lcs_eq rfl, lcs_eq rfl, ih xs ys (by omega)]
        · rw [lcs_ne hx, lcs_ne (fun e => hx e.symm), ih xs (y :: ys) (by simp only [List.length_cons]; omega), ih (x :: xs) ys (by simp only [List.length_cons]; omega), Nat.max_comm]
end Go.Proofs.Ythfeochekadhcaa
