/- CommonOf and DiffOf: what both lists have in common; what changed. -/
import Derived.Test.YthfeochekadhcaaCommonS
import Derived.Test.YthfeochekadhcaaHEdit
namespace Go.Proofs.Ythfeochekadhcaa
open Go.RowKit

/-- how many lines both have in common, where they are few -/
def comOf (a b : List ByteArray) : Nat := if a.length ≤ 200 ∧ b.length ≤ 200 then lcs a b else 0
def difF : Nat → List ByteArray → List ByteArray → List Edit
  | 0, _, _ => []
  | _ + 1, [], [] => []
  | f + 1, x :: xs, [] => ⟨2, x⟩ :: difF f xs []
  | f + 1, [], y :: ys => ⟨3, y⟩ :: difF f [] ys
  | f + 1, x :: xs, y :: ys => if x = y then ⟨1, x⟩ :: difF f xs ys else if lcs (x :: xs) ys ≤ lcs xs (y :: ys) then ⟨2, x⟩ :: difF f xs (y :: ys) else ⟨3, y⟩ :: difF f (x :: xs) ys
def dif (a b : List ByteArray) : List Edit := difF (a.length + b.length) a b
def difOf (a b : List ByteArray) : List Edit := if a.length ≤ 200 ∧ b.length ≤ 200 then dif a b else []
theorem difF_more (f : Nat) : ∀ a b : List ByteArray, a.length + b.length ≤ f → difF (f + 1) a b = difF f a b := by
  induction f with
  | zero =>
    intro a b h
    have ha : a = [] := List.eq_nil_of_length_eq_zero (by omega)
    have hb : b = [] := List.eq_nil_of_length_eq_zero (by omega)
    subst ha; subst hb; rfl
  | succ f ih =>
    intro a b h
    cases a with
    | nil =>
      cases b with
      | nil => rfl
      | cons y ys =>
        show Edit.mk 3 y :: difF (f + 1) [] ys = Edit.mk 3 y :: difF f [] ys
        rw [ih [] ys (by simp at h ⊢; omega)]
    | cons x xs =>
      cases b with
      | nil =>
        show Edit.mk 2 x :: difF (f + 1) xs [] = Edit.mk 2 x :: difF f xs []
        rw [ih xs [] (by simp at h ⊢; omega)]
      | cons y ys =>
        show (if x = y then Edit.mk 1 x :: difF (f + 1) xs ys else if lcs (x :: xs) ys ≤ lcs xs (y :: ys) then Edit.mk 2 x :: difF (f + 1) xs (y :: ys) else Edit.mk 3 y :: difF (f + 1) (x :: xs) ys) =
          (if x = y then Edit.mk 1 x :: difF f xs ys else if lcs (x :: xs) ys ≤ lcs xs (y :: ys) then Edit.mk 2 x :: difF f xs (y :: ys) else Edit.mk 3 y :: difF f (x :: xs) ys)
        simp at h
        rw [ih xs ys (by omega), ih xs (y :: ys) (by simp; omega), ih (x :: xs) ys (by simp; omega)]
theorem difF_ge (f g : Nat) (a b : List ByteArray) (h : a.length + b.length ≤ f) : difF (f + g) a b = difF f a b := by
  induction g with
  | zero => rfl
  | succ g ih => rw [← Nat.add_assoc, difF_more _ _ _ (by omega), ih]
theorem dif_nil : dif [] [] = [] := rfl
theorem dif_left (x : ByteArray) (xs : List ByteArray) : dif (x :: xs) [] = ⟨2, x⟩ :: dif xs [] := by
  show difF (xs.length + 1 + 0) (x :: xs) [] = _
  rfl
theorem dif_right (y : ByteArray) (ys : List ByteArray) : dif [] (y :: ys) = ⟨3, y⟩ :: dif [] ys := by
  show difF (0 + (ys.length + 1)) [] (y :: ys) = _
  rw [show 0 + (ys.length + 1) = (0 + ys.length) + 1 by omega]
  rfl
theorem dif_both (x : ByteArray) (xs : List ByteArray) (y : ByteArray) (ys : List ByteArray) :
    dif (x :: xs) (y :: ys) = if x = y then ⟨1, x⟩ :: dif xs ys else if lcs (x :: xs) ys ≤ lcs xs (y :: ys) then ⟨2, x⟩ :: dif xs (y :: ys) else ⟨3, y⟩ :: dif (x :: xs) ys := by
  have e : dif (x :: xs) (y :: ys) = difF ((xs.length + ys.length + 1) + 1) (x :: xs) (y :: ys) := by
    unfold dif
    rw [show (x :: xs).length + (y :: ys).length = (xs.length + ys.length + 1) + 1 by simp; omega]
  rw [e]
  show (if x = y then Edit.mk 1 x :: difF (xs.length + ys.length + 1) xs ys else if lcs (x :: xs) ys ≤ lcs xs (y :: ys) then Edit.mk 2 x :: difF (xs.length + ys.length + 1) xs (y :: ys) else Edit.mk 3 y :: difF (xs.length + ys.length + 1) (x :: xs) ys) = _
  rw [difF_more _ xs ys (Nat.le_refl _)]
  have e1 : difF (xs.length + ys.length + 1) xs (y :: ys) = dif xs (y :: ys) := by unfold dif; rw [List.length_cons, Nat.add_assoc]
  have e2 : difF (xs.length + ys.length + 1) (x :: xs) ys = dif (x :: xs) ys := by unfold dif; rw [List.length_cons, show xs.length + 1 + ys.length = xs.length + ys.length + 1 by omega]
  rw [e1, e2]
  rfl
theorem dif_len (a b : List ByteArray) : (dif a b).length ≤ a.length + b.length := by
  have key : ∀ (f : Nat) (a b : List ByteArray), a.length + b.length ≤ f → (difF f a b).length ≤ f := by
    intro f
    induction f with
    | zero => intro a b _; exact Nat.le_refl _
    | succ f ih =>
      intro a b h
      cases a with
      | nil =>
        cases b with
        | nil => exact Nat.zero_le _
        | cons y ys =>
          have := ih [] ys (by simp at h ⊢; omega)
          show (Edit.mk 3 y :: difF f [] ys).length ≤ _
          simp; omega
      | cons x xs =>
        cases b with
        | nil =>
          have := ih xs [] (by simp at h ⊢; omega)
          show (Edit.mk 2 x :: difF f xs []).length ≤ _
          simp; omega
        | cons y ys =>
          simp at h
          have h1 := ih xs ys (by omega)
          have h2 := ih xs (y :: ys) (by simp; omega)
          have h3 := ih (x :: xs) ys (by simp; omega)
          show (if x = y then Edit.mk 1 x :: difF f xs ys else if lcs (x :: xs) ys ≤ lcs xs (y :: ys) then Edit.mk 2 x :: difF f xs (y :: ys) else Edit.mk 3 y :: difF f (x :: xs) ys).length ≤ _
          split
          · simp; omega
          · split <;> simp <;> omega
  exact key _ a b (Nat.le_refl _)
theorem difOf_len (a b : List ByteArray) : (difOf a b).length ≤ 400 := by
  unfold difOf
  split
  · rename_i h
    have := dif_len a b
    omega
  · exact Nat.zero_le _

/-- the table's cells -/
theorem tab_cells {lo hi : Nat} {w : World} {t : Value} {ls ms : List ByteArray} (h : Rd tabS lo hi w t (tab ls ms)) :
    ∃ G O c, t = .slice (some ⟨G, O, none⟩) (ls.length + 1) c ∧ lo ≤ G ∧ G < hi ∧ ls.length + 1 ≤ c ∧ c ≤ maxLen ∧ ∀ p, p ≤ ls.length → ∃ g o c', lo ≤ g ∧ g < hi ∧ w.cell? ⟨G, O + p, none⟩ = some (.slice (some ⟨g, o, none⟩) (ms.length + 1) c') ∧ ms.length + 1 ≤ c' ∧ c' ≤ maxLen ∧
      ∀ q, q ≤ ms.length → w.cell? ⟨g, o + q, none⟩ = some (.int .i64 (lc ls ms p q)) := by
  obtain ⟨a, c, rfl, h2, h3, _, h5⟩ := h
  rw [tab_len] at h2
  obtain ⟨G, O, cs0, rfl, hlo, hhi, _, _⟩ := h5 0 (by rw [tab_len]; omega)
  refine ⟨G, O, c, by rw [tab_len], hlo, hhi, h2, h3, fun p hp => ?_⟩
  obtain ⟨G', O', cs, e1, _, _, ⟨v, rfl, hv⟩, hc⟩ := h5 p (by rw [tab_len]; omega)
  injection e1 with e1
  injection e1 with e2 e3
  subst e2; subst e3
  have hcell := hc 0 v rfl
  have e4 : O + p * tabS.size + 0 = O + p := congrArg (O + ·) (Nat.mul_one p)
  rw [e4] at hcell
  have hrow : (tab ls ms)[p]'(by rw [tab_len]; omega) = (List.range (ms.length + 1)).map fun q => (lc ls ms p q : Int) := by simp [tab]
  rw [hrow] at hv
  have hlen : ((List.range (ms.length + 1)).map fun q => (lc ls ms p q : Int)).length = ms.length + 1 := by simp
  obtain ⟨a', c', rfl, k2, k3, _, k5⟩ := hv
  obtain ⟨g, o, cs0', rfl, glo, ghi, _, _⟩ := k5 0 (by rw [hlen]; omega)
  refine ⟨g, o, c', glo, ghi, by rw [hcell, hlen], by rw [hlen] at k2; exact k2, k3, fun q hq => ?_⟩
  obtain ⟨g', o', cs', e5, _, _, rfl, kc⟩ := k5 q (by rw [hlen]; omega)
  injection e5 with e5
  injection e5 with e6 e7
  subst e6; subst e7
  have := kc 0 _ rfl
  have e8 : o + q * intF.shape.size + 0 = o + q := congrArg (o + ·) (Nat.mul_one q)
  rw [e8] at this
  rw [this]
  simp
end Go.Proofs.Ythfeochekadhcaa
