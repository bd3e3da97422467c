/- What a good tree is, said of lists. -/
import Derived.Test.YtoloplpmjcgbdaaGreatDoorDeepD
namespace Go.Proofs.YtoloplpmjcgbdaaGreatDoor
open Go.RowKit

/-- how often each node is a kid -/
def useK (us ks : List Int) : List Int := ks.foldl (fun us k => us.set k.toNat (us.getD k.toNat 0 + 1)) us
def useN (xs : List Node) : Nat → List Int
  | 0 => List.replicate xs.length 0
  | i + 1 => useK (useN xs i) (nd xs (i : Int)).kids
structure Tree (xs : List Node) : Prop where
  low : 1 ≤ xs.length
  high : xs.length ≤ 300
  kind : (nd xs ((xs.length : Int) - 1)).kind = 22
  deep : deepOf xs ((xs.length : Int) - 1) ≠ 0
  used : ∀ i, i + 1 < xs.length → (useN xs xs.length).getD i 0 = 1
noncomputable def treeOk (xs : List Node) : Bool := @decide (Tree xs) (Classical.propDecidable _)
theorem treeOk_iff {xs : List Node} : treeOk xs = true ↔ Tree xs := by unfold treeOk; exact @decide_eq_true_iff _ (Classical.propDecidable _)
theorem treeOk_no {xs : List Node} (h : ¬ Tree xs) : treeOk xs = false := by
  cases g : treeOk xs with
  | false => rfl
  | true => exact absurd (treeOk_iff.1 g) h
theorem useK_succ {us ks : List Int} {t : Nat} (h : t < ks.length) : useK us (ks.take (t + 1)) = (useK us (ks.take t)).set ks[t].toNat ((useK us (ks.take t)).getD ks[t].toNat 0 + 1) := by
  unfold useK
  rw [List.take_succ_eq_append_getElem h, List.foldl_append]; rfl
theorem useK_len (us ks : List Int) : (useK us ks).length = us.length := by
  unfold useK
  induction ks generalizing us with
  | nil => rfl
  | cons k ks ih => rw [List.foldl_cons, ih, List.length_set]
theorem useN_len (xs : List Node) : ∀ i, (useN xs i).length = xs.length
  | 0 => List.length_replicate ..
  | i + 1 => by rw [useN, useK_len, useN_len xs i]
theorem getD_set (us : List Int) (k q : Nat) (v : Int) : (us.set k v).getD q 0 = if k = q ∧ k < us.length then v else us.getD q 0 := by
  rw [List.getD_eq_getElem?_getD, List.getD_eq_getElem?_getD, List.getElem?_set]
  by_cases e : k = q
  · subst e
    by_cases h : k < us.length
    · rw [if_pos rfl, if_pos h, if_pos ⟨rfl, h⟩]; rfl
    · rw [if_pos rfl, if_neg h, if_neg (fun c => h c.2), List.getElem?_eq_none (by omega)]
  · rw [if_neg e, if_neg (fun c => e c.1)]
/-- the counts stay small -/
def Small (us : List Int) (b : Nat) : Prop := ∀ q, 0 ≤ us.getD q 0 ∧ us.getD q 0 ≤ (b : Int)
theorem Small.set {us : List Int} {b : Nat} (h : Small us b) (k : Nat) : Small (us.set k (us.getD k 0 + 1)) (b + 1) := by
  intro q
  have h1 := h q
  have h2 := h k
  rw [getD_set]
  split <;> omega
theorem Small.more {us : List Int} {b c : Nat} (h : Small us b) (hb : b ≤ c) : Small us c := fun q => by have := h q; omega
theorem Small.use {b : Nat} : ∀ {us : List Int} (ks : List Int), Small us b → Small (useK us ks) (b + ks.length) := by
  intro us ks
  induction ks generalizing us b with
  | nil => intro h; exact h
  | cons k ks ih =>
    intro h
    have := ih (h.set k.toNat)
    show Small (useK (us.set k.toNat (us.getD k.toNat 0 + 1)) ks) (b + (ks.length + 1))
    rw [show b + (ks.length + 1) = b + 1 + ks.length by omega]; exact this
theorem useN_small {xs : List Node} (h : ∀ i : Nat, i < xs.length → (nd xs (i : Int)).kids.length ≤ 12) : ∀ i, i ≤ xs.length → Small (useN xs i) (12 * i)
  | 0, _ => fun q => by
    rw [useN, List.getD_eq_getElem?_getD, List.getElem?_replicate]
    split <;> exact ⟨by decide, by decide⟩
  | i + 1, hi => by
    have h1 := (useN_small h i (by omega)).use (nd xs (i : Int)).kids
    have h2 := h i (by omega)
    exact h1.more (by omega)
end Go.Proofs.YtoloplpmjcgbdaaGreatDoor
