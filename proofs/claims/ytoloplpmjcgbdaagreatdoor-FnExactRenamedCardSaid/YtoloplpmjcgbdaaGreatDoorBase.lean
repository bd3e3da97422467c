/- Sums and measures; all that the helpers import. -/
import Derived.Test.YtoloplpmjcgbdaaGreatDoorRows
import Derived.Test.YtoloplpmjcgbdaaGreatDoorMem
import Derived.Test.YtoloplpmjcgbdaaGreatDoorOpen
import Derived.BigQuiet
import Derived.Deep.QuietTactic
import Derived.StillTailTactics
import Derived.Deep.RegionHeld3
namespace Go.Proofs.YtoloplpmjcgbdaaGreatDoor
open Go.RowKit

/-- what is left of a measure -/
def szR (left : Int) (t : Nat) : Int := if left - t < 0 then -1 else left - t
theorem szR_no {left : Int} {t : Nat} (h : left - t < 0) : -1 = szR left t := by rw [szR, if_pos h]
theorem szR_yes {left : Int} {t : Nat} (_h : 0 ≤ left - t) : left - t = szR left t := by rw [szR, if_neg (by omega)]
theorem szR_add {left : Int} {t u : Nat} : szR (left - t) u = szR left (t + u) := by
  unfold szR; rw [show left - (t : Int) - (u : Int) = left - ((t + u : Nat) : Int) by omega]
theorem szR_neg {left : Int} {t : Nat} (h : szR left t < 0) : left - t < 0 := by
  unfold szR at h; split at h <;> omega
theorem szR_nneg {left : Int} {t : Nat} (h : ¬ szR left t < 0) : 0 ≤ left - t := by
  unfold szR at h; split at h <;> omega
def sumOf {α : Type} (f : α → Nat) (xs : List α) : Nat := (xs.map f).sum
theorem sumOf_succ {α : Type} (f : α → Nat) (xs : List α) (k : Nat) (h : k < xs.length) : sumOf f (xs.take (k + 1)) = sumOf f (xs.take k) + f xs[k] := by
  unfold sumOf; rw [List.take_succ_eq_append_getElem h, List.map_append, List.sum_append]; simp
theorem sumOf_le {α : Type} (f : α → Nat) (xs : List α) (k : Nat) : sumOf f (xs.take k) ≤ sumOf f xs := by
  unfold sumOf
  have h : (xs.map f).sum = ((xs.take k).map f).sum + ((xs.drop k).map f).sum := by rw [← List.sum_append, ← List.map_append, List.take_append_drop]
  omega
theorem sumOf_all {α : Type} (f : α → Nat) (xs : List α) : sumOf f (xs.take xs.length) = sumOf f xs := by rw [List.take_length]
theorem drop_at {α : Type} {xs : List α} {k : Nat} (h : k < xs.length) : xs.drop k = xs[k] :: xs.drop (k + 1) := List.drop_eq_getElem_cons h
theorem str_yes {a b : ByteArray} (h : a = b) : (a.toList == b.toList) = true := str_eq.2 h
theorem str_no {a b : ByteArray} (h : ¬ a = b) : (a.toList == b.toList) = false := by
  cases hb : (a.toList == b.toList) with
  | false => rfl
  | true => exact absurd (str_eq.1 hb) h
/-- how many there are of them -/
def cnt {α : Type} (p : α → Bool) (xs : List α) : Nat := (xs.filter p).length
theorem cnt_succ {α : Type} (p : α → Bool) (xs : List α) (k : Nat) (h : k < xs.length) : cnt p (xs.take (k + 1)) = cnt p (xs.take k) + if p xs[k] then 1 else 0 := by
  unfold cnt; rw [List.take_succ_eq_append_getElem h, List.filter_append]
  by_cases hp : p xs[k] <;> simp [hp]
theorem cnt_le {α : Type} (p : α → Bool) (xs : List α) (k : Nat) : cnt p (xs.take k) ≤ k := Nat.le_trans (List.length_filter_le _ _) (List.length_take_le _ _)
theorem cnt_yes {α : Type} {p : α → Bool} {xs : List α} {k : Nat} (h : k < xs.length) (hp : p xs[k] = true) : cnt p (xs.take (k + 1)) = cnt p (xs.take k) + 1 := by rw [cnt_succ p xs k h, if_pos hp]
theorem cnt_no {α : Type} {p : α → Bool} {xs : List α} {k : Nat} (h : k < xs.length) (hp : p xs[k] = false) : cnt p (xs.take (k + 1)) = cnt p (xs.take k) := by rw [cnt_succ p xs k h, hp]; rfl
end Go.Proofs.YtoloplpmjcgbdaaGreatDoor
