/- What a good node is, said of lists. -/
import Derived.Test.YtoloplpmjcgbdaaGreatDoorHNode
import Derived.Test.YtoloplpmjcgbdaaGreatDoorSignP
namespace Go.Proofs.YtoloplpmjcgbdaaGreatDoor
open Go.RowKit

def keyWs : List ByteArray := [⟨#[99, 108, 97, 115, 115]⟩, ⟨#[118, 97, 114]⟩, ⟨#[105, 102]⟩, ⟨#[101, 108, 115, 101]⟩, ⟨#[119, 104, 105, 108, 101]⟩, ⟨#[114, 101, 116, 117, 114, 110]⟩]
def keyW (s : ByteArray) : Bool := inMarks keyWs s
def chainMs : List ByteArray := [⟨#[38, 38]⟩, ⟨#[124, 124]⟩, ⟨#[61, 61]⟩, ⟨#[60]⟩, ⟨#[43]⟩, ⟨#[45]⟩, ⟨#[42]⟩]
/-- the text is one sign of a kind -/
def isSg (s : ByteArray) (kind : Int) : Bool := decide (sgn s 0 = some (kind, s, s.size))
def isNm (s : ByteArray) : Bool := isSg s 1 && !keyW s
def textOk (kind : Int) (s : ByteArray) : Bool :=
  if kind = 1 ∨ kind = 6 ∨ kind = 12 ∨ kind = 13 ∨ kind = 20 ∨ kind = 21 then isNm s
  else if kind = 2 then isSg s 2 else if kind = 3 then isSg s 3 else if kind = 19 then isSg s 5
  else if kind = 7 then inMarks chainMs s else s.toList.isEmpty
def isVal (k : Int) : Bool := decide (1 ≤ k) && decide (k ≤ 11)
def isStp (k : Int) : Bool := decide (12 ≤ k) && decide (k ≤ 17)
def isMem (k : Int) : Bool := (k == 12) || (k == 20) || (k == 19)
def loK (kind : Int) : Nat := if kind = 5 ∨ kind = 9 ∨ kind = 20 ∨ kind = 6 ∨ kind = 11 ∨ kind = 13 ∨ kind = 14 then 1 else if kind = 7 ∨ kind = 10 ∨ kind = 16 ∨ kind = 17 then 2 else if kind = 8 then 3 else 0
def hiK (kind : Int) : Nat := if kind = 4 ∨ kind = 18 ∨ kind = 21 ∨ kind = 22 ∨ kind = 5 ∨ kind = 9 ∨ kind = 20 ∨ kind = 7 ∨ kind = 10 then 12 else if kind = 6 ∨ kind = 11 ∨ kind = 13 ∨ kind = 14 ∨ kind = 12 ∨ kind = 15 then 1 else if kind = 8 ∨ kind = 16 then 3 else if kind = 17 then 2 else 0
/-- may a kid of kind y stand at place i of n of a node? -/
def fit1 (kind : Int) (n i : Nat) (y : Int) : Bool :=
  if kind = 9 then (if i + 1 < n then y == 1 else isVal y)
  else if kind = 20 then (if i + 1 < n then y == 1 else y == 18)
  else if kind = 10 then (if 0 < i then y == 5 else isVal y)
  else if kind = 16 ∨ kind = 17 then (if 0 < i then y == 18 else isVal y)
  else if kind = 18 then isStp y || (y == 19)
  else if kind = 21 then isMem y
  else if kind = 22 then isMem y || (y == 21)
  else isVal y
def nd (xs : List Node) (i : Int) : Node := xs.getD i.toNat Node.zero
def kd (x : Node) (i : Nat) : Int := x.kids.getD i 0
/-- a call among kids has a first kid that is a node -/
def callOk (xs : List Node) (y : Node) : Prop := y.kind = 5 → 0 < y.kids.length ∧ 0 ≤ kd y 0 ∧ kd y 0 < xs.length
structure Good (xs : List Node) (k : Int) : Prop where
  low : 0 ≤ k
  high : k < xs.length
  kind : 1 ≤ (nd xs k).kind ∧ (nd xs k).kind ≤ 22
  text : textOk (nd xs k).kind (nd xs k).text = true
  blank : (isStp (nd xs k).kind || isMem (nd xs k).kind || (nd xs k).kind == 21) = true ∨ (nd xs k).blank = false
  count : loK (nd xs k).kind ≤ (nd xs k).kids.length ∧ (nd xs k).kids.length ≤ hiK (nd xs k).kind
  below : ∀ i, i < (nd xs k).kids.length → 0 ≤ kd (nd xs k) i ∧ kd (nd xs k) i < k
  apart : ∀ i j, i < j → j < (nd xs k).kids.length → kd (nd xs k) i ≠ kd (nd xs k) j
  calls : ∀ i, i < (nd xs k).kids.length → callOk xs (nd xs (kd (nd xs k) i))
  fits : ∀ i, i < (nd xs k).kids.length → fit1 (nd xs k).kind (nd xs k).kids.length i (nd xs (kd (nd xs k) i)).kind = true
  names : (nd xs k).kind = 10 → ∀ i, 0 < i → i < (nd xs k).kids.length → (nd xs (kd (nd xs (kd (nd xs k) i)) 0)).kind = 1
noncomputable def nodeOk (xs : List Node) (k : Int) : Bool := @decide (Good xs k) (Classical.propDecidable _)
theorem nodeOk_iff {xs : List Node} {k : Int} : nodeOk xs k = true ↔ Good xs k := by unfold nodeOk; exact @decide_eq_true_iff _ (Classical.propDecidable _)
theorem nodeOk_no {xs : List Node} {k : Int} (h : ¬ Good xs k) : nodeOk xs k = false := by
  cases g : nodeOk xs k with
  | false => rfl
  | true => exact absurd (nodeOk_iff.1 g) h
theorem nd_at {xs : List Node} {k : Nat} (h : k < xs.length) : nd xs (k : Int) = xs[k] := by
  unfold nd; rw [List.getD_eq_getElem?_getD, Int.toNat_natCast, List.getElem?_eq_getElem h]; rfl
theorem kd_at {x : Node} {k : Nat} (h : k < x.kids.length) : kd x k = x.kids[k] := by
  unfold kd; rw [List.getD_eq_getElem?_getD, List.getElem?_eq_getElem h]; rfl
/-- what the program asks of the kids' kinds -/
def lastK (ks : List Int) (p : Int → Bool) : Bool := decide (0 < ks.length) && p (ks.getD (ks.length - 1) 0) && (ks.take (ks.length - 1)).all (· == 1)
def kFit (kind : Int) (ks : List Int) : Bool :=
  if kind = 1 ∨ kind = 2 ∨ kind = 3 ∨ kind = 19 then decide (ks.length = 0)
  else if kind = 4 then ks.all isVal
  else if kind = 5 then decide (1 ≤ ks.length) && ks.all isVal
  else if kind = 7 then decide (2 ≤ ks.length) && ks.all isVal
  else if kind = 8 then decide (ks.length = 3) && ks.all isVal
  else if kind = 6 ∨ kind = 11 ∨ kind = 13 ∨ kind = 14 then decide (ks.length = 1) && ks.all isVal
  else if kind = 12 ∨ kind = 15 then decide (ks.length ≤ 1) && ks.all isVal
  else if kind = 9 then lastK ks isVal
  else if kind = 10 then decide (2 ≤ ks.length) && isVal (ks.getD 0 0) && (ks.drop 1).all (· == 5)
  else if kind = 16 then (decide (2 ≤ ks.length) && decide (ks.length ≤ 3)) && isVal (ks.getD 0 0) && (ks.drop 1).all (· == 18)
  else if kind = 17 then decide (ks.length = 2) && isVal (ks.getD 0 0) && (ks.getD 1 0 == 18)
  else if kind = 18 then ks.all (fun y => isStp y || (y == 19))
  else if kind = 20 then lastK ks (· == 18)
  else if kind = 21 then ks.all isMem
  else if kind = 22 then ks.all (fun y => isMem y || (y == 21))
  else false
theorem all_getD {ks : List Int} {p : Int → Bool} : ks.all p = true ↔ ∀ i, i < ks.length → p (ks.getD i 0) = true := by
  rw [List.all_eq_true]
  constructor
  · intro h i hi
    rw [List.getD_eq_getElem?_getD, List.getElem?_eq_getElem hi]
    exact h _ (List.getElem_mem hi)
  · intro h x hx
    obtain ⟨i, hi, rfl⟩ := List.mem_iff_getElem.1 hx
    have := h i hi
    rw [List.getD_eq_getElem?_getD, List.getElem?_eq_getElem hi] at this
    exact this
theorem drop1_all {ks : List Int} {p : Int → Bool} : (ks.drop 1).all p = true ↔ ∀ i, 0 < i → i < ks.length → p (ks.getD i 0) = true := by
  rw [all_getD]
  constructor
  · intro h i h0 hi
    have := h (i - 1) (by rw [List.length_drop]; omega)
    rw [List.getD_eq_getElem?_getD, List.getElem?_drop, show 1 + (i - 1) = i by omega] at this
    rw [List.getD_eq_getElem?_getD]; exact this
  · intro h i hi
    rw [List.length_drop] at hi
    have := h (1 + i) (by omega) (by omega)
    rw [List.getD_eq_getElem?_getD, List.getElem?_drop, ← List.getD_eq_getElem?_getD]; exact this
theorem takel_all {ks : List Int} {p : Int → Bool} : (ks.take (ks.length - 1)).all p = true ↔ ∀ i, i + 1 < ks.length → p (ks.getD i 0) = true := by
  rw [all_getD]
  constructor
  · intro h i hi
    have := h i (by rw [List.length_take]; omega)
    rw [List.getD_eq_getElem?_getD, List.getElem?_take_of_lt (by omega)] at this
    rw [List.getD_eq_getElem?_getD]; exact this
  · intro h i hi
    rw [List.length_take] at hi
    rw [List.getD_eq_getElem?_getD, List.getElem?_take_of_lt (by omega), ← List.getD_eq_getElem?_getD]
    exact h i (by omega)
theorem lastK_iff {ks : List Int} {p : Int → Bool} : lastK ks p = true ↔ 1 ≤ ks.length ∧ ∀ i, i < ks.length → (if i + 1 < ks.length then ks.getD i 0 == 1 else p (ks.getD i 0)) = true := by
  unfold lastK
  rw [Bool.and_eq_true, Bool.and_eq_true, decide_eq_true_iff, takel_all]
  constructor
  · rintro ⟨⟨h1, h2⟩, h3⟩
    refine ⟨h1, fun i hi => ?_⟩
    by_cases c : i + 1 < ks.length
    · rw [if_pos c]; exact h3 i c
    · rw [if_neg c, show i = ks.length - 1 by omega]; exact h2
  · rintro ⟨h1, h2⟩
    refine ⟨⟨h1, ?_⟩, fun i hi => ?_⟩
    · have := h2 (ks.length - 1) (by omega)
      rwa [if_neg (by omega)] at this
    · have := h2 i (by omega)
      rwa [if_pos hi] at this
theorem headK_iff {ks : List Int} {p q : Int → Bool} (h0 : 1 ≤ ks.length) : (p (ks.getD 0 0) = true ∧ (ks.drop 1).all q = true) ↔ ∀ i, i < ks.length → (if 0 < i then q (ks.getD i 0) else p (ks.getD i 0)) = true := by
  rw [drop1_all]
  constructor
  · rintro ⟨h1, h2⟩ i hi
    by_cases c : 0 < i
    · rw [if_pos c]; exact h2 i c hi
    · rw [if_neg c, show i = 0 by omega]; exact h1
  · intro h
    refine ⟨?_, fun i c hi => ?_⟩
    · have := h 0 h0; rwa [if_neg (by omega)] at this
    · have := h i hi; rwa [if_pos c] at this
theorem kind_cases (k : Int) : k = 1 ∨ k = 2 ∨ k = 3 ∨ k = 4 ∨ k = 5 ∨ k = 6 ∨ k = 7 ∨ k = 8 ∨ k = 9 ∨ k = 10 ∨ k = 11 ∨ k = 12 ∨ k = 13 ∨ k = 14 ∨ k = 15 ∨ k = 16 ∨ k = 17 ∨ k = 18 ∨ k = 19 ∨ k = 20 ∨ k = 21 ∨ k = 22 ∨ ¬ (1 ≤ k ∧ k ≤ 22) := by omega
theorem kFit_iff (kind : Int) (ks : List Int) (h12 : ks.length ≤ 12) : kFit kind ks = true ↔ (1 ≤ kind ∧ kind ≤ 22) ∧ (loK kind ≤ ks.length ∧ ks.length ≤ hiK kind) ∧ ∀ i, i < ks.length → fit1 kind ks.length i (ks.getD i 0) = true := by
  rcases kind_cases kind with rfl | rfl | rfl | rfl | rfl | rfl | rfl | rfl | rfl | rfl | rfl | rfl | rfl | rfl | rfl | rfl | rfl | rfl | rfl | rfl | rfl | rfl | h
  case inr.inr.inr.inr.inr.inr.inr.inr.inr.inr.inr.inr.inr.inr.inr.inr.inr.inr.inr.inr.inr.inr =>
    constructor
    · intro q
      unfold kFit at q
      rw [if_neg (by omega), if_neg (by omega), if_neg (by omega), if_neg (by omega), if_neg (by omega), if_neg (by omega), if_neg (by omega), if_neg (by omega), if_neg (by omega), if_neg (by omega), if_neg (by omega), if_neg (by omega), if_neg (by omega), if_neg (by omega), if_neg (by omega)] at q
      cases q
    · intro q; exact absurd q.1 h
  all_goals simp only [kFit, loK, hiK, fit1, Int.reduceEq, or_true, or_false, or_self, if_true, if_false]
  all_goals first
    | (simp only [decide_eq_true_iff]; exact ⟨fun q => ⟨by omega, by omega, fun i hi => by omega⟩, fun q => by omega⟩)
    | (rw [all_getD]; exact ⟨fun q => ⟨by omega, by omega, q⟩, fun q => q.2.2⟩)
    | (rw [Bool.and_eq_true, decide_eq_true_iff, all_getD]; exact ⟨fun q => ⟨by omega, by omega, q.2⟩, fun q => ⟨by omega, q.2.2⟩⟩)
    | (rw [lastK_iff]; exact ⟨fun q => ⟨by omega, by omega, q.2⟩, fun q => ⟨by omega, q.2.2⟩⟩)
    | (rw [Bool.and_eq_true, Bool.and_eq_true, decide_eq_true_iff]; constructor
       · rintro ⟨⟨a, b⟩, c⟩; exact ⟨by omega, by omega, (headK_iff (p := isVal) (q := fun y => y == 5) (by omega)).1 ⟨b, c⟩⟩
       · rintro ⟨_, a, b⟩; have h := (headK_iff (p := isVal) (q := fun y => y == 5) (by omega)).2 b; exact ⟨⟨by omega, h.1⟩, h.2⟩)
    | (rw [Bool.and_eq_true, Bool.and_eq_true, Bool.and_eq_true, decide_eq_true_iff, decide_eq_true_iff]; constructor
       · rintro ⟨⟨⟨a, d⟩, b⟩, c⟩; exact ⟨by omega, by omega, (headK_iff (p := isVal) (q := fun y => y == 18) (by omega)).1 ⟨b, c⟩⟩
       · rintro ⟨_, a, b⟩; have h := (headK_iff (p := isVal) (q := fun y => y == 18) (by omega)).2 b; exact ⟨⟨⟨by omega, by omega⟩, h.1⟩, h.2⟩)
    | skip
  -- while: a value, then a block
  rw [Bool.and_eq_true, Bool.and_eq_true, decide_eq_true_iff]
  constructor
  · rintro ⟨⟨h1, h2⟩, h3⟩
    refine ⟨by omega, by omega, fun i hi => ?_⟩
    by_cases c : 0 < i
    · rw [if_pos c, show i = 1 by omega]; exact h3
    · rw [if_neg c, show i = 0 by omega]; exact h2
  · rintro ⟨_, h1, h2⟩
    have a := h2 0 (by omega)
    have b := h2 1 (by omega)
    rw [if_neg (by omega)] at a
    rw [if_pos (by omega)] at b
    exact ⟨⟨by omega, a⟩, b⟩
end Go.Proofs.YtoloplpmjcgbdaaGreatDoor
