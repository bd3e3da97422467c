/- How deep nodes are, said of lists. -/
import Derived.Test.YtoloplpmjcgbdaaGreatDoorNodeD
namespace Go.Proofs.YtoloplpmjcgbdaaGreatDoor
open Go.RowKit

def maxK (ds : List Int) (ks : List Int) : Int := ks.foldl (fun m k => max m (ds.getD k.toNat 0)) 0
/-- the depths of the first nodes; none: one of them is no good -/
noncomputable def deeps (xs : List Node) : Nat → Option (List Int)
  | 0 => some []
  | n + 1 => match deeps xs n with
    | none => none
    | some ds => if nodeOk xs (n : Int) = true then (if 14 ≤ maxK ds (nd xs (n : Int)).kids then none else some (ds ++ [maxK ds (nd xs (n : Int)).kids + 1])) else none
noncomputable def deepOf (xs : List Node) (k : Int) : Int := if 0 ≤ k ∧ k < xs.length then (match deeps xs (k.toNat + 1) with | none => 0 | some ds => ds.getD k.toNat 0) else 0
theorem maxK_succ {ds ks : List Int} {j : Nat} (h : j < ks.length) : maxK ds (ks.take (j + 1)) = max (maxK ds (ks.take j)) (ds.getD ks[j].toNat 0) := by
  unfold maxK
  rw [List.take_succ_eq_append_getElem h, List.foldl_append]; rfl
theorem maxK_ge0 (ds ks : List Int) : 0 ≤ maxK ds ks := by
  unfold maxK
  have : ∀ (ks : List Int) (m : Int), 0 ≤ m → 0 ≤ ks.foldl (fun m k => max m (ds.getD k.toNat 0)) m := by
    intro ks
    induction ks with
    | nil => intro m h; exact h
    | cons k ks ih => intro m h; exact ih _ (Int.le_trans h (Int.le_max_left _ _))
  exact this ks 0 (Int.le_refl _)
theorem maxK_le {ds ks : List Int} {b : Int} (h0 : 0 ≤ b) (h : ∀ i, ds.getD i 0 ≤ b) : maxK ds ks ≤ b := by
  unfold maxK
  have : ∀ (ks : List Int) (m : Int), m ≤ b → ks.foldl (fun m k => max m (ds.getD k.toNat 0)) m ≤ b := by
    intro ks
    induction ks with
    | nil => intro m h; exact h
    | cons k ks ih => intro m hm; exact ih _ (Int.max_le.2 ⟨hm, h _⟩)
  exact this ks 0 h0
theorem deeps_none {xs : List Node} {n : Nat} (h : deeps xs n = none) : ∀ m, n ≤ m → deeps xs m = none := by
  intro m hm
  induction m with
  | zero => obtain rfl : n = 0 := by omega
            exact h
  | succ m ih =>
    by_cases e : n = m + 1
    · subst e; exact h
    · rw [deeps, ih (by omega)]
theorem deeps_succ {xs : List Node} {n : Nat} {ds : List Int} (h : deeps xs n = some ds) (hn : nodeOk xs (n : Int) = true) (hm : maxK ds (nd xs (n : Int)).kids < 14) : deeps xs (n + 1) = some (ds ++ [maxK ds (nd xs (n : Int)).kids + 1]) := by
  rw [deeps, h]
  show (if _ then _ else _) = _
  rw [if_pos hn, if_neg (by omega)]
theorem deeps_bad {xs : List Node} {n : Nat} {ds : List Int} (h : deeps xs n = some ds) (hn : nodeOk xs (n : Int) = false) : deeps xs (n + 1) = none := by
  rw [deeps, h]
  show (if _ then _ else _) = _
  rw [hn]; rfl
theorem deeps_deep {xs : List Node} {n : Nat} {ds : List Int} (h : deeps xs n = some ds) (hn : nodeOk xs (n : Int) = true) (hm : 14 ≤ maxK ds (nd xs (n : Int)).kids) : deeps xs (n + 1) = none := by
  rw [deeps, h]
  show (if _ then _ else _) = _
  rw [if_pos hn, if_pos hm]
theorem deeps_some {xs : List Node} {n : Nat} : ∀ {ds : List Int}, deeps xs n = some ds → ds.length = n ∧ (∀ i, i < n → nodeOk xs (i : Int) = true ∧ 1 ≤ ds.getD i 0) ∧ ∀ i, ds.getD i 0 ≤ 14 := by
  induction n with
  | zero =>
    intro ds h
    rw [deeps] at h
    injection h with h
    subst h
    exact ⟨rfl, fun i hi => absurd hi (Nat.not_lt_zero _), fun i => by simp⟩
  | succ n ih =>
    intro ds h
    rw [deeps] at h
    split at h
    · cases h
    · rename_i d0 hd
      obtain ⟨h1, h2, h3⟩ := ih hd
      split at h
      · rename_i hn
        split at h
        · cases h
        · rename_i hm
          injection h with h
          subst h
          have h0 := maxK_ge0 d0 (nd xs (n : Int)).kids
          refine ⟨by simp [h1], fun i hi => ?_, fun i => ?_⟩
          · by_cases e : i = n
            · subst e
              refine ⟨hn, ?_⟩
              rw [List.getD_eq_getElem?_getD, List.getElem?_append_right (by omega), h1, Nat.sub_self]
              show 1 ≤ _ + 1
              omega
            · rw [List.getD_eq_getElem?_getD, List.getElem?_append_left (by omega), ← List.getD_eq_getElem?_getD]
              exact h2 i (by omega)
          · by_cases e : i < d0.length
            · rw [List.getD_eq_getElem?_getD, List.getElem?_append_left e, ← List.getD_eq_getElem?_getD]; exact h3 i
            · rw [List.getD_eq_getElem?_getD, List.getElem?_append_right (by omega)]
              cases hq : i - d0.length with
              | zero => show _ + 1 ≤ (14 : Int); omega
              | succ q => show (0 : Int) ≤ 14; omega
      · cases h
/-- a node of a depth: it and all before it are good -/
theorem deepOf_pos {xs : List Node} {k : Int} (h : deepOf xs k ≠ 0) : 0 ≤ k ∧ k < xs.length ∧ ∀ i : Nat, (i : Int) ≤ k → Good xs i := by
  unfold deepOf at h
  split at h
  · rename_i hk
    refine ⟨hk.1, hk.2, fun i hi => ?_⟩
    split at h
    · exact absurd rfl h
    · rename_i ds hd
      exact nodeOk_iff.1 ((deeps_some hd).2.1 i (by omega)).1
  · exact absurd rfl h
theorem deepOf_out {xs : List Node} {k : Int} (h : ¬ (0 ≤ k ∧ k < xs.length)) : deepOf xs k = 0 := by unfold deepOf; rw [if_neg h]
theorem deepOf_none {xs : List Node} {k : Nat} (h : k < xs.length) (hd : deeps xs (k + 1) = none) : deepOf xs (k : Int) = 0 := by
  unfold deepOf
  rw [if_pos (by omega), Int.toNat_natCast, hd]
theorem deepOf_some {xs : List Node} {k : Nat} {ds : List Int} (h : k < xs.length) (hd : deeps xs (k + 1) = some ds) : deepOf xs (k : Int) = ds.getD k 0 := by
  unfold deepOf
  rw [if_pos (by omega), Int.toNat_natCast, hd]
theorem deepOf_some_pos {xs : List Node} {k : Nat} {ds : List Int} (h : k < xs.length) (hd : deeps xs (k + 1) = some ds) : deepOf xs (k : Int) ≠ 0 := by
  rw [deepOf_some h hd]
  have := ((deeps_some hd).2.1 k (by omega)).2
  omega
theorem fill_set {ds : List Int} {m : Nat} (d : Int) : (ds ++ List.replicate (m + 1) (0 : Int)).set ds.length d = (ds ++ [d]) ++ List.replicate m 0 := by
  rw [List.set_append_right _ _ (Nat.le_refl _), Nat.sub_self, List.replicate_succ, List.set_cons_zero, List.append_assoc]; rfl
theorem fill_get {ds : List Int} {m i : Nat} (h : i < ds.length) (h2 : i < (ds ++ List.replicate m (0 : Int)).length) : (ds ++ List.replicate m (0 : Int))[i] = ds.getD i 0 := by
  rw [List.getElem_append_left h, List.getD_eq_getElem?_getD, List.getElem?_eq_getElem h]; rfl
end Go.Proofs.YtoloplpmjcgbdaaGreatDoor
