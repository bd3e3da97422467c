/- What is under a node, said of lists. -/
import Derived.Test.YtoloplpmjcgbdaaGreatDoorDeepD
namespace Go.Proofs.YtoloplpmjcgbdaaGreatDoor
open Go.RowKit

inductive Reach (xs : List Node) : Int → Int → Prop
  | self (k : Int) : Reach xs k k
  | kid {k j : Int} (i : Nat) : i < (nd xs k).kids.length → Reach xs (kd (nd xs k) i) j → Reach xs k j
theorem Reach.more {xs : List Node} {k p : Int} (h : Reach xs k p) {i : Nat} (hi : i < (nd xs p).kids.length) : Reach xs k (kd (nd xs p) i) := by
  induction h with
  | self k => exact .kid i hi (.self _)
  | kid t ht _ ih => exact .kid t ht (ih hi)
/-- the last step of a way -/
theorem Reach.last {xs : List Node} {k j : Int} (h : Reach xs k j) : j = k ∨ ∃ p, Reach xs k p ∧ ∃ t, t < (nd xs p).kids.length ∧ kd (nd xs p) t = j := by
  induction h with
  | self k => exact .inl rfl
  | kid t ht hr ih =>
    rcases ih with rfl | ⟨p, hp, q⟩
    · exact .inr ⟨_, .self _, t, ht, rfl⟩
    · exact .inr ⟨p, .kid t ht hp, q⟩
theorem Reach.le {xs : List Node} {k j : Int} (h : Reach xs k j) : ∀ b : Int, k ≤ b → (∀ i : Nat, (i : Int) ≤ b → Good xs i) → 0 ≤ k → 0 ≤ j ∧ j ≤ k := by
  induction h with
  | self k => exact fun _ _ _ h0 => ⟨h0, Int.le_refl _⟩
  | @kid k j t ht hr ih =>
    intro b hb hg h0
    have g := hg k.toNat (by omega)
    rw [Int.toNat_of_nonneg h0] at g
    have h1 := g.below t ht
    have h2 := ih b (by omega) hg h1.1
    omega
noncomputable def reachB (xs : List Node) (k j : Int) : Bool := @decide (Reach xs k j) (Classical.propDecidable _)
theorem reachB_iff {xs : List Node} {k j : Int} : reachB xs k j = true ↔ Reach xs k j := by unfold reachB; exact @decide_eq_true_iff _ (Classical.propDecidable _)
/-- what is under a node that has a depth -/
noncomputable def undL (xs : List Node) (k : Int) (n : Nat) : List Int := ((List.range n).filter fun j : Nat => reachB xs k (j : Int)).map fun j : Nat => (j : Int)
noncomputable def underL (xs : List Node) (k : Int) : List Int := if deepOf xs k = 0 then [] else undL xs k xs.length
theorem undL_yes {xs : List Node} {k : Int} {n : Nat} (h : Reach xs k (n : Int)) : undL xs k (n + 1) = undL xs k n ++ [(n : Int)] := by
  unfold undL
  rw [List.range_succ, List.filter_append, List.map_append]; simp [List.filter, reachB_iff.2 h]
theorem undL_no {xs : List Node} {k : Int} {n : Nat} (h : ¬ Reach xs k (n : Int)) : undL xs k (n + 1) = undL xs k n := by
  unfold undL
  have e : reachB xs k (n : Int) = false := by
    cases g : reachB xs k (n : Int) with
    | false => rfl
    | true => exact absurd (reachB_iff.1 g) h
  rw [List.range_succ, List.filter_append, List.map_append]; simp [List.filter, e]
theorem undL_more {xs : List Node} {k : Int} {n : Nat} (h : ∀ j : Nat, n ≤ j → ¬ Reach xs k (j : Int)) : ∀ m, undL xs k (n + m) = undL xs k n
  | 0 => rfl
  | m + 1 => by rw [← Nat.add_assoc, undL_no (h _ (by omega)), undL_more h m]
theorem undL_le (xs : List Node) (k : Int) (n : Nat) : (undL xs k n).length ≤ n := by
  unfold undL
  rw [List.length_map]
  exact Nat.le_trans (List.length_filter_le _ _) (by rw [List.length_range]; exact Nat.le_refl _)
theorem undL_mem {xs : List Node} {k x : Int} {n : Nat} (h : x ∈ undL xs k n) : 0 ≤ x ∧ x < n ∧ Reach xs k x := by
  unfold undL at h
  rw [List.mem_map] at h
  obtain ⟨j, hj, rfl⟩ := h
  rw [List.mem_filter, List.mem_range] at hj
  exact ⟨by omega, by omega, reachB_iff.1 hj.2⟩
theorem underL_mem {xs : List Node} {k x : Int} (h : x ∈ underL xs k) : 0 ≤ x ∧ x < xs.length ∧ Reach xs k x ∧ Good xs x := by
  unfold underL at h
  split at h
  · cases h
  · rename_i hd
    obtain ⟨h1, h2, h3⟩ := undL_mem h
    obtain ⟨k0, k1, hg⟩ := deepOf_pos hd
    have h4 := h3.le k (Int.le_refl _) hg k0
    have g := hg x.toNat (by omega)
    rw [Int.toNat_of_nonneg h1] at g
    exact ⟨h1, h2, h3, g⟩
theorem underL_le (xs : List Node) (k : Int) : (underL xs k).length ≤ xs.length := by
  unfold underL
  split
  · exact Nat.zero_le _
  · exact undL_le _ _ _
theorem underL_zero {xs : List Node} {k : Int} (h : deepOf xs k = 0) : underL xs k = [] := by unfold underL; rw [if_pos h]
/-- only the first k+1 can be under it -/
theorem underL_short {xs : List Node} {k : Nat} (h : deepOf xs (k : Int) ≠ 0) : underL xs (k : Int) = undL xs (k : Int) (k + 1) := by
  obtain ⟨k0, k1, hg⟩ := deepOf_pos h
  have := undL_more (xs := xs) (k := (k : Int)) (n := k + 1) (fun j hj c => by have := c.le k (Int.le_refl _) hg k0; omega) (xs.length - (k + 1))
  unfold underL
  rw [if_neg h, ← this, show k + 1 + (xs.length - (k + 1)) = xs.length by omega]
/-- what is marked when the nodes behind i are done -/
def Marked (xs : List Node) (k i j : Int) : Prop := j = k ∨ ∃ p, i < p ∧ Reach xs k p ∧ ∃ t, t < (nd xs p).kids.length ∧ kd (nd xs p) t = j
theorem marked_self {xs : List Node} {k i : Int} (hg : ∀ i : Nat, (i : Int) ≤ k → Good xs i) (h0 : 0 ≤ k) : Marked xs k i i ↔ Reach xs k i := by
  constructor
  · rintro (rfl | ⟨p, _, hp, t, ht, rfl⟩)
    · exact .self _
    · exact hp.more ht
  · intro h
    rcases h.last with rfl | ⟨p, hp, t, ht, rfl⟩
    · exact .inl rfl
    · have hl := hp.le k (Int.le_refl _) hg h0
      have g := hg p.toNat (by omega)
      rw [Int.toNat_of_nonneg hl.1] at g
      exact .inr ⟨p, (g.below t ht).2, hp, t, ht, rfl⟩
theorem marked_end {xs : List Node} {k j : Int} (hg : ∀ i : Nat, (i : Int) ≤ k → Good xs i) (h0 : 0 ≤ k) : Marked xs k (-1) j ↔ Reach xs k j := by
  constructor
  · rintro (rfl | ⟨p, _, hp, t, ht, rfl⟩)
    · exact .self _
    · exact hp.more ht
  · intro h
    rcases h.last with rfl | ⟨p, hp, t, ht, rfl⟩
    · exact .inl rfl
    · have hl := hp.le k (Int.le_refl _) hg h0
      exact .inr ⟨p, by omega, hp, t, ht, rfl⟩
theorem marked_no {xs : List Node} {k i j : Int} (h : ¬ Reach xs k i) : Marked xs k (i - 1) j ↔ Marked xs k i j := by
  constructor
  · rintro (rfl | ⟨p, h1, hp, r⟩)
    · exact .inl rfl
    · refine .inr ⟨p, ?_, hp, r⟩
      have : p ≠ i := fun e => h (e ▸ hp)
      omega
  · rintro (rfl | ⟨p, h1, hp, r⟩)
    · exact .inl rfl
    · exact .inr ⟨p, by omega, hp, r⟩
theorem marked_yes {xs : List Node} {k i j : Int} (h : Reach xs k i) : Marked xs k (i - 1) j ↔ (Marked xs k i j ∨ ∃ t, t < (nd xs i).kids.length ∧ kd (nd xs i) t = j) := by
  constructor
  · rintro (rfl | ⟨p, h1, hp, r⟩)
    · exact .inl (.inl rfl)
    · by_cases e : p = i
      · subst e; exact .inr r
      · exact .inl (.inr ⟨p, by omega, hp, r⟩)
  · rintro ((rfl | ⟨p, h1, hp, r⟩) | r)
    · exact .inl rfl
    · exact .inr ⟨p, by omega, hp, r⟩
    · exact .inr ⟨i, by omega, h, r⟩
/-- marks that hold of all that is under what they hold of, up to a place -/
def Closed (xs : List Node) (bs : List Bool) (k : Int) : Prop := ∀ j t, 0 ≤ j → j ≤ k → bs.getD j.toNat false = true → t < (nd xs j).kids.length → bs.getD (kd (nd xs j) t).toNat false = true
theorem Closed.reach {xs : List Node} {bs : List Bool} {k j : Int} (h : Reach xs k j) (hg : ∀ i : Nat, (i : Int) ≤ k → Good xs i) (h0 : 0 ≤ k) (hc : Closed xs bs k) (hk : bs.getD k.toNat false = true) : bs.getD j.toNat false = true := by
  induction h with
  | self k => exact hk
  | @kid k j t ht hr ih =>
    have g := hg k.toNat (by omega)
    rw [Int.toNat_of_nonneg h0] at g
    have hb := g.below t ht
    exact ih (fun i hi => hg i (by omega)) hb.1 (fun a b h1 h2 h3 h4 => hc a b h1 (by omega) h3 h4) (hc k t h0 (Int.le_refl _) hk ht)
end Go.Proofs.YtoloplpmjcgbdaaGreatDoor
