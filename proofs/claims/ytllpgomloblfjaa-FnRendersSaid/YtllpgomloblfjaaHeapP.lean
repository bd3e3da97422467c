/- Heaps of states, said of lists: what is less, a heap, one state in, the first one out. -/
import Derived.Test.YtllpgomloblfjaaBase
namespace Go.Proofs.Ytllpgomloblfjaa

structure StL where
  vals : List Int
  sum : Int
/-- which list is ahead: -1, 0, 1 -/
def cmpL : List Int → List Int → Int
  | [], [] => 0
  | [], _ :: _ => -1
  | _ :: _, [] => 1
  | a :: xs, b :: ys => if a < b then -1 else if b < a then 1 else cmpL xs ys
theorem cmpL_trans : ∀ (a b c : List Int), ¬ cmpL b a < 0 → ¬ cmpL c b < 0 → ¬ cmpL c a < 0
  | [], [], [], _, _ => by simp [cmpL]
  | [], [], _ :: _, _, _ => by simp [cmpL]
  | [], _ :: _, [], _, h => by simp [cmpL] at h
  | [], _ :: _, _ :: _, _, _ => by simp [cmpL]
  | _ :: _, [], _, h, _ => by simp [cmpL] at h
  | _ :: _, _ :: _, [], _, h => by simp [cmpL] at h
  | a :: xs, b :: ys, c :: zs, h1, h2 => by
    simp only [cmpL] at h1 h2 ⊢
    split at h1
    · omega
    · split at h1
      · split at h2
        · omega
        · rw [if_neg (by omega)]
          rw [if_pos (by omega)]
          omega
      · split at h2
        · omega
        · split at h2
          · rw [if_neg (by omega), if_pos (by omega)]; omega
          · rw [if_neg (by omega), if_neg (by omega)]
            exact cmpL_trans xs ys zs h1 h2
theorem cmpL_total : ∀ (a b : List Int), ¬ cmpL a b < 0 ∨ ¬ cmpL b a < 0
  | [], [] => by simp [cmpL]
  | [], _ :: _ => by simp [cmpL]
  | _ :: _, [] => by simp [cmpL]
  | a :: xs, b :: ys => by
    simp only [cmpL]
    by_cases h1 : a < b
    · right; rw [if_neg (by omega), if_pos h1]; omega
    · by_cases h2 : b < a
      · left; rw [if_neg h1, if_pos h2]; omega
      · rw [if_neg h1, if_neg h2, if_neg h2, if_neg h1]
        exact cmpL_total xs ys
def lessL (a b : StL) : Bool := decide (a.sum < b.sum) || (decide (a.sum = b.sum) && decide (cmpL a.vals b.vals < 0))
/-- a is no more than b -/
def LeS (a b : StL) : Prop := lessL b a = false
theorem less_iff {a b : StL} : lessL a b = true ↔ a.sum < b.sum ∨ (a.sum = b.sum ∧ cmpL a.vals b.vals < 0) := by
  unfold lessL
  simp [Bool.or_eq_true, Bool.and_eq_true]
theorem LeS.trans {a b c : StL} (h1 : LeS a b) (h2 : LeS b c) : LeS a c := by
  unfold LeS at *
  rw [← Bool.not_eq_true, less_iff] at *
  intro h
  rcases h with h | ⟨h, hc⟩
  · by_cases e : c.sum < b.sum
    · exact h2 (.inl e)
    · exact h1 (.inl (by omega))
  · by_cases e1 : b.sum < a.sum
    · exact h1 (.inl e1)
    · by_cases e2 : c.sum < b.sum
      · exact h2 (.inl e2)
      · exact cmpL_trans a.vals b.vals c.vals (fun x => h1 (.inr ⟨by omega, x⟩)) (fun x => h2 (.inr ⟨by omega, x⟩)) hc
theorem LeS.total (a b : StL) : LeS a b ∨ LeS b a := by
  unfold LeS
  rw [← Bool.not_eq_true, ← Bool.not_eq_true, less_iff, less_iff]
  rcases cmpL_total a.vals b.vals with h | h
  · by_cases e : b.sum < a.sum
    · right; rintro (x | ⟨x, y⟩)
      · omega
      · omega
    · by_cases e2 : a.sum = b.sum
      · right; rintro (x | ⟨_, y⟩)
        · omega
        · exact h y
      · left; rintro (x | ⟨x, _⟩) <;> omega
  · by_cases e : a.sum < b.sum
    · left; rintro (x | ⟨x, _⟩) <;> omega
    · by_cases e2 : a.sum = b.sum
      · left; rintro (x | ⟨_, y⟩)
        · omega
        · exact h y
      · right; rintro (x | ⟨x, _⟩) <;> omega
theorem LeS.refl (a : StL) : LeS a a := (LeS.total a a).elim id id
theorem LeS.of_less {a b : StL} (h : lessL a b = true) : LeS a b := (LeS.total a b).elim id fun c => by unfold LeS at c; rw [h] at c; cases c
/-- the state at a place -/
def stA (l : List StL) (i : Nat) : StL := l.getD i ⟨[], 0⟩
def upN (i : Nat) : Nat := (i + 1) / 2 - 1
def swapS (l : List StL) (i j : Nat) : List StL := (l.set i (stA l j)).set j (stA l i)
/-- pushed up from place i -/
def upF : Nat → List StL → Nat → List StL
  | 0, l, _ => l
  | f + 1, l, i => if 0 < i ∧ lessL (stA l i) (stA l (upN i)) = true then upF f (swapS l i (upN i)) (upN i) else l
def pushL (l : List StL) (x : StL) : List StL := upF (l.length + 1) (l ++ [x]) l.length
/-- the lesser place below i -/
def downN (l : List StL) (i : Nat) : Nat := if 2 * i + 2 < l.length ∧ lessL (stA l (2 * i + 2)) (stA l (2 * i + 1)) = true then 2 * i + 2 else 2 * i + 1
def downF : Nat → List StL → Nat → List StL
  | 0, l, _ => l
  | f + 1, l, i => if 2 * i + 1 < l.length ∧ lessL (stA l (downN l i)) (stA l i) = true then downF f (swapS l i (downN l i)) (downN l i) else l
def popL (l : List StL) : List StL := downF l.length ((l.set 0 (stA l (l.length - 1))).take (l.length - 1)) 0
def heapL (l : List StL) : Bool := (List.range l.length).all fun i => i == 0 || !lessL (stA l i) (stA l (upN i))
def sumS (l : List StL) : Int := (l.map fun x => x.sum).sum
theorem stA_set (l : List StL) (i k : Nat) (x : StL) (h : i < l.length) : stA (l.set i x) k = if i = k then x else stA l k := by
  unfold stA
  rw [List.getD_eq_getElem?_getD, List.getD_eq_getElem?_getD, List.getElem?_set]
  by_cases e : i = k
  · rw [if_pos e, if_pos h, if_pos e]; rfl
  · rw [if_neg e, if_neg e]
theorem stA_take (l : List StL) (n k : Nat) (h : k < n) : stA (l.take n) k = stA l k := by
  unfold stA
  rw [List.getD_eq_getElem?_getD, List.getD_eq_getElem?_getD, List.getElem?_take, if_pos h]
theorem stA_at {l : List StL} {k : Nat} (h : k < l.length) : l[k] = stA l k := by
  unfold stA
  rw [List.getD_eq_getElem?_getD, List.getElem?_eq_getElem h]; rfl
theorem swap_len (l : List StL) (i j : Nat) : (swapS l i j).length = l.length := by unfold swapS; rw [List.length_set, List.length_set]
theorem stA_swap {l : List StL} {i j : Nat} (hi : i < l.length) (hj : j < l.length) (k : Nat) : stA (swapS l i j) k = if k = j then stA l i else if k = i then stA l j else stA l k := by
  unfold swapS
  rw [stA_set _ _ _ _ (by rw [List.length_set]; exact hj), stA_set _ _ _ _ hi]
  by_cases e1 : j = k
  · rw [if_pos e1, if_pos e1.symm]
  · rw [if_neg e1, if_neg (Ne.symm e1)]
    by_cases e2 : i = k
    · rw [if_pos e2, if_pos e2.symm]
    · rw [if_neg e2, if_neg (Ne.symm e2)]
theorem sumS_set : ∀ (l : List StL) (i : Nat) (x : StL), i < l.length → sumS (l.set i x) = sumS l - (stA l i).sum + x.sum
  | [], i, x, h => by simp at h
  | a :: l, 0, x, _ => by simp [sumS, stA]; omega
  | a :: l, i + 1, x, h => by
    have := sumS_set l i x (by simpa using h)
    simp only [sumS, List.set_cons_succ, List.map_cons, List.sum_cons] at *
    have e : stA (a :: l) (i + 1) = stA l i := by simp [stA]
    rw [e]; omega
theorem sumS_swap {l : List StL} {i j : Nat} (hi : i < l.length) (hj : j < l.length) : sumS (swapS l i j) = sumS l := by
  unfold swapS
  rw [sumS_set _ _ _ (by rw [List.length_set]; exact hj), sumS_set _ _ _ hi, stA_set _ _ _ _ hi]
  by_cases e : i = j
  · subst e; rw [if_pos rfl]; omega
  · rw [if_neg e]; omega
theorem sumS_snoc (l : List StL) (x : StL) : sumS (l ++ [x]) = sumS l + x.sum := by simp [sumS]
theorem up_lt {i : Nat} (h : 0 < i) : upN i < i := by unfold upN; omega
/-- a heap, but for place i, which may be less than what is above it -/
structure UpOk (l : List StL) (i : Nat) : Prop where
  ok : ∀ k, k < l.length → 0 < k → k ≠ i → LeS (stA l (upN k)) (stA l k)
  kids : ∀ k, k < l.length → 0 < k → upN k = i → 0 < i → LeS (stA l (upN i)) (stA l k)
def HeapI (l : List StL) : Prop := ∀ k, k < l.length → 0 < k → LeS (stA l (upN k)) (stA l k)
theorem heapL_iff {l : List StL} : heapL l = true ↔ HeapI l := by
  unfold heapL HeapI LeS
  rw [List.all_eq_true]
  constructor
  · intro h k h1 h2
    have := h k (List.mem_range.2 h1)
    rw [Bool.or_eq_true, beq_iff_eq, Bool.not_eq_true'] at this
    rcases this with c | c
    · omega
    · exact c
  · intro h k hk
    rw [List.mem_range] at hk
    rw [Bool.or_eq_true, beq_iff_eq, Bool.not_eq_true']
    by_cases e : k = 0
    · exact .inl e
    · exact .inr (h k hk (by omega))
theorem up_step {l : List StL} {i : Nat} (h : UpOk l i) (hi : i < l.length) (h0 : 0 < i) (hl : lessL (stA l i) (stA l (upN i)) = true) : UpOk (swapS l i (upN i)) (upN i) := by
  have hu := up_lt h0
  have hul : upN i < l.length := by omega
  constructor
  · intro k hk h1 h2
    rw [swap_len] at hk
    rw [stA_swap hi hul, stA_swap hi hul]
    have hk1 := up_lt h1
    by_cases e1 : k = i
    · subst e1
      rw [if_pos rfl, if_neg h2, if_pos rfl]
      exact LeS.of_less hl
    · rw [if_neg h2, if_neg e1]
      by_cases e2 : upN k = upN i
      · rw [if_pos e2]
        exact (LeS.of_less hl).trans (by have := h.ok k hk h1 e1; rwa [e2] at this)
      · rw [if_neg e2]
        by_cases e3 : upN k = i
        · rw [if_pos e3]; exact h.kids k hk h1 e3 h0
        · rw [if_neg e3]; exact h.ok k hk h1 e1
  · intro k hk h1 h2 h3
    rw [swap_len] at hk
    rw [stA_swap hi hul, stA_swap hi hul]
    have hk1 := up_lt h1
    have hu2 := up_lt h3
    rw [if_neg (by omega), if_neg (by omega)]
    have h4 := h.ok (upN i) hul h3 (by omega)
    by_cases e1 : k = i
    · subst e1
      rw [if_neg (by omega), if_pos rfl]; exact h4
    · rw [if_neg (by omega), if_neg e1]
      have h5 := h.ok k hk h1 e1
      rw [h2] at h5
      exact h4.trans h5
theorem up_heap : ∀ (f : Nat) (l : List StL) (i : Nat), i < l.length → i < f → UpOk l i → HeapI (upF f l i) ∧ (upF f l i).length = l.length ∧ sumS (upF f l i) = sumS l ∧ ∀ k, k < l.length → ∃ j, j < l.length ∧ stA (upF f l i) k = stA l j
  | 0, l, i, _, h, _ => by omega
  | f + 1, l, i, hi, hf, h => by
    unfold upF
    split
    · rename_i hc
      have hu := up_lt hc.1
      have hul : upN i < l.length := by omega
      obtain ⟨a1, a2, a3, a4⟩ := up_heap f (swapS l i (upN i)) (upN i) (by rw [swap_len]; exact hul) (by omega) (up_step h hi hc.1 hc.2)
      rw [swap_len] at a2 a4
      refine ⟨a1, a2, a3.trans (sumS_swap hi hul), fun k hk => ?_⟩
      obtain ⟨j, hj, e⟩ := a4 k hk
      rw [e, stA_swap hi hul]
      split
      · exact ⟨i, hi, rfl⟩
      · split
        · exact ⟨upN i, hul, rfl⟩
        · exact ⟨j, hj, rfl⟩
    · rename_i hc
      refine ⟨fun k hk h1 => ?_, rfl, rfl, fun k hk => ⟨k, hk, rfl⟩⟩
      by_cases e : k = i
      · subst e
        unfold LeS
        rw [← Bool.not_eq_true]
        exact fun c => hc ⟨h1, c⟩
      · exact h.ok k hk h1 e
theorem push_heap {l : List StL} {x : StL} (h : HeapI l) : HeapI (pushL l x) ∧ (pushL l x).length = l.length + 1 ∧ sumS (pushL l x) = sumS l + x.sum := by
  have hlen : (l ++ [x]).length = l.length + 1 := by simp
  have hst : ∀ k, k < l.length → stA (l ++ [x]) k = stA l k := fun k hk => by
    unfold stA
    rw [List.getD_eq_getElem?_getD, List.getD_eq_getElem?_getD, List.getElem?_append_left hk]
  obtain ⟨a1, a2, a3, _⟩ := up_heap (l.length + 1) (l ++ [x]) l.length (by omega) (by omega) ⟨fun k hk h1 h2 => by
    rw [hlen] at hk
    have := up_lt h1
    rw [hst _ (by omega), hst _ (by omega)]
    exact h k (by omega) h1, fun k hk h1 h2 h3 => by
    rw [hlen] at hk
    have := up_lt h1
    omega⟩
  exact ⟨a1, by unfold pushL; rw [a2, hlen], by unfold pushL; rw [a3, sumS_snoc]⟩
/-- a heap, but for place i, which may be more than what is below it -/
structure DnOk (l : List StL) (i : Nat) : Prop where
  ok : ∀ k, k < l.length → 0 < k → upN k ≠ i → LeS (stA l (upN k)) (stA l k)
  kids : ∀ k, k < l.length → 0 < k → upN k = i → 0 < i → LeS (stA l (upN i)) (stA l k)
theorem up_kid {k i : Nat} (h : 0 < k) : upN k = i ↔ k = 2 * i + 1 ∨ k = 2 * i + 2 := by unfold upN; omega
theorem down_kid {l : List StL} {i : Nat} (h : 2 * i + 1 < l.length) : downN l i < l.length ∧ 0 < downN l i ∧ upN (downN l i) = i ∧ ∀ k, k < l.length → 0 < k → upN k = i → LeS (stA l (downN l i)) (stA l k) := by
  unfold downN
  split
  · rename_i hc
    refine ⟨hc.1, by omega, (up_kid (by omega)).2 (.inr rfl), fun k hk h1 h2 => ?_⟩
    rcases (up_kid h1).1 h2 with rfl | rfl
    · exact LeS.of_less hc.2
    · exact LeS.refl _
  · rename_i hc
    refine ⟨h, by omega, (up_kid (by omega)).2 (.inl rfl), fun k hk h1 h2 => ?_⟩
    rcases (up_kid h1).1 h2 with rfl | rfl
    · exact LeS.refl _
    · unfold LeS
      rw [← Bool.not_eq_true]
      exact fun c => hc ⟨hk, c⟩
theorem down_step {l : List StL} {i : Nat} (h : DnOk l i) (hi : 2 * i + 1 < l.length) (hl : lessL (stA l (downN l i)) (stA l i) = true) : DnOk (swapS l i (downN l i)) (downN l i) := by
  obtain ⟨d1, d2, d3, d4⟩ := down_kid hi
  have hil : i < l.length := by omega
  have hdi : i < downN l i := by have := up_lt d2; omega
  generalize downN l i = d at *
  constructor
  · intro k hk h1 h2
    rw [swap_len] at hk
    rw [stA_swap hil d1, stA_swap hil d1]
    have hk1 := up_lt h1
    rw [if_neg h2]
    by_cases e1 : k = d
    · subst e1
      rw [if_pos rfl, if_pos d3]
      exact LeS.of_less hl
    · rw [if_neg e1]
      by_cases e2 : k = i
      · subst e2
        rw [if_pos rfl, if_neg (by omega)]
        exact h.kids d d1 d2 d3 h1
      · rw [if_neg e2]
        by_cases e3 : upN k = i
        · rw [if_pos e3]; exact d4 k hk h1 e3
        · rw [if_neg e3]; exact h.ok k hk h1 e3
  · intro k hk h1 h2 h3
    rw [swap_len] at hk
    rw [stA_swap hil d1, stA_swap hil d1, d3]
    have hk1 := up_lt h1
    rw [if_neg (by omega), if_pos rfl, if_neg (by omega), if_neg (by omega)]
    have h5 := h.ok k hk h1 (by omega)
    rwa [h2] at h5
theorem down_heap : ∀ (f : Nat) (l : List StL) (i : Nat), l.length ≤ i + f → DnOk l i → HeapI (downF f l i) ∧ (downF f l i).length = l.length ∧ sumS (downF f l i) = sumS l ∧ ∀ k, k < l.length → ∃ j, j < l.length ∧ stA (downF f l i) k = stA l j
  | 0, l, i, hf, h => ⟨fun k hk h1 => h.ok k hk h1 (by have := up_lt h1; have : k < l.length := hk; omega), rfl, rfl, fun k hk => ⟨k, hk, rfl⟩⟩
  | f + 1, l, i, hf, h => by
    unfold downF
    split
    · rename_i hc
      obtain ⟨d1, d2, d3, _⟩ := down_kid hc.1
      have hil : i < l.length := by omega
      have hdi : i < downN l i := by have := up_lt d2; omega
      obtain ⟨a1, a2, a3, a4⟩ := down_heap f (swapS l i (downN l i)) (downN l i) (by rw [swap_len]; omega) (down_step h hc.1 hc.2)
      rw [swap_len] at a2 a4
      refine ⟨a1, a2, a3.trans (sumS_swap hil d1), fun k hk => ?_⟩
      obtain ⟨j, hj, e⟩ := a4 k hk
      rw [e, stA_swap hil d1]
      split
      · exact ⟨i, hil, rfl⟩
      · split
        · exact ⟨downN l i, d1, rfl⟩
        · exact ⟨j, hj, rfl⟩
    · rename_i hc
      refine ⟨fun k hk h1 => ?_, rfl, rfl, fun k hk => ⟨k, hk, rfl⟩⟩
      by_cases e : upN k = i
      · by_cases hi : 2 * i + 1 < l.length
        · obtain ⟨d1, d2, d3, d4⟩ := down_kid hi
          have h2 : LeS (stA l i) (stA l (downN l i)) := by
            unfold LeS
            rw [← Bool.not_eq_true]
            exact fun c => hc ⟨hi, c⟩
          rw [e]
          exact h2.trans (d4 k hk h1 e)
        · have := (up_kid h1).1 e
          have : k < l.length := hk
          omega
      · exact h.ok k hk h1 e
theorem heap_least {l : List StL} (h : HeapI l) : ∀ k, k < l.length → LeS (stA l 0) (stA l k) := by
  intro k
  induction k using Nat.strongRecOn with
  | _ k ih =>
    intro hk
    by_cases e : k = 0
    · subst e; exact LeS.refl _
    · have := up_lt (show 0 < k by omega)
      exact (ih (upN k) this (by omega)).trans (h k hk (by omega))
theorem pop_heap {l : List StL} (h : HeapI l) (hp : 0 < l.length) : HeapI (popL l) ∧ (popL l).length + 1 = l.length ∧ sumS (popL l) + (stA l 0).sum = sumS l ∧ ∀ k, k < (popL l).length → LeS (stA l 0) (stA (popL l) k) := by
  have hlen : ((l.set 0 (stA l (l.length - 1))).take (l.length - 1)).length = l.length - 1 := by rw [List.length_take, List.length_set]; omega
  have hst : ∀ k, k < l.length - 1 → stA ((l.set 0 (stA l (l.length - 1))).take (l.length - 1)) k = if 0 = k then stA l (l.length - 1) else stA l k := fun k hk => by
    rw [stA_take _ _ _ hk, stA_set l 0 k _ hp]
  have hsum : sumS ((l.set 0 (stA l (l.length - 1))).take (l.length - 1)) + (stA l 0).sum = sumS l := by
    have e1 := sumS_set l 0 (stA l (l.length - 1)) hp
    have e2 : sumS (l.set 0 (stA l (l.length - 1))) = sumS ((l.set 0 (stA l (l.length - 1))).take (l.length - 1)) + (stA l (l.length - 1)).sum := by
      have hl1 : l.length - 1 < (l.set 0 (stA l (l.length - 1))).length := by rw [List.length_set]; omega
      have e3 := List.take_succ_eq_append_getElem hl1
      rw [show l.length - 1 + 1 = l.length by omega, List.take_of_length_le (by rw [List.length_set]; exact Nat.le_refl _)] at e3
      have e4 : (l.set 0 (stA l (l.length - 1)))[l.length - 1] = stA l (l.length - 1) := by
        rw [stA_at hl1, stA_set l 0 _ _ hp]
        split <;> rfl
      rw [e4] at e3
      exact (congrArg sumS e3).trans (sumS_snoc _ _)
    omega
  obtain ⟨a1, a2, a3, a4⟩ := down_heap l.length ((l.set 0 (stA l (l.length - 1))).take (l.length - 1)) 0 (by omega) ⟨fun k hk h1 h2 => by
    rw [hlen] at hk
    have := up_lt h1
    rw [hst _ (by omega), hst _ hk, if_neg (by omega), if_neg (by omega)]
    exact h k (by omega) h1, fun k hk h1 h2 h3 => by omega⟩
  rw [hlen] at a2 a4
  refine ⟨a1, by unfold popL; omega, by unfold popL; omega, fun k hk => ?_⟩
  have hk2 : k < l.length - 1 := by have : (popL l).length = l.length - 1 := a2; omega
  obtain ⟨j, hj, e⟩ := a4 k hk2
  unfold popL
  rw [e, hst j hj]
  split
  · exact heap_least h _ (by omega)
  · exact heap_least h _ (by omega)
end Go.Proofs.Ytllpgomloblfjaa
