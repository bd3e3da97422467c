/- The members of a tree, said of lists. -/
import Derived.Test.YtoloplpmjcgbdaaGreatDoorTreeD
namespace Go.Proofs.YtoloplpmjcgbdaaGreatDoor
open Go.RowKit

def isCls (k : Int) : Bool := (k == 21) || (k == 22)
def okMem (xs : List Node) (k : Int) : Bool := (nd xs k).kind != 19
def ksOf (xs : List Node) (i : Nat) : List Int := if isCls (nd xs (i : Int)).kind then (nd xs (i : Int)).kids.filter (okMem xs) else []
/-- the members, as the program finds them -/
def memN (xs : List Node) : Nat → List Int
  | 0 => []
  | i + 1 => memN xs i ++ ksOf xs i
def allN (xs : List Node) : Nat → List Int
  | 0 => []
  | i + 1 => allN xs i ++ (nd xs (i : Int)).kids
def hasK (xs : List Node) (hs : List Bool) (ks : List Int) : List Bool := ks.foldl (fun hs k => hs.set k.toNat (okMem xs k)) hs
/-- the marks of the reference -/
def hasN (xs : List Node) : Nat → List Bool
  | 0 => List.replicate xs.length false
  | i + 1 => hasK xs (hasN xs i) (if isCls (nd xs (i : Int)).kind then (nd xs (i : Int)).kids else [])
noncomputable def membersL (xs : List Node) : List Int := if treeOk xs then ((List.range xs.length).filter fun q => (hasN xs xs.length).getD q false).map fun q : Nat => (q : Int) else []
theorem hasK_succ {xs : List Node} {hs : List Bool} {ks : List Int} {t : Nat} (h : t < ks.length) : hasK xs hs (ks.take (t + 1)) = (hasK xs hs (ks.take t)).set ks[t].toNat (okMem xs ks[t]) := by
  unfold hasK
  rw [List.take_succ_eq_append_getElem h, List.foldl_append]; rfl
theorem hasK_len (xs : List Node) (hs : List Bool) (ks : List Int) : (hasK xs hs ks).length = hs.length := by
  unfold hasK
  induction ks generalizing hs with
  | nil => rfl
  | cons k ks ih => rw [List.foldl_cons, ih, List.length_set]
theorem hasN_len (xs : List Node) : ∀ i, (hasN xs i).length = xs.length
  | 0 => List.length_replicate ..
  | i + 1 => by rw [hasN, hasK_len, hasN_len xs i]
theorem getDb_set (us : List Bool) (k q : Nat) (v : Bool) : (us.set k v).getD q false = if k = q ∧ k < us.length then v else us.getD q false := by
  rw [List.getD_eq_getElem?_getD, List.getD_eq_getElem?_getD, List.getElem?_set]
  by_cases e : k = q
  · subst e
    by_cases h : k < us.length
    · rw [if_pos rfl, if_pos h, if_pos ⟨rfl, h⟩]; rfl
    · rw [if_pos rfl, if_neg h, if_neg (fun c => h c.2), List.getElem?_eq_none (by omega)]
  · rw [if_neg e, if_neg (fun c => e c.1)]
theorem hasK_at {xs : List Node} {q : Nat} : ∀ (ks : List Int) (hs : List Bool), (∀ k ∈ ks, 0 ≤ k ∧ k < hs.length) → (hasK xs hs ks).getD q false = if (q : Int) ∈ ks then okMem xs q else hs.getD q false
  | [], hs, _ => by simp [hasK]
  | k :: ks, hs, h => by
    have hk := h k (by simp)
    show (hasK xs (hs.set k.toNat (okMem xs k)) ks).getD q false = _
    rw [hasK_at ks _ (fun j hj => by rw [List.length_set]; exact h j (by simp [hj]))]
    by_cases h1 : (q : Int) ∈ ks
    · rw [if_pos h1, if_pos (by simp [h1])]
    · rw [if_neg h1, getDb_set]
      by_cases h2 : k.toNat = q
      · have e : k = (q : Int) := by omega
        rw [if_pos ⟨h2, by omega⟩, if_pos (by simp [e]), e]
      · rw [if_neg (fun c => h2 c.1), if_neg]
        intro c
        rcases List.mem_cons.1 c with c | c
        · exact h2 (by omega)
        · exact h1 c
theorem useK_at {q : Nat} : ∀ (ks us : List Int), (∀ k ∈ ks, 0 ≤ k ∧ k < us.length) → (useK us ks).getD q 0 = us.getD q 0 + (ks.count (q : Int) : Nat)
  | [], us, _ => by simp [useK]
  | k :: ks, us, h => by
    have hk := h k (by simp)
    show (useK (us.set k.toNat (us.getD k.toNat 0 + 1)) ks).getD q 0 = _
    rw [useK_at ks _ (fun j hj => by rw [List.length_set]; exact h j (by simp [hj])), getD_set, List.count_cons]
    by_cases h2 : k.toNat = q
    · have e : k = (q : Int) := by omega
      rw [if_pos ⟨h2, by omega⟩, if_pos (by simp [e]), h2]
      omega
    · rw [if_neg (fun c => h2 c.1), if_neg (by simp; omega)]
      omega
section
variable {xs : List Node}
theorem kids_good (hg : ∀ i : Nat, i < xs.length → Good xs i) {i : Nat} (hi : i < xs.length) {k : Int} (hk : k ∈ (nd xs (i : Int)).kids) : 0 ≤ k ∧ k < (i : Int) := by
  obtain ⟨j, hj, rfl⟩ := List.mem_iff_getElem.1 hk
  have := (hg i hi).below j hj
  rwa [kd_at hj] at this
theorem allN_low (hg : ∀ i : Nat, i < xs.length → Good xs i) : ∀ i, i ≤ xs.length → ∀ k ∈ allN xs i, 0 ≤ k ∧ k + 1 < xs.length
  | 0, _, k, hk => by simp [allN] at hk
  | i + 1, hi, k, hk => by
    rw [allN, List.mem_append] at hk
    rcases hk with hk | hk
    · exact allN_low hg i (by omega) k hk
    · have := kids_good hg (show i < xs.length by omega) hk; omega
theorem useN_count (hg : ∀ i : Nat, i < xs.length → Good xs i) (q : Nat) : ∀ i, i ≤ xs.length → (useN xs i).getD q 0 = ((allN xs i).count (q : Int) : Nat)
  | 0, _ => by
    rw [useN, allN, List.getD_eq_getElem?_getD, List.getElem?_replicate]
    split <;> rfl
  | i + 1, hi => by
    rw [useN, allN, useK_at _ _ (fun k hk => by rw [useN_len]; have := kids_good hg (show i < xs.length by omega) hk; omega), useN_count hg q i (by omega), List.count_append]
    omega
theorem memN_sub (xs : List Node) : ∀ i, (memN xs i).Sublist (allN xs i)
  | 0 => List.Sublist.refl _
  | i + 1 => by
    rw [memN, allN]
    refine (memN_sub xs i).append ?_
    unfold ksOf
    split
    · exact List.filter_sublist
    · exact List.nil_sublist _
theorem memN_mem (hg : ∀ i : Nat, i < xs.length → Good xs i) (q : Nat) : ∀ i, i ≤ xs.length → (hasN xs i).getD q false = decide ((q : Int) ∈ memN xs i)
  | 0, _ => by
    rw [hasN, memN, List.getD_eq_getElem?_getD, List.getElem?_replicate]
    split <;> rfl
  | i + 1, hi => by
    have hb : ∀ k ∈ (if isCls (nd xs (i : Int)).kind then (nd xs (i : Int)).kids else []), 0 ≤ k ∧ k < (hasN xs i).length := fun k hk => by
      rw [hasN_len]
      split at hk
      · have := kids_good hg (show i < xs.length by omega) hk; omega
      · cases hk
    rw [hasN, memN, hasK_at _ _ hb, memN_mem hg q i (by omega)]
    unfold ksOf
    cases g : isCls (nd xs (i : Int)).kind with
    | false => simp
    | true =>
      simp only [if_true, List.mem_append, List.mem_filter]
      by_cases h1 : (q : Int) ∈ (nd xs (i : Int)).kids
      · rw [if_pos h1]
        cases h2 : okMem xs q with
        | true => simp [h1]
        | false =>
          have h3 : ¬ (q : Int) ∈ memN xs i := fun c => by
            have : ∀ j, (q : Int) ∈ memN xs j → okMem xs q = true := by
              intro j
              induction j with
              | zero => intro c; simp [memN] at c
              | succ j ih =>
                intro c
                rw [memN, List.mem_append] at c
                rcases c with c | c
                · exact ih c
                · unfold ksOf at c
                  split at c
                  · exact (List.mem_filter.1 c).2
                  · cases c
            rw [this i c] at h2; cases h2
          simp [h1, h3]
      · rw [if_neg h1]
        simp [h1]
theorem tree_good (h : Tree xs) : ∀ i : Nat, i < xs.length → Good xs i := fun i hi => (deepOf_pos h.deep).2.2 i (by omega)
theorem memN_nodup (h : Tree xs) : (memN xs xs.length).Nodup := by
  rw [List.nodup_iff_count]
  intro a
  refine Nat.le_trans ((memN_sub xs xs.length).count_le a) ?_
  have hg := tree_good h
  rcases Nat.eq_zero_or_pos ((allN xs xs.length).count a) with h0 | h0
  · omega
  · have hm := List.count_pos_iff.1 h0
    obtain ⟨h1, h2⟩ := allN_low hg _ (Nat.le_refl _) a hm
    obtain ⟨q, rfl⟩ : ∃ q : Nat, a = (q : Int) := ⟨a.toNat, by omega⟩
    have := useN_count hg q xs.length (Nat.le_refl _)
    rw [h.used q (by omega)] at this
    omega
/-- sorted, the program's members are the reference's -/
theorem members_sorted (h : treeOk xs = true) : (memN xs xs.length).mergeSort (fun x y => decide (x ≤ y)) = membersL xs := by
  have ht := treeOk_iff.1 h
  have hg := tree_good ht
  unfold membersL
  rw [if_pos h]
  refine List.Perm.eq_of_pairwise (le := fun a b : Int => a ≤ b) (fun a b _ _ h1 h2 => by omega) ?_ ?_ ?_
  · refine (List.pairwise_mergeSort (le := fun x y : Int => decide (x ≤ y)) (fun a b c => by simp; omega) (fun a b => by simp; omega) _).imp ?_
    intro a b hab
    exact of_decide_eq_true hab
  · rw [List.pairwise_map]
    refine (List.pairwise_lt_range.filter _).imp ?_
    intro a b hab
    omega
  · refine (List.mergeSort_perm _ _).trans ?_
    have hn2 : (((List.range xs.length).filter fun q => (hasN xs xs.length).getD q false).map fun q : Nat => (q : Int)).Nodup := by
      rw [List.nodup_iff_pairwise_ne, List.pairwise_map]
      refine (List.pairwise_lt_range.filter _).imp ?_
      intro a b hab
      omega
    rw [List.perm_iff_count]
    intro a
    rw [(memN_nodup ht).count, hn2.count]
    have : a ∈ memN xs xs.length ↔ a ∈ (((List.range xs.length).filter fun q => (hasN xs xs.length).getD q false).map fun q : Nat => (q : Int)) := by
      rw [List.mem_map]
      constructor
      · intro hm
        obtain ⟨h1, h2⟩ := allN_low hg _ (Nat.le_refl _) a ((memN_sub xs xs.length).subset hm)
        refine ⟨a.toNat, ?_, by omega⟩
        rw [List.mem_filter, List.mem_range, memN_mem hg _ _ (Nat.le_refl _), show ((a.toNat : Nat) : Int) = a by omega]
        exact ⟨by omega, by simpa using hm⟩
      · rintro ⟨q, hq, rfl⟩
        rw [List.mem_filter, memN_mem hg _ _ (Nat.le_refl _)] at hq
        simpa using hq.2
    by_cases hm : a ∈ memN xs xs.length
    · rw [if_pos hm, if_pos (this.1 hm)]
    · rw [if_neg hm, if_neg (fun c => hm (this.2 c))]
theorem membersL_no (h : treeOk xs = false) : membersL xs = [] := by unfold membersL; rw [h]; rfl
theorem membersL_len (xs : List Node) : (membersL xs).length ≤ xs.length := by
  unfold membersL
  split
  · rw [List.length_map]
    exact Nat.le_trans (List.length_filter_le _ _) (by rw [List.length_range]; exact Nat.le_refl _)
  · simp
end
end Go.Proofs.YtoloplpmjcgbdaaGreatDoor
