/- A name that no node bears, said of lists: the first of base, base2, base3, .. -/
import Derived.Test.YtbgcifmhemldoaaDoorNodeD
import Derived.Lib.ItoaNum
namespace Go.Proofs.YtbgcifmhemldoaaDoor
open Go.RowKit

def valL (l : List UInt8) : Nat := l.foldl (fun a b => a * 10 + (b.toNat - 48)) 0
theorem valL_snoc (l : List UInt8) (b : UInt8) : valL (l ++ [b]) = valL l * 10 + (b.toNat - 48) := by simp [valL]
theorem fig_byte {r : Nat} (h : r < 10) : (UInt8.ofNat (48 + r)).toNat - 48 = r := by
  rw [UInt8.toNat_ofNat', Nat.mod_eq_of_lt (by omega)]; omega
theorem valL_dec : ∀ n u, u ≤ n → valL (Lib.decDigits u) = u
  | 0, u, h => by
    obtain rfl : u = 0 := by omega
    rw [Lib.decDigits_one (by omega)]; rfl
  | n + 1, u, h => by
    by_cases hs : u < 10
    · rw [Lib.decDigits_one hs]
      show 0 * 10 + ((UInt8.ofNat (48 + u)).toNat - 48) = u
      rw [fig_byte hs]; omega
    · rw [Lib.decDigits, dif_neg hs, valL_snoc, valL_dec n (u / 10) (by omega), fig_byte (by omega)]
      omega
theorem dec_inj {u v : Nat} (h : Lib.decDigits u = Lib.decDigits v) : u = v := by
  rw [← valL_dec u u (Nat.le_refl _), ← valL_dec v v (Nat.le_refl _), h]
theorem dec_ne (u : Nat) : Lib.decDigits u ≠ [] := by
  rw [Lib.decDigits]
  split <;> simp
def decB (n : Nat) : ByteArray := ⟨(Lib.decDigits n).toArray⟩
/-- the name tried at turn j (from 1 on) -/
def candB (base : ByteArray) (j : Nat) : ByteArray := if j ≤ 1 then base else base ++ decB j
theorem candB_one (base : ByteArray) : candB base 1 = base := rfl
theorem candB_more {base : ByteArray} {j : Nat} (h : 2 ≤ j) : candB base j = base ++ decB j := by unfold candB; rw [if_neg (by omega)]
theorem app_data (a b : ByteArray) : (a ++ b).data.toList = a.data.toList ++ b.data.toList := by rw [ByteArray.data_append, Array.toList_append]
theorem candB_inj {base : ByteArray} {i j : Nat} (hi : 1 ≤ i) (hj : 1 ≤ j) (h : candB base i = candB base j) : i = j := by
  have e : (candB base i).data.toList = (candB base j).data.toList := by rw [h]
  by_cases h1 : i ≤ 1
  · by_cases h2 : j ≤ 1
    · omega
    · rw [candB_more (j := j) (by omega)] at e
      unfold candB at e
      rw [if_pos h1, app_data] at e
      have : (decB j).data.toList = [] := by simpa using e
      exact absurd this (dec_ne j)
  · by_cases h2 : j ≤ 1
    · rw [candB_more (j := i) (by omega)] at e
      unfold candB at e
      rw [if_pos h2, app_data] at e
      have : (decB i).data.toList = [] := by simpa using e
      exact absurd this (dec_ne i)
    · rw [candB_more (j := i) (by omega), candB_more (j := j) (by omega), app_data, app_data] at e
      exact dec_inj (List.append_cancel_left e)
theorem pigeon {α : Type} [DecidableEq α] : ∀ (l m : List α), l.Nodup → (∀ x ∈ l, x ∈ m) → l.length ≤ m.length
  | [], m, _, _ => Nat.zero_le _
  | a :: l, m, hn, hs => by
    have ha : a ∈ m := hs a (by simp)
    have h1 : l.length ≤ (m.erase a).length := pigeon l (m.erase a) (List.nodup_cons.1 hn).2 (fun x hx => by
      have hne : x ≠ a := fun e => (List.nodup_cons.1 hn).1 (e ▸ hx)
      exact (List.mem_erase_of_ne hne).2 (hs x (by simp [hx])))
    have h2 := List.length_erase_of_mem ha
    have h3 : 0 < m.length := List.length_pos_of_mem ha
    simp only [List.length_cons]
    omega
/-- whether a node has this text -/
def hasText (xs : List Node) (s : ByteArray) : Bool := xs.any fun x => x.text.toList == s.toList
theorem hasText_mem {xs : List Node} {s : ByteArray} (h : hasText xs s = true) : s ∈ xs.map fun x => x.text := by
  unfold hasText at h
  rw [List.any_eq_true] at h
  obtain ⟨x, hx, e⟩ := h
  rw [List.mem_map]
  exact ⟨x, hx, str_eq.1 e⟩
/-- among so many names one is free -/
theorem cand_room {xs : List Node} {base : ByteArray} {j : Nat} (h : ∀ i, 1 ≤ i → i < j → hasText xs (candB base i) = true) : j ≤ xs.length + 1 := by
  have hp := pigeon ((List.range (j - 1)).map fun i => candB base (i + 1)) (xs.map fun x => x.text) (by
    rw [List.nodup_iff_pairwise_ne, List.pairwise_map]
    refine (List.nodup_iff_pairwise_ne.1 List.nodup_range).imp ?_
    intro a b hab e
    have := candB_inj (by omega) (by omega) e
    omega) (fun x hx => by
      obtain ⟨i, hi, rfl⟩ := List.mem_map.1 hx
      rw [List.mem_range] at hi
      exact hasText_mem (h (i + 1) (by omega) (by omega)))
  simp only [List.length_map, List.length_range] at hp
  omega
def freshF (xs : List Node) (base : ByteArray) : Nat → Nat → ByteArray
  | 0, j => candB base j
  | f + 1, j => if hasText xs (candB base j) then freshF xs base f (j + 1) else candB base j
theorem freshF_at {xs : List Node} {base : ByteArray} : ∀ f k j, k ≤ j → j ≤ k + f → (∀ i, k ≤ i → i < j → hasText xs (candB base i) = true) → hasText xs (candB base j) = false → freshF xs base f k = candB base j
  | 0, k, j, h1, h2, _, _ => by
    obtain rfl : k = j := by omega
    rfl
  | f + 1, k, j, h1, h2, h3, h4 => by
    unfold freshF
    by_cases e : k = j
    · subst e; rw [h4]; rfl
    · rw [if_pos (h3 k (Nat.le_refl _) (by omega))]
      exact freshF_at f (k + 1) j (by omega) (by omega) (fun i a b => h3 i (by omega) b) h4
/-- the fresh name; none if base is no name or too long -/
def freshB (xs : List Node) (base : ByteArray) : ByteArray := if isNm base && decide (base.size ≤ 20) then freshF xs base xs.length 1 else ⟨#[]⟩
theorem freshB_no {xs : List Node} {base : ByteArray} (h : (isNm base && decide (base.size ≤ 20)) = false) : freshB xs base = ⟨#[]⟩ := by unfold freshB; rw [h]; rfl
theorem freshB_at {xs : List Node} {base : ByteArray} {j : Nat} (h : (isNm base && decide (base.size ≤ 20)) = true) (h1 : 1 ≤ j) (h3 : ∀ i, 1 ≤ i → i < j → hasText xs (candB base i) = true) (h4 : hasText xs (candB base j) = false) : freshB xs base = candB base j := by
  unfold freshB
  rw [if_pos h]
  have := cand_room h3
  exact freshF_at _ _ _ h1 (by omega) h3 h4
end Go.Proofs.YtbgcifmhemldoaaDoor
