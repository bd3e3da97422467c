/- A piece in lines, and what that costs, said of lists. -/
import Derived.Test.YtllpgomloblfjaaBoundD
namespace Go.Proofs.Ytllpgomloblfjaa
open Go.RowKit

def padB (n : Nat) : ByteArray := ⟨(List.replicate n 32).toArray⟩
theorem padB_size (n : Nat) : (padB n).size = n := by
  show (List.replicate n (32 : UInt8)).toArray.size = n
  simp
theorem padB_succ (n : Nat) : padB n ++ ⟨#[32]⟩ = padB (n + 1) := by
  apply ByteArray.ext
  apply Array.toList_inj.1
  rw [ByteArray.data_append, Array.toList_append]
  show List.replicate n (32 : UInt8) ++ [32] = List.replicate (n + 1) 32
  rw [List.replicate_succ']
/-- what stands behind the first chunks: the lines so far, the line begun -/
def rendTo (x : Piece) (v : List Int) : Nat → List ByteArray × ByteArray
  | 0 => ([], padB x.indent.toNat)
  | k + 1 =>
    if splitsAt x v k then ((rendTo x v k).1 ++ [(rendTo x v k).2 ++ (chunkAt x.chunks k).text], padB (x.indent + (chunkAt x.chunks k).nest).toNat)
    else ((rendTo x v k).1, if (chunkAt x.chunks k).space then (rendTo x v k).2 ++ (chunkAt x.chunks k).text ++ ⟨#[32]⟩ else (rendTo x v k).2 ++ (chunkAt x.chunks k).text)
/-- the piece in lines -/
def linesR (x : Piece) (v : List Int) : List ByteArray := (rendTo x v (x.chunks.length - 1)).1 ++ [(rendTo x v (x.chunks.length - 1)).2 ++ (chunkAt x.chunks (x.chunks.length - 1)).text]
def overOf (W : Int) (n : Int) : Int := if W < n then n - W else 0
def overS (W : Int) (ls : List ByteArray) : Int := (ls.map fun l => overOf W l.size).sum
theorem overS_snoc (W : Int) (ls : List ByteArray) (l : ByteArray) : overS W (ls ++ [l]) = overS W ls + overOf W l.size := by simp [overS]
theorem overS_nil (W : Int) : overS W [] = 0 := rfl
def clampW (w : Int) : Int := if w < 0 then 0 else if 100000 < w then 100000 else w
theorem clampW_bd (w : Int) : 0 ≤ clampW w ∧ clampW w ≤ 100000 := by
  unfold clampW
  split
  · omega
  · split <;> omega
structure CostL where
  over : Int
  sum : Int
/-- what values cost -/
def costR (x : Piece) (v : List Int) (w : Int) : CostL := ⟨overS (clampW w) (linesR x v), boundOf x v⟩
def costLess (a b : CostL) : Bool := decide (a.over < b.over) || (decide (a.over = b.over) && decide (a.sum < b.sum))
/-- sizes -/
structure Sized (x : Piece) : Prop where
  text : ∀ c ∈ x.chunks, c.text.size ≤ 1048576
theorem Sized.at {x : Piece} (h : Sized x) (i : Nat) : (chunkAt x.chunks i).text.size ≤ 1048576 := by
  by_cases hi : i < x.chunks.length
  · rw [chunkAt_lt hi]; exact h.text _ (List.getElem_mem hi)
  · unfold chunkAt
    rw [List.getD_eq_getElem?_getD, List.getElem?_eq_none (by omega)]
    exact Nat.zero_le _
theorem rend_sizeM {x : Piece} (hx : Right x) {M : Nat} (hs : ∀ i, (chunkAt x.chunks i).text.size + 1 ≤ M) (v : List Int) : ∀ k, k < x.chunks.length → (rendTo x v k).2.size ≤ 100 + k * M ∧ (rendTo x v k).1.length ≤ k ∧ ∀ l ∈ (rendTo x v k).1, l.size ≤ 100 + k * M
  | 0, _ => ⟨by show (padB _).size ≤ _; rw [padB_size]; have := hx.indent; omega, Nat.le_refl _, fun l hl => by cases hl⟩
  | k + 1, hk => by
    obtain ⟨h1, h2, h3⟩ := rend_sizeM hx hs v k (by omega)
    have h4 := hs k
    have h5 : 0 ≤ (chunkAt x.chunks k).nest ∧ (chunkAt x.chunks k).nest ≤ 40 := by
      rw [chunkAt_lt (by omega)]
      have := chunk_of hx hk
      omega
    have h6 := hx.indent
    rw [Nat.succ_mul, rendTo]
    by_cases hsp : splitsAt x v k = true
    · rw [if_pos hsp]
      refine ⟨?_, ?_, fun l hl => ?_⟩
      · show (padB _).size ≤ _
        rw [padB_size]; omega
      · have e : ((rendTo x v k).1 ++ [(rendTo x v k).2 ++ (chunkAt x.chunks k).text]).length = (rendTo x v k).1.length + 1 := by rw [List.length_append]; rfl
        exact Nat.le_trans (Nat.le_of_eq e) (by omega)
      · rcases List.mem_append.1 hl with h | h
        · have := h3 l h; omega
        · obtain rfl := List.mem_singleton.1 h
          rw [ByteArray.size_append]; omega
    · rw [if_neg hsp]
      refine ⟨?_, ?_, fun l hl => ?_⟩
      · show (if (chunkAt x.chunks k).space then (rendTo x v k).2 ++ (chunkAt x.chunks k).text ++ ⟨#[32]⟩ else (rendTo x v k).2 ++ (chunkAt x.chunks k).text : ByteArray).size ≤ _
        split
        · rw [ByteArray.size_append, ByteArray.size_append]
          have : (⟨#[32]⟩ : ByteArray).size = 1 := rfl
          omega
        · rw [ByteArray.size_append]; omega
      · show (rendTo x v k).1.length ≤ _
        omega
      · have := h3 l hl; omega
theorem rend_size {x : Piece} (hx : Right x) (hs : Sized x) (v : List Int) (k : Nat) (hk : k < x.chunks.length) : (rendTo x v k).2.size ≤ 90000000 ∧ (rendTo x v k).1.length ≤ k ∧ ∀ l ∈ (rendTo x v k).1, l.size ≤ 90000000 := by
  obtain ⟨M, hM⟩ : ∃ M : Nat, M = 1048577 := ⟨_, rfl⟩
  obtain ⟨h1, h2, h3⟩ := rend_sizeM hx (M := M) (fun i => by have := hs.at i; omega) v k hk
  have h4 := hx.chunks
  have h5 : k * M ≤ 80 * M := Nat.mul_le_mul_right _ (by omega)
  exact ⟨by omega, h2, fun l hl => by have := h3 l hl; omega⟩
theorem overOf_bd {W n : Int} (h : 0 ≤ W) (hn : 0 ≤ n) : 0 ≤ overOf W n ∧ overOf W n ≤ n := by
  unfold overOf
  split <;> omega
theorem overS_bd {W : Int} (hW : 0 ≤ W) {M : Nat} : ∀ {ls : List ByteArray}, (∀ l ∈ ls, l.size ≤ M) → 0 ≤ overS W ls ∧ overS W ls ≤ (M : Int) * ls.length
  | [], _ => ⟨Int.le_refl _, by simp [overS]⟩
  | l :: ls, h => by
    have h1 := overS_bd hW (ls := ls) fun y hy => h y (List.mem_cons_of_mem _ hy)
    have h2 := overOf_bd (n := (l.size : Int)) hW (Int.natCast_nonneg _)
    have h3 := h l (List.mem_cons_self ..)
    have e : overS W (l :: ls) = overOf W l.size + overS W ls := by simp [overS]
    rw [e, List.length_cons]
    have : (M : Int) * ((ls.length + 1 : Nat) : Int) = (M : Int) * ls.length + M := by rw [Int.natCast_add, Int.mul_add]; simp
    omega
theorem lines_size {x : Piece} (hx : Right x) (hs : Sized x) (v : List Int) : (∀ l ∈ linesR x v, l.size ≤ 100000000) ∧ (linesR x v).length ≤ 80 := by
  have hc := hx.chunks
  obtain ⟨h1, h2, h3⟩ := rend_size hx hs v (x.chunks.length - 1) (by omega)
  have h4 := hs.at (x.chunks.length - 1)
  refine ⟨fun l hl => ?_, by unfold linesR; rw [List.length_append]; simp; omega⟩
  rcases List.mem_append.1 hl with h | h
  · have := h3 l h; omega
  · obtain rfl := List.mem_singleton.1 h
    rw [ByteArray.size_append]; omega
theorem cost_bd {x : Piece} (hx : Right x) (hs : Sized x) {v : List Int} (hv : RightV x v) (w : Int) : 0 ≤ (costR x v w).over ∧ (costR x v w).over ≤ 8000000000 ∧ 0 ≤ (costR x v w).sum ∧ (costR x v w).sum ≤ 1000 := by
  obtain ⟨h1, h2⟩ := lines_size hx hs v
  obtain ⟨h3, h4⟩ := overS_bd (clampW_bd w).1 h1
  have h5 := costTo_bd hx hv v.length (Nat.le_refl _)
  have h6 := spanTo_bd (v := v) hx x.spans.length (Nat.le_refl _)
  have h7 := hv.len
  have h8 := hx.rules
  have h9 := hx.spans
  refine ⟨h3, ?_, ?_, ?_⟩
  · show overS _ _ ≤ _; omega
  · show 0 ≤ costTo x v v.length + spanTo x v x.spans.length; omega
  · show costTo x v v.length + spanTo x v x.spans.length ≤ 1000; omega
end Go.Proofs.Ytllpgomloblfjaa
