/- Lines, said of lists. -/
import Derived.Test.YtgcgipbjmobekaaDoorSplitP
namespace Go.Proofs.YtgcgipbjmobekaaDoor
/-- the lines in a list; cur has been read already of the first one -/
def ln (cur : List UInt8) : List UInt8 → List (List UInt8)
  | [] => flushW cur
  | b :: bs => if b == 10 then cur :: ln [] bs else ln (cur ++ [b]) bs
theorem ln_end (cur bs : List UInt8) : ln cur (10 :: bs) = cur :: ln [] bs := rfl
theorem ln_other {b : UInt8} (cur bs : List UInt8) (h : b ≠ 10) : ln cur (b :: bs) = ln (cur ++ [b]) bs := by
  rw [ln, if_neg (by simpa using h)]
theorem ln_sp (l : List UInt8) : ∀ cur, ∃ init last, sp 10 cur l = init ++ [last] ∧ ln cur l = init ++ flushW last := by
  induction l with
  | nil => intro cur; exact ⟨[], cur, rfl, rfl⟩
  | cons b l ih =>
    intro cur
    by_cases h : b == 10
    · obtain ⟨init, last, h1, h2⟩ := ih []
      refine ⟨cur :: init, last, ?_, ?_⟩
      · simp only [sp, h, if_true, h1]; rfl
      · simp only [ln, h, if_true, h2]; rfl
    · have h' : (b == 10) = false := by simpa using h
      obtain ⟨init, last, h1, h2⟩ := ih (cur ++ [b])
      exact ⟨init, last, by simp only [sp, h']; exact h1, by simp only [ln, h']; exact h2⟩
def mkb (l : List UInt8) : ByteArray := ⟨l.toArray⟩
/-- the lines of a text -/
def linesB (s : ByteArray) : List ByteArray := (ln [] s.data.toList).map mkb
theorem lines_pieces (s : ByteArray) : ∃ init last, pieces 10 s = init ++ [last] ∧ linesB s = if last = ⟨#[]⟩ then init else init ++ [last] := by
  obtain ⟨init, last, h1, h2⟩ := ln_sp s.data.toList []
  refine ⟨init.map mkb, mkb last, ?_, ?_⟩
  · rw [pieces_map, h1, List.map_append]; rfl
  · rw [linesB, h2, List.map_append]
    cases last with
    | nil => rw [if_pos (show mkb [] = ⟨#[]⟩ from rfl)]; simp [flushW]
    | cons a l => rw [if_neg (by intro e; have := congrArg (fun b : ByteArray => b.data.toList) e; simp [mkb] at this)]; rfl
theorem ln_len (bs : List UInt8) : ∀ cur, (ln cur bs).length ≤ bs.length + 1 := by
  induction bs with
  | nil => intro cur; cases cur <;> simp [ln, flushW]
  | cons b bs ih =>
    intro cur
    rw [ln]
    split
    · have := ih []; simp; omega
    · have := ih (cur ++ [b]); simp; omega
theorem linesB_len (s : ByteArray) : (linesB s).length ≤ s.size + 1 := by
  rw [linesB, List.length_map, size_list]
  exact ln_len _ _
/-- the longest of them -/
def widest (xs : List ByteArray) : Nat := xs.foldl (fun m x => max m x.size) 0
theorem widest_succ (xs : List ByteArray) (k : Nat) (h : k < xs.length) : widest (xs.take (k + 1)) = max (widest (xs.take k)) xs[k].size := by
  unfold widest
  rw [List.take_succ_eq_append_getElem h, List.foldl_append]
  rfl
theorem ln_bound (bs : List UInt8) (n : Nat) : ∀ cur, cur.length + bs.length ≤ n → ∀ x ∈ ln cur bs, x.length ≤ n := by
  induction bs with
  | nil => intro cur h x hx; cases cur <;> simp_all [ln, flushW]
  | cons b bs ih =>
    intro cur h x hx
    rw [ln] at hx
    simp at h
    split at hx
    · rcases List.mem_cons.1 hx with rfl | hx
      · omega
      · exact ih [] (by simp; omega) x hx
    · exact ih (cur ++ [b]) (by simp; omega) x hx
theorem line_le (s : ByteArray) : ∀ x ∈ linesB s, x.size ≤ s.size := by
  intro x hx
  obtain ⟨l, hl, rfl⟩ := List.mem_map.1 hx
  have := ln_bound s.data.toList s.data.toList.length [] (by simp) l hl
  rw [size_list s]
  exact this
theorem widest_le (xs : List ByteArray) (n : Nat) (h : ∀ x ∈ xs, x.size ≤ n) : ∀ k, k ≤ xs.length → widest (xs.take k) ≤ n := by
  intro k
  induction k with
  | zero => intro _; simp [widest]
  | succ k ih =>
    intro hk
    have h1 := ih (by omega)
    have h2 := h _ (List.getElem_mem (show k < xs.length by omega))
    rw [widest_succ _ _ (by omega)]
    omega
end Go.Proofs.YtgcgipbjmobekaaDoor
