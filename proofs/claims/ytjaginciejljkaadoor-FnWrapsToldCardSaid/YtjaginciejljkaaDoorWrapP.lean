/- A note put into lines, said of lists. -/
import Derived.Test.YtjaginciejljkaaDoorNodeD
import Derived.Test.YtjaginciejljkaaDoorWordsP
namespace Go.Proofs.YtjaginciejljkaaDoor
open Go.RowKit

def blankB (n : Nat) : ByteArray := ⟨(List.replicate n 32).toArray⟩
theorem blankB_size (n : Nat) : (blankB n).size = n := by
  show (List.replicate n (32 : UInt8)).toArray.size = n
  rw [List.size_toArray, List.length_replicate]
theorem blankB_succ (n : Nat) : blankB n ++ ⟨#[32]⟩ = blankB (n + 1) := by
  apply ba_ext
  rw [ByteArray.data_append, Array.toList_append]
  show List.replicate n (32 : UInt8) ++ [32] = List.replicate (n + 1) 32
  rw [List.replicate_succ']
theorem szSum_words (s : ByteArray) : szSum (wordsB s) + (wordsB s).length ≤ 2 * s.size := by
  have h1 := wordsB_len s
  have h2 := wd_sum s.data.toList []
  have h3 : szSum (wordsB s) = lenSum (wd [] s.data.toList) := by
    unfold szSum wordsB lenSum sumOf
    rw [List.map_map]
    congr 1
  rw [← size_list] at h2
  simp at h2
  omega
/-- what is told of a note: its lines -/
def noteL (text : ByteArray) (at_ width : Int) : List ByteArray :=
  if wordsB (text.extract 2 text.size) = [] then [blankB at_.toNat ++ ⟨#[47, 47]⟩]
  else (greedyL (at_ + 3) width (wordsB (text.extract 2 text.size))).map fun l => blankB at_.toNat ++ ⟨#[47, 47, 32]⟩ ++ l
def wrapL (text : ByteArray) (at_ width : Int) : List ByteArray := if isSg text 5 && (decide (0 ≤ at_) && decide (at_ ≤ 60)) then noteL text at_ width else []
theorem noteL_len (text : ByteArray) (at_ width : Int) : (noteL text at_ width).length ≤ text.size + 1 := by
  unfold noteL
  split
  · simp
  · rw [List.length_map]
    have h1 := greedyL_len (at_ + 3) width (wordsB (text.extract 2 text.size))
    have h2 := wordsB_len (text.extract 2 text.size)
    rw [ByteArray.size_extract] at h2
    omega
theorem wrapL_len (text : ByteArray) (at_ width : Int) : (wrapL text at_ width).length ≤ text.size + 1 := by
  unfold wrapL
  split
  · exact noteL_len text at_ width
  · simp
theorem wrapL_no {text : ByteArray} {at_ width : Int} (h : (isSg text 5 && (decide (0 ≤ at_) && decide (at_ ≤ 60))) = false) : wrapL text at_ width = [] := by unfold wrapL; rw [h]; rfl
theorem wrapL_yes {text : ByteArray} {at_ width : Int} (h : (isSg text 5 && (decide (0 ≤ at_) && decide (at_ ≤ 60))) = true) : wrapL text at_ width = noteL text at_ width := by unfold wrapL; rw [if_pos h]
theorem noteL_none {text : ByteArray} {at_ width : Int} (h : wordsB (text.extract 2 text.size) = []) : noteL text at_ width = [blankB at_.toNat ++ ⟨#[47, 47]⟩] := by unfold noteL; rw [if_pos h]
theorem noteL_some {text : ByteArray} {at_ width : Int} (h : ¬ wordsB (text.extract 2 text.size) = []) : noteL text at_ width = (greedyL (at_ + 3) width (wordsB (text.extract 2 text.size))).map fun l => blankB at_.toNat ++ ⟨#[47, 47, 32]⟩ ++ l := by unfold noteL; rw [if_neg h]
theorem sumOf_mem {α : Type} (f : α → Nat) {xs : List α} {x : α} (h : x ∈ xs) : f x ≤ sumOf f xs := by
  unfold sumOf
  induction xs with
  | nil => cases h
  | cons y ys ih =>
    simp only [List.map_cons, List.sum_cons]
    rcases List.mem_cons.1 h with rfl | h
    · omega
    · have := ih h; omega
theorem greedyL_size {ahead width : Int} {ws : List ByteArray} : ∀ x ∈ greedyL ahead width ws, x.size ≤ szSum ws + ws.length := by
  intro x hx
  unfold greedyL at hx
  split at hx
  · have h1 := (fillL_sum ahead width ws ws.length (Nat.le_refl _)).1
    rw [List.take_length] at h1
    have h2 : x.size ≤ szSum (fillL ahead width ws) := sumOf_mem (fun x : ByteArray => x.size) hx
    omega
  · cases hx
/-- a note has two bytes at least -/
theorem note_two {s : ByteArray} (h : isSg s 5 = true) : 2 ≤ s.size := by
  unfold isSg at h
  have e := of_decide_eq_true h
  unfold sgn at e
  split at e
  · split at e
    · unfold nameAt at e; split at e
      · simp only [Option.some.injEq, Prod.mk.injEq] at e; exact absurd e.1 (by decide)
      · cases e
    · split at e
      · unfold numAt at e; split at e
        · simp only [Option.some.injEq, Prod.mk.injEq] at e; exact absurd e.1 (by decide)
        · cases e
      · split at e
        · unfold textAt at e; split at e
          · simp only [Option.some.injEq, Prod.mk.injEq] at e; exact absurd e.1 (by decide)
          · cases e
        · split at e
          · rename_i hn; have := isNote_size hn; omega
          · unfold markAt at e; split at e
            · cases e
            · simp only [Option.some.injEq, Prod.mk.injEq] at e; exact absurd e.1 (by decide)
  · cases e
end Go.Proofs.YtjaginciejljkaaDoor
