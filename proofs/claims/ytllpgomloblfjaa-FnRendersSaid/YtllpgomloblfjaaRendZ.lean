/- The lines of a piece tell its chunks: as many lines as splits, and one; without blanks the same bytes. Said of lists. -/
import Derived.Test.YtllpgomloblfjaaRendP
namespace Go.Proofs.Ytllpgomloblfjaa
open Go.RowKit

/-- the bytes that are no blanks -/
def bareL (b : ByteArray) : List UInt8 := b.data.toList.filter (fun c => c != 32)
theorem bareL_app (a b : ByteArray) : bareL (a ++ b) = bareL a ++ bareL b := by
  unfold bareL
  rw [ByteArray.data_append, Array.toList_append, List.filter_append]
theorem bareL_pad (n : Nat) : bareL (padB n) = [] := by
  show (List.replicate n (32 : UInt8)).filter _ = []
  rw [List.filter_eq_nil_iff]
  intro a ha
  rw [List.eq_of_mem_replicate ha]
  decide
/-- lines, one behind the other -/
def joinB (ls : List ByteArray) : ByteArray := ls.foldl (fun s l => s ++ l) ByteArray.empty
theorem joinB_nil : joinB [] = ByteArray.empty := rfl
theorem joinB_snoc (ls : List ByteArray) (l : ByteArray) : joinB (ls ++ [l]) = joinB ls ++ l := by simp [joinB]
theorem joinB_take {ls : List ByteArray} {k : Nat} (h : k < ls.length) : joinB (ls.take (k + 1)) = joinB (ls.take k) ++ ls[k] := by
  rw [List.take_succ_eq_append_getElem h, joinB_snoc]
/-- how many of the first chunks are split behind -/
def splitN (x : Piece) (v : List Int) : Nat → Nat
  | 0 => 0
  | k + 1 => splitN x v k + if splitsAt x v k then 1 else 0
theorem splitN_le (x : Piece) (v : List Int) : ∀ k, splitN x v k ≤ k
  | 0 => Nat.le_refl _
  | k + 1 => by
    have := splitN_le x v k
    unfold splitN
    split <;> omega
/-- the texts of the first chunks -/
def textTo (x : Piece) (k : Nat) : ByteArray := joinB ((x.chunks.take k).map (·.text))
theorem textTo_succ {x : Piece} {k : Nat} (h : k < x.chunks.length) : textTo x (k + 1) = textTo x k ++ x.chunks[k].text := by
  unfold textTo
  rw [List.take_succ_eq_append_getElem h, List.map_append, List.map_singleton, joinB_snoc]
theorem rend_bare (x : Piece) (v : List Int) : ∀ k, k ≤ x.chunks.length → (rendTo x v k).1.length = splitN x v k ∧ bareL (joinB (rendTo x v k).1) ++ bareL (rendTo x v k).2 = bareL (textTo x k)
  | 0, _ => by
    refine ⟨rfl, ?_⟩
    show bareL (joinB []) ++ bareL (padB _) = bareL (joinB [])
    rw [bareL_pad, List.append_nil]
  | k + 1, hk => by
    obtain ⟨h1, h2⟩ := rend_bare x v k (by omega)
    have hc : chunkAt x.chunks k = x.chunks[k]'(by omega) := chunkAt_lt (by omega)
    have h3 := textTo_succ (x := x) (k := k) (by omega)
    rw [h3, bareL_app, ← h2]
    have e1 : rendTo x v (k + 1) = if splitsAt x v k then ((rendTo x v k).1 ++ [(rendTo x v k).2 ++ (chunkAt x.chunks k).text], padB (x.indent + (chunkAt x.chunks k).nest).toNat)
        else ((rendTo x v k).1, if (chunkAt x.chunks k).space then (rendTo x v k).2 ++ (chunkAt x.chunks k).text ++ ⟨#[32]⟩ else (rendTo x v k).2 ++ (chunkAt x.chunks k).text) := rfl
    have e2 : splitN x v (k + 1) = splitN x v k + if splitsAt x v k then 1 else 0 := rfl
    rw [e1, e2, hc]
    by_cases hs : splitsAt x v k = true
    · rw [if_pos hs, if_pos hs]
      refine ⟨by simp [h1], ?_⟩
      show bareL (joinB (_ ++ [_])) ++ bareL (padB _) = _
      rw [joinB_snoc, bareL_app, bareL_app, bareL_pad, List.append_nil, List.append_assoc]
    · rw [if_neg hs, if_neg hs]
      refine ⟨h1, ?_⟩
      show bareL (joinB _) ++ bareL (ite _ _ _) = _
      by_cases hsp : x.chunks[k].space = true
      · rw [if_pos hsp, bareL_app, bareL_app, show bareL ⟨#[32]⟩ = [] from rfl, List.append_nil, List.append_assoc]
      · rw [if_neg hsp, bareL_app, List.append_assoc]
theorem lines_law {x : Piece} (v : List Int) (h : 1 ≤ x.chunks.length) : (linesR x v).length = splitN x v (x.chunks.length - 1) + 1 ∧ bareL (joinB (linesR x v)) = bareL (textTo x x.chunks.length) := by
  obtain ⟨h1, h2⟩ := rend_bare x v (x.chunks.length - 1) (by omega)
  have hc : chunkAt x.chunks (x.chunks.length - 1) = x.chunks[x.chunks.length - 1]'(by omega) := chunkAt_lt (by omega)
  have h3 := textTo_succ (x := x) (k := x.chunks.length - 1) (by omega)
  rw [show x.chunks.length - 1 + 1 = x.chunks.length by omega] at h3
  unfold linesR
  refine ⟨by rw [List.length_append, h1]; rfl, ?_⟩
  rw [joinB_snoc, bareL_app, bareL_app, h3, bareL_app, ← h2, hc, List.append_assoc]
theorem overS_take {W : Int} {ls : List ByteArray} {k : Nat} (h : k < ls.length) : overS W (ls.take (k + 1)) = overS W (ls.take k) + overOf W ls[k].size := by
  rw [List.take_succ_eq_append_getElem h, overS_snoc]
theorem clampW_id {w : Int} (h1 : 0 ≤ w) (h2 : w ≤ 100000) : clampW w = w := by
  unfold clampW
  rw [if_neg (by omega), if_neg (by omega)]
end Go.Proofs.Ytllpgomloblfjaa
