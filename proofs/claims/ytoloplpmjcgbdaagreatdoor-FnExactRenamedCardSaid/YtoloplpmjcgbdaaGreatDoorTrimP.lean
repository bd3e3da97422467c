/- Trimmed, said of lists. -/
import Derived.Test.YtoloplpmjcgbdaaGreatDoorPlain
import Derived.Lib.TrimByte
namespace Go.Proofs.YtoloplpmjcgbdaaGreatDoor

/-- the last byte is c -/
def lastIs (c : UInt8) (s : ByteArray) : Bool := Lib.hasSuffix s.data.toList [c]
theorem suffix_snoc (xs : List UInt8) (b c : UInt8) : Lib.hasSuffix (xs ++ [b]) [c] = (b == c) := by
  unfold Lib.hasSuffix List.isSuffixOf
  rw [List.reverse_append]
  show (c == b && List.isPrefixOf [] xs.reverse) = _
  rw [List.isPrefixOf_nil_left, Bool.and_true]
  exact Bool.eq_iff_iff.2 ⟨fun h => by simpa using (beq_iff_eq.1 h).symm, fun h => by simpa using (beq_iff_eq.1 h).symm⟩
theorem suffix_nil (c : UInt8) : Lib.hasSuffix [] [c] = false := rfl
theorem trim_snoc_yes (xs : List UInt8) (c : UInt8) : Lib.trimRightB (xs ++ [c]) c = Lib.trimRightB xs c := by simp [Lib.trimRightB]
theorem trim_snoc_no (xs : List UInt8) {b c : UInt8} (h : b ≠ c) : Lib.trimRightB (xs ++ [b]) c = xs ++ [b] := by simp [Lib.trimRightB, h]
theorem trim_nil (c : UInt8) : Lib.trimRightB [] c = [] := rfl
theorem dropWhile_le {α : Type} (p : α → Bool) (xs : List α) : (xs.dropWhile p).length ≤ xs.length := by
  induction xs with
  | nil => exact Nat.le_refl _
  | cons x xs ih =>
    rw [List.dropWhile]
    split
    · exact Nat.le_succ_of_le ih
    · exact Nat.le_refl _
theorem trim_len (xs : List UInt8) (c : UInt8) : (Lib.trimRightB xs c).length ≤ xs.length := by
  unfold Lib.trimRightB
  rw [List.length_reverse]
  exact Nat.le_trans (dropWhile_le _ _) (by simp)
theorem snoc_cases (l : List UInt8) : l = [] ∨ ∃ xs b, l = xs ++ [b] := by
  rcases List.eq_nil_or_concat l with h | ⟨xs, b, h⟩
  · exact .inl h
  · exact .inr ⟨xs, b, by rw [h, List.concat_eq_append]⟩
theorem trim_eq_iff (l : List UInt8) (c : UInt8) : Lib.trimRightB l c = l ↔ Lib.hasSuffix l [c] = false := by
  rcases snoc_cases l with rfl | ⟨xs, b, rfl⟩
  · exact ⟨fun _ => rfl, fun _ => rfl⟩
  · rw [suffix_snoc]
    by_cases h : b = c
    · subst h
      rw [trim_snoc_yes]
      constructor
      · intro e
        have h1 := trim_len xs b
        have h2 := congrArg List.length e
        simp at h2
        omega
      · intro e; simp at e
    · rw [trim_snoc_no xs h]
      exact ⟨fun _ => by simpa using h, fun _ => rfl⟩
def trimT (s : ByteArray) : ByteArray := ⟨(Lib.trimRightB s.data.toList 32).toArray⟩
theorem trimT_eq (s : ByteArray) : trimT s = s ↔ lastIs 32 s = false := by
  rw [lastIs, ← trim_eq_iff]
  obtain ⟨⟨l⟩⟩ := s
  constructor
  · intro h
    exact congrArg (fun b : ByteArray => b.data.toList) h
  · intro h
    show (⟨(Lib.trimRightB l 32).toArray⟩ : ByteArray) = ⟨⟨l⟩⟩
    rw [show Lib.trimRightB l 32 = l from h]
end Go.Proofs.YtoloplpmjcgbdaaGreatDoor
