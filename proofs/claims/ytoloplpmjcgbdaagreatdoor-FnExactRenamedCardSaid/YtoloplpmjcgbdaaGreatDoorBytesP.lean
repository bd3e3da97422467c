/- Bytes of a text, one by one. -/
import Derived.Test.YtoloplpmjcgbdaaGreatDoorWordsP
import Derived.Lib.Strings
import Derived.WalkKit
namespace Go.Proofs.YtoloplpmjcgbdaaGreatDoor
open Go.RowKit

def mkB (l : List UInt8) : ByteArray := ⟨l.toArray⟩
theorem drop_byte (s : ByteArray) (k : Nat) (h : k < s.size) : s.data.toList.drop k = s[k] :: s.data.toList.drop (k + 1) := by
  have h' : k < s.data.toList.length := by rw [← size_list]; exact h
  rw [List.drop_eq_getElem_cons h']
  rfl
theorem take_byte (s : ByteArray) (j k : Nat) (h : k < s.size) (hj : j ≤ k) : (s.data.toList.drop j).take (k + 1 - j) = (s.data.toList.drop j).take (k - j) ++ [s[k]] := by
  have h' : k - j < (s.data.toList.drop j).length := by rw [List.length_drop, ← size_list]; omega
  rw [show k + 1 - j = k - j + 1 by omega, List.take_succ_eq_append_getElem h']
  congr 1
  simp only [List.getElem_drop, List.cons.injEq, and_true]
  have : j + (k - j) = k := by omega
  simp only [this]
  rfl
theorem mk_piece (s : ByteArray) (j k : Nat) : mkB ((s.data.toList.drop j).take (k - j)) = s.extract j k := by
  unfold mkB
  rw [← Lib.extract_data]
theorem piece_pos (s : ByteArray) (j k : Nat) (h1 : j < k) (h2 : k ≤ s.size) : 0 < ((s.data.toList.drop j).take (k - j)).length := by
  rw [List.length_take, List.length_drop, ← size_list]; omega
theorem u8_int {b : UInt8} : ((b.toNat : Int) = 32) ↔ b = 32 := by
  constructor
  · intro h
    have : b.toNat = 32 := by omega
    exact UInt8.toNat_inj.1 (by rw [this]; rfl)
  · rintro rfl; rfl

theorem emp_yes {s : ByteArray} (h : s = ⟨#[]⟩) : s.toList.isEmpty = true := by
  rw [← decide_eq_emptyBytes]
  exact decide_eq_true h
theorem emp_no {s : ByteArray} (h : ¬ s = ⟨#[]⟩) : s.toList.isEmpty = false := by
  rw [← decide_eq_emptyBytes]
  exact decide_eq_false h
end Go.Proofs.YtoloplpmjcgbdaaGreatDoor
