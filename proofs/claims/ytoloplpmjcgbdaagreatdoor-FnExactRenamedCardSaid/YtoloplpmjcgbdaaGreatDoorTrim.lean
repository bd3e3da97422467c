/- Trimmed of the reference. -/
import Derived.Test.YtoloplpmjcgbdaaGreatDoorTrimP
import Derived.Test.YtoloplpmjcgbdaaGreatDoorBytesP
namespace Go.Proofs.YtoloplpmjcgbdaaGreatDoor
open Go.RowKit

theorem trim_take_yes (s : ByteArray) (q : Nat) (h : q < s.size) (hb : s[q] = 32) : Lib.trimRightB (s.data.toList.take (q + 1)) 32 = Lib.trimRightB (s.data.toList.take q) 32 := by
  have e := take_byte s 0 q h (Nat.zero_le _)
  simp only [List.drop_zero, Nat.sub_zero] at e
  rw [e, hb, trim_snoc_yes]
theorem trim_take_no (s : ByteArray) (q : Nat) (h : q < s.size) (hb : s[q] ≠ 32) : Lib.trimRightB (s.data.toList.take (q + 1)) 32 = s.data.toList.take (q + 1) := by
  have e := take_byte s 0 q h (Nat.zero_le _)
  simp only [List.drop_zero, Nat.sub_zero] at e
  rw [e, trim_snoc_no _ hb]
theorem mk_take (s : ByteArray) (k : Nat) : (⟨(s.data.toList.take k).toArray⟩ : ByteArray) = s.extract 0 k := by
  have := mk_piece s 0 k
  simpa [mkB] using this
set_option maxHeartbeats 1000000 in
set_option maxRecDepth 100000 in
theorem trimmed_spec (s : ByteArray) (w : World) (hs : s.size ≤ 9223372036854775807) :
    Calls Tryz.prog 137 #[.string s] w fun e w' => e = .returned (.string (trimT s)) ∧ w = w' := by
  go_enter Tryz.func137, Tryz.ntmps137
  go_wp2
  go_loop [3] (fun n => ∃ k : Nat, k ≤ s.size ∧ n = .int .i64 k ∧ Hid (Lib.trimRightB s.data.toList 32 = Lib.trimRightB (s.data.toList.take k) 32)) (fun n => (intOf n).toNat)
  case atStart => exact ⟨s.size, Nat.le_refl _, rfl, by unfold Hid; rw [List.take_of_length_le (by rw [← size_list]; omega)]⟩
  case round =>
    obtain ⟨k, hk, rfl, HT⟩ := hrel
    cases k with
    | zero =>
      have HF : Hid (trimT s = ByteArray.empty) := by unfold Hid trimT; rw [HT.out]; rfl
      go_wp2
      go_ret
      exact ⟨ret_str HF.out.symm, rfl⟩
    | succ q =>
      have hq : q < s.size := hk
      have hqi : (q : Int) < (s.size : Int) := by omega
      have hq0 : (0 : Int) ≤ (q : Int) := by omega
      by_cases hb : s[q] = 32
      · have hbi : ((s[q].toNat : Int) == 32) = true := by rw [u8_int.2 hb]; rfl
        have HF := Lib.hid (trim_take_yes s q hq hb)
        clear hb
        go_wp2
        go_round
        case rel => exact ⟨q, by omega, by go_num, by unfold Hid; rw [HT.out, HF.out]⟩
        case measure => simp [intOf]
      · have hbi : ((s[q].toNat : Int) == 32) = false := beq_eq_false_iff_ne.2 (fun h => hb (u8_int.1 h))
        have HF := Lib.hid (trim_take_no s q hq hb)
        have HG : Hid (trimT s = s.extract 0 (q + 1)) := by unfold Hid trimT; rw [HT.out, HF.out, mk_take]
        clear hb
        go_wp2
        go_ret
        exact ⟨ret_str HG.out.symm, rfl⟩
end Go.Proofs.YtoloplpmjcgbdaaGreatDoor
