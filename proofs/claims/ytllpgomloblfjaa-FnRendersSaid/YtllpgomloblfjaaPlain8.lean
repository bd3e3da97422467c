/- Texts of plain bytes: l08Plain of the reference. -/
import Derived.Test.YtllpgomloblfjaaPlain
namespace Go.Proofs.Ytllpgomloblfjaa
open Go.RowKit

set_option maxHeartbeats 1000000 in
set_option maxRecDepth 100000 in
theorem l08Plain_any (s : ByteArray) (w : World) (hs : s.size ≤ 9223372036854775807) :
    Calls Try.prog 104 #[.string s] w fun e w' => e = .returned (.bool (plainB s)) ∧ w = w' := by
  have hsl : s.size = s.data.toList.length := by rw [Array.length_toList]; rfl
  go_enter Try.func104, Try.ntmps104
  go_wp2
  go_loop [3] (fun i => ∃ k : Nat, k ≤ s.size ∧ i = .int .i64 k ∧ Hid ((s.data.toList.take k).all plainByte = true)) (fun i => s.size - (intOf i).toNat)
  case atStart => exact ⟨0, Nat.zero_le _, rfl, rfl⟩
  case round =>
    obtain ⟨k, hk, rfl, HA⟩ := hrel
    by_cases hlt : k < s.size
    · have hki : (k : Int) < (s.size : Int) := by omega
      have hkz : (0 : Int) ≤ (k : Int) := by omega
      have hkl : k < s.data.toList.length := by omega
      have HT : Hid (s.data.toList.take (k + 1) = s.data.toList.take k ++ [s[k]]) := List.take_succ_eq_append_getElem hkl
      have HN : Hid (plainByte s[k] = false → plainB s = false) := fun h => allp_no hkl h
      have HP := Lib.hid (plainN_byte s[k])
      clear hsl
      go_wp2_with fail
      refine (l04Plain_any _ _).mono ?_
      rintro e w' ⟨rfl, rfl⟩
      rw [HP.out]
      cases g1 : plainByte s[k] with
      | false =>
        have HF := Lib.hid (HN.out g1)
        go_wp2
        go_ret
        exact ⟨ret_bool HF.out.symm, rfl⟩
      | true =>
        have G1 := Lib.hid g1
        go_wp2
        go_round
        case rel => exact ⟨k + 1, by omega, by go_num, allp_succ HT.out HA.out G1.out⟩
        case measure => simp [intOf]; omega
    · have hki : ¬ (k : Int) < (s.size : Int) := by omega
      have HF : Hid (plainB s = true) := by have e := HA.out; rw [List.take_of_length_le (by omega)] at e; exact e
      clear hsl
      go_wp2
      go_ret
      exact ⟨ret_bool HF.out.symm, rfl⟩
end Go.Proofs.Ytllpgomloblfjaa
