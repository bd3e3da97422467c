/- Texts of plain bytes. -/
import Derived.Test.YtoloplpmjcgbdaaGreatDoorBase
import Derived.Lib.Strings
namespace Go.Proofs.YtoloplpmjcgbdaaGreatDoor
open Go.RowKit

theorem allp_succ {α : Type} {p : α → Bool} {xs ys : List α} {x : α} (e : ys = xs ++ [x]) (h : xs.all p = true) (hx : p x = true) : ys.all p = true := by
  subst e; simp [List.all_append, h, hx]
theorem allp_no {α : Type} {p : α → Bool} {ws : List α} {k : Nat} (h : k < ws.length) (hx : p ws[k] = false) : ws.all p = false := by
  cases hb : ws.all p with
  | false => rfl
  | true => rw [List.all_eq_true.1 hb _ (List.getElem_mem h)] at hx; cases hx
def plainByte (b : UInt8) : Bool := decide (32 ≤ b.toNat) && decide (b.toNat ≤ 126)
/-- all bytes are in 32 .. 126 -/
def plainB (s : ByteArray) : Bool := s.data.toList.all plainByte
set_option maxHeartbeats 1000000 in
set_option maxRecDepth 100000 in
theorem isPlain_impl (s : ByteArray) (w : World) (hs : s.size ≤ 9223372036854775807) :
    Calls Tryz.prog 110 #[.string s] w fun e w' => e = .returned (.bool (plainB s)) ∧ w = w' := by
  have hsl : s.size = s.data.toList.length := by rw [Array.length_toList]; rfl
  go_enter Tryz.func110, Tryz.ntmps110
  go_wp2
  go_loop [3] (fun i => ∃ k : Nat, k ≤ s.size ∧ i = .int .i64 k ∧ Hid ((s.data.toList.take k).all plainByte = true)) (fun i => s.size - (intOf i).toNat)
  case atStart => exact ⟨0, Nat.zero_le _, rfl, rfl⟩
  case round =>
    obtain ⟨k, hk, rfl, HA⟩ := hrel
    by_cases hlt : k < s.size
    · have hki : (k : Int) < (s.size : Int) := by omega
      have hkz : (0 : Int) ≤ (k : Int) := by omega
      have hkl : k < s.data.toList.length := by omega
      have HT : Hid (s.data.toList.take (k + 1) = s.data.toList.take k ++ [s[k]]) := List.take_succ_eq_append_getElem hkl
      have HN : Hid (plainByte s[k] = false → plainB s = false) := fun h => allp_no hkl h
      clear hsl
      by_cases g1 : (s[k].toNat : Int) < 32
      · have g1d : decide ((s[k].toNat : Int) < 32) = true := decide_eq_true g1
        have HF := Lib.hid (HN.out (by unfold plainByte; simp; omega))
        go_wp2
        go_ret
        exact ⟨ret_bool HF.out.symm, rfl⟩
      · have g1d : decide ((s[k].toNat : Int) < 32) = false := decide_eq_false g1
        by_cases g2 : (126 : Int) < (s[k].toNat : Int)
        · have g2d : decide ((126 : Int) < (s[k].toNat : Int)) = true := decide_eq_true g2
          have HF := Lib.hid (HN.out (by unfold plainByte; simp; omega))
          go_wp2
          go_ret
          exact ⟨ret_bool HF.out.symm, rfl⟩
        · have g2d : decide ((126 : Int) < (s[k].toNat : Int)) = false := decide_eq_false g2
          have HF := Lib.hid (show plainByte s[k] = true by unfold plainByte; simp; omega)
          go_wp2
          go_round
          case rel => exact ⟨k + 1, by omega, by go_num, allp_succ HT.out HA.out HF.out⟩
          case measure => simp [intOf]; omega
    · have hki : ¬ (k : Int) < (s.size : Int) := by omega
      have HF : Hid (plainB s = true) := by have e := HA.out; rw [List.take_of_length_le (by omega)] at e; exact e
      clear hsl
      go_wp2
      go_ret
      exact ⟨ret_bool HF.out.symm, rfl⟩
def plainN (n : Int) : Bool := decide (32 ≤ n) && decide (n ≤ 126)
theorem plainN_byte (b : UInt8) : plainN (b.toNat : Int) = plainByte b := by
  unfold plainN plainByte
  congr 1
  · exact decide_eq_decide.2 (by omega)
  · exact decide_eq_decide.2 (by omega)
set_option maxHeartbeats 400000 in
set_option maxRecDepth 100000 in
theorem l04Plain_any (n : Int) (w : World) :
    Calls Tryz.prog 148 #[.int .u8 n] w fun e w' => e = .returned (.bool (plainN n)) ∧ w = w' := by
  by_cases h1 : (32 : Int) ≤ n
  · by_cases h2 : n ≤ 126
    · have HF := Lib.hid (show plainN n = true by simp [plainN, h1, h2])
      go_enter Tryz.func148, Tryz.ntmps148
      go_wp2
      go_ret
      exact ⟨ret_bool HF.out.symm, rfl⟩
    · have HF := Lib.hid (show plainN n = false by simp [plainN, h2])
      have h2d : decide (n ≤ 126) = false := decide_eq_false h2
      go_enter Tryz.func148, Tryz.ntmps148
      go_wp2
      go_ret
      exact ⟨ret_bool HF.out.symm, rfl⟩
  · have HF := Lib.hid (show plainN n = false by simp [plainN, h1])
    have h1d : decide ((32 : Int) ≤ n) = false := decide_eq_false h1
    go_enter Tryz.func148, Tryz.ntmps148
    go_wp2
    go_ret
    exact ⟨ret_bool HF.out.symm, rfl⟩
end Go.Proofs.YtoloplpmjcgbdaaGreatDoor
