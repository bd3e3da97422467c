/- Signs of the program. -/
import Derived.Test.YtoloplpmjcgbdaaGreatDoorSignP
namespace Go.Proofs.YtoloplpmjcgbdaaGreatDoor
open Go.RowKit

set_option maxHeartbeats 2000000 in
set_option maxRecDepth 100000 in
theorem isFirst_any (n : Int) (w : World) : Calls Tryz.prog 102 #[.int .u8 n] w fun e w' => e = .returned (.bool (firstN n)) ∧ w = w' := by
  obtain ⟨d1, e1⟩ : ∃ d, decide (97 ≤ n) = d := ⟨_, rfl⟩
  obtain ⟨d2, e2⟩ : ∃ d, decide (n ≤ 122) = d := ⟨_, rfl⟩
  obtain ⟨d3, e3⟩ : ∃ d, decide (65 ≤ n) = d := ⟨_, rfl⟩
  obtain ⟨d4, e4⟩ : ∃ d, decide (n ≤ 90) = d := ⟨_, rfl⟩
  obtain ⟨d5, e5⟩ : ∃ d, (n == 95) = d := ⟨_, rfl⟩
  have HF := Lib.hid (show firstN n = ((d1 && d2) || (d3 && d4) || d5) by rw [firstN, e1, e2, e3, e4, e5])
  cases d1 <;> cases d2 <;> cases d3 <;> cases d4 <;>
    (go_enter Tryz.func102, Tryz.ntmps102; go_wp2; go_ret; exact ⟨ret_bool (by rw [HF.out]; simp), rfl⟩)
set_option maxHeartbeats 1000000 in
set_option maxRecDepth 100000 in
theorem isFigure_any (n : Int) (w : World) : Calls Tryz.prog 105 #[.int .u8 n] w fun e w' => e = .returned (.bool (figN n)) ∧ w = w' := by
  obtain ⟨d1, e1⟩ : ∃ d, decide (48 ≤ n) = d := ⟨_, rfl⟩
  obtain ⟨d2, e2⟩ : ∃ d, decide (n ≤ 57) = d := ⟨_, rfl⟩
  have HF := Lib.hid (show figN n = (d1 && d2) by rw [figN, e1, e2])
  cases d1 <;>
    (go_enter Tryz.func105, Tryz.ntmps105; go_wp2; go_ret; exact ⟨ret_bool (by rw [HF.out]; simp), rfl⟩)
set_option maxHeartbeats 1000000 in
set_option maxRecDepth 100000 in
theorem isInner_any (n : Int) (w : World) : Calls Tryz.prog 104 #[.int .u8 n] w fun e w' => e = .returned (.bool (innerN n)) ∧ w = w' := by
  go_enter Tryz.func104, Tryz.ntmps104
  go_wp2_with fail
  refine (isFirst_any _ _).mono ?_
  rintro e w' ⟨rfl, rfl⟩
  cases g1 : firstN n with
  | true =>
    have HF := Lib.hid (show innerN n = true by rw [innerN, g1]; rfl)
    go_wp2
    go_ret
    exact ⟨ret_bool HF.out.symm, rfl⟩
  | false =>
    have HF := Lib.hid (show innerN n = figN n by rw [innerN, g1]; rfl)
    go_wp2_with fail
    refine (isFigure_any _ _).mono ?_
    rintro e w' ⟨rfl, rfl⟩
    go_wp2
    go_ret
    exact ⟨ret_bool HF.out.symm, rfl⟩
set_option maxHeartbeats 1000000 in
set_option maxRecDepth 100000 in
theorem noNl_any (n : Int) (w : World) : Calls Tryz.prog 108 #[.int .u8 n] w fun e w' => e = .returned (.bool (notNl n)) ∧ w = w' := by
  go_enter Tryz.func108, Tryz.ntmps108
  go_wp2
  go_ret
  exact ⟨rfl, rfl⟩
set_option maxHeartbeats 1000000 in
set_option maxRecDepth 100000 in
theorem runOf_inner (s : ByteArray) (w : World) (hs : s.size ≤ 9223372036854775807) :
    Calls Tryz.prog 103 #[.string s, .func (.func 104) #[] #[]] w fun e w' => e = .returned (.string (s.extract 0 (runTo innerN s 0))) ∧ w = w' := by
  go_enter Tryz.func103, Tryz.ntmps103
  go_wp2
  go_loop [5] (fun i => ∃ k : Nat, k ≤ s.size ∧ i = .int .i64 k ∧ Hid (runTo innerN s 0 = runTo innerN s k)) (fun i => s.size - (intOf i).toNat)
  case atStart => exact ⟨0, Nat.zero_le _, rfl, rfl⟩
  case round =>
    obtain ⟨k, hk, rfl, HA⟩ := hrel
    by_cases hlt : k < s.size
    · have hki : (k : Int) < (s.size : Int) := by omega
      have hkz : (0 : Int) ≤ (k : Int) := by omega
      have HY := Lib.hid (fun h : innerN (s[k].toNat : Int) = true => HA.out.trans (runTo_step hlt h))
      have HN := Lib.hid (fun h : innerN (s[k].toNat : Int) = false => HA.out.trans (runTo_stop hlt h))
      go_wp2_with fail

      refine (isInner_any _ _).mono ?_
      rintro e w' ⟨rfl, rfl⟩
      cases g1 : innerN (s[k].toNat : Int) with
      | true =>
        have HF := Lib.hid (HY.out g1)
        go_wp2
        go_round
        case rel => exact ⟨k + 1, by omega, by go_num, HF.out⟩
        case measure => simp [intOf]; omega
      | false =>
        have HF := Lib.hid (HN.out g1)
        go_wp2
        go_ret
        exact ⟨ret_str (by rw [HF.out]), rfl⟩
    · have hki : ¬ (k : Int) < (s.size : Int) := by omega
      have HF := Lib.hid (HA.out.trans (runTo_end (by omega)))
      go_wp2
      go_ret
      exact ⟨ret_str (by rw [HF.out]), rfl⟩
set_option maxHeartbeats 1000000 in
set_option maxRecDepth 100000 in
theorem runOf_fig (s : ByteArray) (w : World) (hs : s.size ≤ 9223372036854775807) :
    Calls Tryz.prog 103 #[.string s, .func (.func 105) #[] #[]] w fun e w' => e = .returned (.string (s.extract 0 (runTo figN s 0))) ∧ w = w' := by
  go_enter Tryz.func103, Tryz.ntmps103
  go_wp2
  go_loop [5] (fun i => ∃ k : Nat, k ≤ s.size ∧ i = .int .i64 k ∧ Hid (runTo figN s 0 = runTo figN s k)) (fun i => s.size - (intOf i).toNat)
  case atStart => exact ⟨0, Nat.zero_le _, rfl, rfl⟩
  case round =>
    obtain ⟨k, hk, rfl, HA⟩ := hrel
    by_cases hlt : k < s.size
    · have hki : (k : Int) < (s.size : Int) := by omega
      have hkz : (0 : Int) ≤ (k : Int) := by omega
      have HY := Lib.hid (fun h : figN (s[k].toNat : Int) = true => HA.out.trans (runTo_step hlt h))
      have HN := Lib.hid (fun h : figN (s[k].toNat : Int) = false => HA.out.trans (runTo_stop hlt h))
      go_wp2_with fail

      refine (isFigure_any _ _).mono ?_
      rintro e w' ⟨rfl, rfl⟩
      cases g1 : figN (s[k].toNat : Int) with
      | true =>
        have HF := Lib.hid (HY.out g1)
        go_wp2
        go_round
        case rel => exact ⟨k + 1, by omega, by go_num, HF.out⟩
        case measure => simp [intOf]; omega
      | false =>
        have HF := Lib.hid (HN.out g1)
        go_wp2
        go_ret
        exact ⟨ret_str (by rw [HF.out]), rfl⟩
    · have hki : ¬ (k : Int) < (s.size : Int) := by omega
      have HF := Lib.hid (HA.out.trans (runTo_end (by omega)))
      go_wp2
      go_ret
      exact ⟨ret_str (by rw [HF.out]), rfl⟩
set_option maxHeartbeats 1000000 in
set_option maxRecDepth 100000 in
theorem runOf_noNl (s : ByteArray) (w : World) (hs : s.size ≤ 9223372036854775807) :
    Calls Tryz.prog 103 #[.string s, .func (.func 108) #[] #[]] w fun e w' => e = .returned (.string (s.extract 0 (runTo notNl s 0))) ∧ w = w' := by
  go_enter Tryz.func103, Tryz.ntmps103
  go_wp2
  go_loop [5] (fun i => ∃ k : Nat, k ≤ s.size ∧ i = .int .i64 k ∧ Hid (runTo notNl s 0 = runTo notNl s k)) (fun i => s.size - (intOf i).toNat)
  case atStart => exact ⟨0, Nat.zero_le _, rfl, rfl⟩
  case round =>
    obtain ⟨k, hk, rfl, HA⟩ := hrel
    by_cases hlt : k < s.size
    · have hki : (k : Int) < (s.size : Int) := by omega
      have hkz : (0 : Int) ≤ (k : Int) := by omega
      have HY := Lib.hid (fun h : notNl (s[k].toNat : Int) = true => HA.out.trans (runTo_step hlt h))
      have HN := Lib.hid (fun h : notNl (s[k].toNat : Int) = false => HA.out.trans (runTo_stop hlt h))
      go_wp2_with fail

      refine (noNl_any _ _).mono ?_
      rintro e w' ⟨rfl, rfl⟩
      cases g1 : notNl (s[k].toNat : Int) with
      | true =>
        have HF := Lib.hid (HY.out g1)
        go_wp2
        go_round
        case rel => exact ⟨k + 1, by omega, by go_num, HF.out⟩
        case measure => simp [intOf]; omega
      | false =>
        have HF := Lib.hid (HN.out g1)
        go_wp2
        go_ret
        exact ⟨ret_str (by rw [HF.out]), rfl⟩
    · have hki : ¬ (k : Int) < (s.size : Int) := by omega
      have HF := Lib.hid (HA.out.trans (runTo_end (by omega)))
      go_wp2
      go_ret
      exact ⟨ret_str (by rw [HF.out]), rfl⟩
end Go.Proofs.YtoloplpmjcgbdaaGreatDoor
