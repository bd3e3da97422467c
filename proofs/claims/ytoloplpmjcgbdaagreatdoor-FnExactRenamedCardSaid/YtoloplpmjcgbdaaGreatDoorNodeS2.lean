/- What the reference asks of a node's text. -/
import Derived.Test.YtoloplpmjcgbdaaGreatDoorNodeS
import Derived.Test.YtoloplpmjcgbdaaGreatDoorRdInt
namespace Go.Proofs.YtoloplpmjcgbdaaGreatDoor
open Go.RowKit

theorem isNm_no {s : ByteArray} (h : ¬ isSg s 1 = true) : isNm s = false := by unfold isNm; rw [isSg_no h]; rfl
set_option maxHeartbeats 2000000 in
set_option maxRecDepth 100000 in
theorem l05Name_any (s : ByteArray) (w : World) (hs : s.size ≤ 4611686018427387904) :
    Calls Tryz.prog 26 #[.string s] w fun e w' => e = .returned (.bool (isNm s)) ∧ w = w' := by
  by_cases hr : 1 ≤ s.size ∧ s.size ≤ 30
  · have HI := Lib.hid (l01In_yes s.size 1 30 w (by omega) (by omega))
    have h0 : 0 < s.size := by omega
    have h0i : (0 : Int) < (s.size : Int) := by omega
    have H1 := Lib.hid (fun (f : firstN (s[0].toNat : Int) = true) (r : runTo innerN s 0 = s.size) => isSg1_iff.2 ⟨h0, f, r, hr.2⟩)
    have H2 := Lib.hid (fun (h : isSg s 1 = true) => (by obtain ⟨_, f, r, _⟩ := isSg1_iff.1 h; exact ⟨f, r⟩ : firstN (s[0].toNat : Int) = true ∧ runTo innerN s 0 = s.size))
    clear hr
    go_enter Tryz.func26, Tryz.ntmps26
    go_wp2_with fail
    refine HI.out.mono ?_
    rintro e w' ⟨rfl, hw⟩
    subst hw
    go_wp2_with fail
    refine (l04First_any _ _).mono ?_
    rintro e w' ⟨rfl, hw⟩
    subst hw
    cases g1 : firstN (s[0].toNat : Int) with
    | false =>
      have HF := Lib.hid (isNm_no (s := s) (fun h => by have := (H2.out h).1; rw [g1] at this; cases this))
      go_wp2
      go_ret
      exact ⟨ret_bool HF.out.symm, rfl⟩
    | true =>
      have H3 := Lib.hid (H1.out g1)
      clear g1
      go_wp2_with fail
      refine (keyWord_spec s _).mono ?_
      rintro e w' ⟨rfl, hw⟩
      subst hw
      cases gk : keyW s with
      | true =>
        have HF := Lib.hid (show isNm s = false by unfold isNm; rw [gk]; simp)
        go_wp2
        go_ret
        exact ⟨ret_bool HF.out.symm, rfl⟩
      | false =>
        have HK := Lib.hid (show isNm s = isSg s 1 by unfold isNm; rw [gk]; simp)
        clear gk
        go_wp2
        go_loop [3] (fun i => ∃ k : Nat, k ≤ s.size ∧ i = .int .i64 k ∧ Hid (runTo innerN s 0 = runTo innerN s k)) (fun i => s.size - (intOf i).toNat)
        case atStart => exact ⟨0, Nat.zero_le _, rfl, rfl⟩
        case round =>
          obtain ⟨k, hk, rfl, HA⟩ := hrel
          by_cases hlt : k < s.size
          · have hki : (k : Int) < (s.size : Int) := by omega
            have hkz : (0 : Int) ≤ (k : Int) := by omega
            have HNY := Lib.hid (fun h : innerN (s[k].toNat : Int) = true => runTo_step hlt h)
            have HNN := Lib.hid (fun h : innerN (s[k].toNat : Int) = false => runTo_stop hlt h)
            go_wp2_with fail
            refine (l04First_any _ _).mono ?_
            rintro e w' ⟨rfl, hw⟩
            subst hw
            cases g1 : firstN (s[k].toNat : Int) with
            | true =>
              have HR := Lib.hid (HA.out.trans (HNY.out (by unfold innerN; rw [g1]; rfl)))
              go_wp2
              go_round
              case rel => exact ⟨k + 1, by omega, by go_num, HR.out⟩
              case measure => simp [intOf]; omega
            | false =>
              have HI1 := Lib.hid (show innerN (s[k].toNat : Int) = figN (s[k].toNat : Int) by unfold innerN; rw [g1]; rfl)
              clear g1
              go_wp2_with fail
              refine (l04Figure_any _ _).mono ?_
              rintro e w' ⟨rfl, hw⟩
              subst hw
              cases g2 : figN (s[k].toNat : Int) with
              | true =>
                have HR := Lib.hid (HA.out.trans (HNY.out (by rw [HI1.out, g2])))
                go_wp2
                go_round
                case rel => exact ⟨k + 1, by omega, by go_num, HR.out⟩
                case measure => simp [intOf]; omega
              | false =>
                have HF := Lib.hid (isNm_no (s := s) (fun h => by
                  have e := (H2.out h).2
                  rw [HA.out, HNN.out (by rw [HI1.out, g2])] at e
                  omega))
                go_wp2
                go_ret
                exact ⟨ret_bool HF.out.symm, rfl⟩
          · have hki : ¬ (k : Int) < (s.size : Int) := by omega
            have HF := Lib.hid (show isNm s = true by rw [HK.out]; exact H3.out (by rw [HA.out, runTo_end (by omega)]; omega))
            go_wp2
            go_ret
            exact ⟨ret_bool HF.out.symm, rfl⟩
  · have HI := Lib.hid (l01In_no s.size 1 30 w (by omega))
    have HF := Lib.hid (isNm_no (s := s) (fun h => by obtain ⟨a, b, c, d⟩ := isSg1_iff.1 h; omega))
    clear hr
    go_enter Tryz.func26, Tryz.ntmps26
    go_wp2_with fail
    refine HI.out.mono ?_
    rintro e w' ⟨rfl, hw⟩
    subst hw
    go_wp2
    go_ret
    exact ⟨ret_bool HF.out.symm, rfl⟩
set_option maxHeartbeats 2000000 in
set_option maxRecDepth 100000 in
theorem l05Num_any (s : ByteArray) (w : World) (hs : s.size ≤ 4611686018427387904) :
    Calls Tryz.prog 112 #[.string s] w fun e w' => e = .returned (.bool (isSg s 2)) ∧ w = w' := by
  have H2 := Lib.hid (isSg2_iff (s := s))
  have HI := Lib.hid (l01In_b s.size 1 12 w)
  go_enter Tryz.func112, Tryz.ntmps112
  go_wp2
  go_loop [3] (fun i => ∃ k : Nat, k ≤ s.size ∧ i = .int .i64 k ∧ Hid (runTo figN s 0 = runTo figN s k)) (fun i => s.size - (intOf i).toNat)
  case atStart => exact ⟨0, Nat.zero_le _, rfl, rfl⟩
  case round =>
    obtain ⟨k, hk, rfl, HA⟩ := hrel
    by_cases hlt : k < s.size
    · have hki : (k : Int) < (s.size : Int) := by omega
      have hkz : (0 : Int) ≤ (k : Int) := by omega
      have HNY := Lib.hid (fun h : figN (s[k].toNat : Int) = true => runTo_step hlt h)
      have HNN := Lib.hid (fun h : figN (s[k].toNat : Int) = false => runTo_stop hlt h)
      go_wp2_with fail
      refine (l04Figure_any _ _).mono ?_
      rintro e w' ⟨rfl, hw⟩
      subst hw
      cases g2 : figN (s[k].toNat : Int) with
      | true =>
        have HR := Lib.hid (HA.out.trans (HNY.out g2))
        go_wp2
        go_round
        case rel => exact ⟨k + 1, by omega, by go_num, HR.out⟩
        case measure => simp [intOf]; omega
      | false =>
        have HF := Lib.hid (isSg_no (s := s) (q := 2) (fun h => by
          have e := (H2.out.1 h).1
          rw [HA.out, HNN.out g2] at e
          omega))
        go_wp2
        go_ret
        exact ⟨ret_bool HF.out.symm, rfl⟩
    · have hki : ¬ (k : Int) < (s.size : Int) := by omega
      have HF : Hid (isSg s 2 = (decide ((1 : Int) ≤ (s.size : Int)) && decide ((s.size : Int) ≤ 12))) := by
        have hall : runTo figN s 0 = s.size := by rw [HA.out, runTo_end (by omega)]; omega
        show isSg s 2 = _
        rw [Bool.eq_iff_iff, H2.out, Bool.and_eq_true, decide_eq_true_iff, decide_eq_true_iff]
        exact ⟨fun h => ⟨by omega, by omega⟩, fun h => ⟨hall, by omega, by omega⟩⟩
      go_wp2_with fail
      refine HI.out.mono ?_
      rintro e w' ⟨rfl, hw⟩
      subst hw
      go_wp2
      go_ret
      exact ⟨ret_bool HF.out.symm, rfl⟩
set_option maxHeartbeats 2000000 in
set_option maxRecDepth 100000 in
theorem l05Quoted_any (s : ByteArray) (w : World) (hs : s.size ≤ 4611686018427387904) :
    Calls Tryz.prog 113 #[.string s] w fun e w' => e = .returned (.bool (isSg s 3)) ∧ w = w' := by
  have H := Lib.hid (isSg3_len s)
  by_cases h1 : 1 < s.size
  · have h1i : (1 : Int) < (s.size : Int) := by omega
    have h0i : (0 : Int) < (s.size : Int) := by omega
    have h0 : 0 < s.size := by omega
    have HQ := Lib.hid (l04Quoted_any s 0 w hs h0)
    rw [decide_eq_true h1, dif_pos h0, Bool.true_and] at H
    cases g : ((s[0].toNat : Int) == 39) with
    | true =>
      have HF : Hid (isSg s 3 = ((quoteLen s 0 : Int) == (s.size : Int))) := by show _ = _; rw [H.out, g, Bool.true_and, natEq2]
      clear h1
      go_enter Tryz.func113, Tryz.ntmps113
      go_wp2_with fail
      refine HQ.out.mono ?_
      rintro e w' ⟨rfl, hw⟩
      subst hw
      go_wp2
      go_ret
      exact ⟨ret_bool HF.out.symm, rfl⟩
    | false =>
      have HF : Hid (isSg s 3 = false) := by show _ = _; rw [H.out, g]; rfl
      clear h1
      go_enter Tryz.func113, Tryz.ntmps113
      go_wp2
      go_ret
      exact ⟨ret_bool HF.out.symm, rfl⟩
  · have h1i : ¬ (1 : Int) < (s.size : Int) := by omega
    have HF : Hid (isSg s 3 = false) := by show _ = _; rw [H.out, decide_eq_false h1]; rfl
    clear h1
    go_enter Tryz.func113, Tryz.ntmps113
    go_wp2
    go_ret
    exact ⟨ret_bool HF.out.symm, rfl⟩
set_option maxHeartbeats 2000000 in
set_option maxRecDepth 100000 in
theorem l05Note_any (s : ByteArray) (w : World) (hs : s.size ≤ 4611686018427387904) :
    Calls Tryz.prog 114 #[.string s] w fun e w' => e = .returned (.bool (isSg s 5)) ∧ w = w' := by
  have H := Lib.hid (isSg5_len s)
  by_cases h1 : 1 < s.size
  · have h1i : (1 : Int) < (s.size : Int) := by omega
    have HQ := Lib.hid (l04Note_any s 0 w hs (Nat.zero_le _))
    have HT := Lib.hid (trimmed_spec s w (by omega))
    rw [decide_eq_true h1, Bool.true_and, ← natEq2] at H
    clear h1
    cases g : ((noteLen s 0 : Int) == (s.size : Int)) with
    | true =>
      have HF : Hid (isSg s 5 = ((trimT s).toList == s.toList)) := by show _ = _; rw [H.out, g, Bool.true_and]
      go_enter Tryz.func114, Tryz.ntmps114
      go_wp2_with fail
      refine HQ.out.mono ?_
      rintro e w' ⟨rfl, hw⟩
      subst hw
      go_wp2_with fail
      refine HT.out.mono ?_
      rintro e w' ⟨rfl, hw⟩
      subst hw
      go_wp2
      go_ret
      exact ⟨ret_bool HF.out.symm, rfl⟩
    | false =>
      have HF : Hid (isSg s 5 = false) := by show _ = _; rw [H.out, g]; rfl
      go_enter Tryz.func114, Tryz.ntmps114
      go_wp2_with fail
      refine HQ.out.mono ?_
      rintro e w' ⟨rfl, hw⟩
      subst hw
      go_wp2
      go_ret
      exact ⟨ret_bool HF.out.symm, rfl⟩
  · have h1i : ¬ (1 : Int) < (s.size : Int) := by omega
    have HF : Hid (isSg s 5 = false) := by show _ = _; rw [H.out, decide_eq_false h1]; rfl
    clear h1
    go_enter Tryz.func114, Tryz.ntmps114
    go_wp2
    go_ret
    exact ⟨ret_bool HF.out.symm, rfl⟩
end Go.Proofs.YtoloplpmjcgbdaaGreatDoor
