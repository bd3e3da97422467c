/- kindsFit of the program. -/
import Derived.Test.YtoloplpmjcgbdaaGreatDoorNodeI2
import Derived.Test.YtoloplpmjcgbdaaGreatDoorRdInt
namespace Go.Proofs.YtoloplpmjcgbdaaGreatDoor
open Go.RowKit

theorem lastK_no0 {ks : List Int} {p : Int → Bool} (h : ¬ 0 < ks.length) : lastK ks p = false := by unfold lastK; rw [decide_eq_false h]; rfl
set_option maxHeartbeats 1000000 in
set_option maxRecDepth 100000 in
theorem lastIs_any (f : Nat) (p : Int → Bool) (hc : ∀ args w, Sem.run Tryz.prog (callFunc f args) w = .ok (.enter f args) w) (hf : ∀ n w, Calls Tryz.prog f #[.int .i64 n] w fun e w' => e = .returned (.bool (p n)) ∧ w = w') (ks : List Int) (v : Value) (lo hi : Nat) (w : World) (hr : Rd intS lo hi w v ks) :
    Calls Tryz.prog 117 #[v, .func (.func f) #[] #[]] w fun e w' => e = .returned (.bool (lastK ks p)) ∧ w = w' := by
  obtain ⟨a, c, rfl⟩ := hr.sl
  obtain ⟨_, h2, h3⟩ := hr.lenEq
  by_cases h0 : 0 < ks.length
  · have HK := Lib.hid (show lastK ks p = (p (ks.getD (ks.length - 1) 0) && (ks.take (ks.length - 1)).all (· == 1)) by rw [lastK, decide_eq_true h0, Bool.true_and])
    obtain ⟨b, off, rfl, _, _, c0⟩ := hr.intAt (k := ks.length - 1) (by omega)
    have HR := Lib.hid (hr.take (m := ks.length - 1) (by omega))
    have hl : (ks.length : Int) ≤ 9223372036854775807 := by omega
    have h0i : (0 : Int) < (ks.length : Int) := by omega
    have e1 : (0 : Int) ≤ (ks.length : Int) - 1 := by omega
    have e2 : (ks.length : Int) - 1 < (ks.length : Int) := by omega
    have e3 : ((ks.length : Int) - 1).toNat = ks.length - 1 := by omega
    have e4 : (ks.length : Int) - 1 ≤ (c : Int) := by omega
    generalize hx : ks.getD (ks.length - 1) 0 = x at *
    go_enter Tryz.func117, Tryz.ntmps117
    go_wp2_with fail
    refine (hf x _).mono ?_
    rintro e w' ⟨rfl, rfl⟩
    cases g : p x with
    | false =>
      have HF := Lib.hid (show lastK ks p = false by rw [HK.out, g]; rfl)
      go_wp2
      go_ret
      exact ⟨ret_bool HF.out.symm, rfl⟩
    | true =>
      have HF := Lib.hid (show lastK ks p = (ks.take (ks.length - 1)).all (· == 1) by rw [HK.out, g]; rfl)
      go_wp2_with fail
      refine (all_name _ _ lo hi _ HR.out).mono ?_
      rintro e w' ⟨rfl, rfl⟩
      go_wp2
      go_ret
      exact ⟨ret_bool HF.out.symm, rfl⟩
  · have HF := Lib.hid (lastK_no0 (p := p) h0)
    have h0i : ¬ (0 : Int) < (ks.length : Int) := by omega
    go_enter Tryz.func117, Tryz.ntmps117
    go_wp2
    go_ret
    exact ⟨ret_bool HF.out.symm, rfl⟩
theorem natEq (n m : Nat) : ((n : Int) == (m : Int)) = decide (n = m) := by
  by_cases h : n = m
  · rw [decide_eq_true h, h]; simp
  · rw [decide_eq_false h]; exact beq_eq_false_iff_ne.2 (by omega)
set_option maxHeartbeats 2000000 in
set_option maxRecDepth 100000 in
theorem kf_1 (ks : List Int) (v : Value) (lo hi : Nat) (w : World) (hr : Rd intS lo hi w v ks) :
    Calls Tryz.prog 86 #[.int .i64 1, v] w fun e w' => e = .returned (.bool (kFit 1 ks)) ∧ w = w' := by
  obtain ⟨a, c, rfl⟩ := hr.sl
  obtain ⟨_, h2, h3⟩ := hr.lenEq
  have hl : (ks.length : Int) ≤ 9223372036854775807 := by omega
  have first := Lib.hid (all_val ks _ lo hi w hr)
  go_enter Tryz.func86, Tryz.ntmps86
  go_wp2_with fail
  refine first.out.mono ?_
  rintro e w' ⟨rfl, rfl⟩
  go_wp2
  go_ret
  exact ⟨ret_bool (natEq ks.length 0), rfl⟩
set_option maxHeartbeats 2000000 in
set_option maxRecDepth 100000 in
theorem kf_2 (ks : List Int) (v : Value) (lo hi : Nat) (w : World) (hr : Rd intS lo hi w v ks) :
    Calls Tryz.prog 86 #[.int .i64 2, v] w fun e w' => e = .returned (.bool (kFit 2 ks)) ∧ w = w' := by
  obtain ⟨a, c, rfl⟩ := hr.sl
  obtain ⟨_, h2, h3⟩ := hr.lenEq
  have hl : (ks.length : Int) ≤ 9223372036854775807 := by omega
  have first := Lib.hid (all_val ks _ lo hi w hr)
  go_enter Tryz.func86, Tryz.ntmps86
  go_wp2_with fail
  refine first.out.mono ?_
  rintro e w' ⟨rfl, rfl⟩
  go_wp2
  go_ret
  exact ⟨ret_bool (natEq ks.length 0), rfl⟩
set_option maxHeartbeats 2000000 in
set_option maxRecDepth 100000 in
theorem kf_3 (ks : List Int) (v : Value) (lo hi : Nat) (w : World) (hr : Rd intS lo hi w v ks) :
    Calls Tryz.prog 86 #[.int .i64 3, v] w fun e w' => e = .returned (.bool (kFit 3 ks)) ∧ w = w' := by
  obtain ⟨a, c, rfl⟩ := hr.sl
  obtain ⟨_, h2, h3⟩ := hr.lenEq
  have hl : (ks.length : Int) ≤ 9223372036854775807 := by omega
  have first := Lib.hid (all_val ks _ lo hi w hr)
  go_enter Tryz.func86, Tryz.ntmps86
  go_wp2_with fail
  refine first.out.mono ?_
  rintro e w' ⟨rfl, rfl⟩
  go_wp2
  go_ret
  exact ⟨ret_bool (natEq ks.length 0), rfl⟩
set_option maxHeartbeats 2000000 in
set_option maxRecDepth 100000 in
theorem kf_19 (ks : List Int) (v : Value) (lo hi : Nat) (w : World) (hr : Rd intS lo hi w v ks) :
    Calls Tryz.prog 86 #[.int .i64 19, v] w fun e w' => e = .returned (.bool (kFit 19 ks)) ∧ w = w' := by
  obtain ⟨a, c, rfl⟩ := hr.sl
  obtain ⟨_, h2, h3⟩ := hr.lenEq
  have hl : (ks.length : Int) ≤ 9223372036854775807 := by omega
  have first := Lib.hid (all_val ks _ lo hi w hr)
  go_enter Tryz.func86, Tryz.ntmps86
  go_wp2_with fail
  refine first.out.mono ?_
  rintro e w' ⟨rfl, rfl⟩
  go_wp2
  go_ret
  exact ⟨ret_bool (natEq ks.length 0), rfl⟩
set_option maxHeartbeats 2000000 in
set_option maxRecDepth 100000 in
theorem kf_4 (ks : List Int) (v : Value) (lo hi : Nat) (w : World) (hr : Rd intS lo hi w v ks) :
    Calls Tryz.prog 86 #[.int .i64 4, v] w fun e w' => e = .returned (.bool (kFit 4 ks)) ∧ w = w' := by
  obtain ⟨a, c, rfl⟩ := hr.sl
  obtain ⟨_, h2, h3⟩ := hr.lenEq
  have hl : (ks.length : Int) ≤ 9223372036854775807 := by omega
  have first := Lib.hid (all_val ks _ lo hi w hr)
  go_enter Tryz.func86, Tryz.ntmps86
  go_wp2_with fail
  refine first.out.mono ?_
  rintro e w' ⟨rfl, rfl⟩
  go_wp2
  go_ret
  exact ⟨rfl, rfl⟩
set_option maxHeartbeats 2000000 in
set_option maxRecDepth 100000 in
theorem kf_5 (ks : List Int) (v : Value) (lo hi : Nat) (w : World) (hr : Rd intS lo hi w v ks) :
    Calls Tryz.prog 86 #[.int .i64 5, v] w fun e w' => e = .returned (.bool (kFit 5 ks)) ∧ w = w' := by
  obtain ⟨a, c, rfl⟩ := hr.sl
  obtain ⟨_, h2, h3⟩ := hr.lenEq
  have hl : (ks.length : Int) ≤ 9223372036854775807 := by omega
  have first := Lib.hid (all_val ks _ lo hi w hr)
  by_cases c0 : 1 ≤ ks.length
  · have ci : (1 : Int) ≤ (ks.length : Int) := by omega
    have HF := Lib.hid (show kFit 5 ks = ks.all isVal by show (decide (1 ≤ ks.length) && _) = _; rw [decide_eq_true c0, Bool.true_and])
    clear c0
    go_enter Tryz.func86, Tryz.ntmps86
    go_wp2_with fail
    refine first.out.mono ?_
    rintro e w' ⟨rfl, rfl⟩
    go_wp2
    go_ret
    exact ⟨ret_bool HF.out.symm, rfl⟩
  · have ci : ¬ (1 : Int) ≤ (ks.length : Int) := by omega
    have HF := Lib.hid (show kFit 5 ks = false by show (decide (1 ≤ ks.length) && _) = _; rw [decide_eq_false c0, Bool.false_and])
    clear c0
    go_enter Tryz.func86, Tryz.ntmps86
    go_wp2_with fail
    refine first.out.mono ?_
    rintro e w' ⟨rfl, rfl⟩
    go_wp2
    go_ret
    exact ⟨ret_bool HF.out.symm, rfl⟩
set_option maxHeartbeats 2000000 in
set_option maxRecDepth 100000 in
theorem kf_7 (ks : List Int) (v : Value) (lo hi : Nat) (w : World) (hr : Rd intS lo hi w v ks) :
    Calls Tryz.prog 86 #[.int .i64 7, v] w fun e w' => e = .returned (.bool (kFit 7 ks)) ∧ w = w' := by
  obtain ⟨a, c, rfl⟩ := hr.sl
  obtain ⟨_, h2, h3⟩ := hr.lenEq
  have hl : (ks.length : Int) ≤ 9223372036854775807 := by omega
  have first := Lib.hid (all_val ks _ lo hi w hr)
  by_cases c0 : 2 ≤ ks.length
  · have ci : (2 : Int) ≤ (ks.length : Int) := by omega
    have HF := Lib.hid (show kFit 7 ks = ks.all isVal by show (decide (2 ≤ ks.length) && _) = _; rw [decide_eq_true c0, Bool.true_and])
    clear c0
    go_enter Tryz.func86, Tryz.ntmps86
    go_wp2_with fail
    refine first.out.mono ?_
    rintro e w' ⟨rfl, rfl⟩
    go_wp2
    go_ret
    exact ⟨ret_bool HF.out.symm, rfl⟩
  · have ci : ¬ (2 : Int) ≤ (ks.length : Int) := by omega
    have HF := Lib.hid (show kFit 7 ks = false by show (decide (2 ≤ ks.length) && _) = _; rw [decide_eq_false c0, Bool.false_and])
    clear c0
    go_enter Tryz.func86, Tryz.ntmps86
    go_wp2_with fail
    refine first.out.mono ?_
    rintro e w' ⟨rfl, rfl⟩
    go_wp2
    go_ret
    exact ⟨ret_bool HF.out.symm, rfl⟩
set_option maxHeartbeats 2000000 in
set_option maxRecDepth 100000 in
theorem kf_8 (ks : List Int) (v : Value) (lo hi : Nat) (w : World) (hr : Rd intS lo hi w v ks) :
    Calls Tryz.prog 86 #[.int .i64 8, v] w fun e w' => e = .returned (.bool (kFit 8 ks)) ∧ w = w' := by
  obtain ⟨a, c, rfl⟩ := hr.sl
  obtain ⟨_, h2, h3⟩ := hr.lenEq
  have hl : (ks.length : Int) ≤ 9223372036854775807 := by omega
  have first := Lib.hid (all_val ks _ lo hi w hr)
  by_cases c0 : ks.length = 3
  · have ci : ((ks.length : Int) == 3) = true := by rw [beq_iff_eq]; omega
    have HF := Lib.hid (show kFit 8 ks = ks.all isVal by show (decide (ks.length = 3) && _) = _; rw [decide_eq_true c0, Bool.true_and])
    clear c0
    go_enter Tryz.func86, Tryz.ntmps86
    go_wp2_with fail
    refine first.out.mono ?_
    rintro e w' ⟨rfl, rfl⟩
    go_wp2
    go_ret
    exact ⟨ret_bool HF.out.symm, rfl⟩
  · have ci : ((ks.length : Int) == 3) = false := by exact eqf (by omega)
    have HF := Lib.hid (show kFit 8 ks = false by show (decide (ks.length = 3) && _) = _; rw [decide_eq_false c0, Bool.false_and])
    clear c0
    go_enter Tryz.func86, Tryz.ntmps86
    go_wp2_with fail
    refine first.out.mono ?_
    rintro e w' ⟨rfl, rfl⟩
    go_wp2
    go_ret
    exact ⟨ret_bool HF.out.symm, rfl⟩
set_option maxHeartbeats 2000000 in
set_option maxRecDepth 100000 in
theorem kf_6 (ks : List Int) (v : Value) (lo hi : Nat) (w : World) (hr : Rd intS lo hi w v ks) :
    Calls Tryz.prog 86 #[.int .i64 6, v] w fun e w' => e = .returned (.bool (kFit 6 ks)) ∧ w = w' := by
  obtain ⟨a, c, rfl⟩ := hr.sl
  obtain ⟨_, h2, h3⟩ := hr.lenEq
  have hl : (ks.length : Int) ≤ 9223372036854775807 := by omega
  have first := Lib.hid (all_val ks _ lo hi w hr)
  by_cases c0 : ks.length = 1
  · have ci : ((ks.length : Int) == 1) = true := by rw [beq_iff_eq]; omega
    have HF := Lib.hid (show kFit 6 ks = ks.all isVal by show (decide (ks.length = 1) && _) = _; rw [decide_eq_true c0, Bool.true_and])
    clear c0
    go_enter Tryz.func86, Tryz.ntmps86
    go_wp2_with fail
    refine first.out.mono ?_
    rintro e w' ⟨rfl, rfl⟩
    go_wp2
    go_ret
    exact ⟨ret_bool HF.out.symm, rfl⟩
  · have ci : ((ks.length : Int) == 1) = false := by exact eqf (by omega)
    have HF := Lib.hid (show kFit 6 ks = false by show (decide (ks.length = 1) && _) = _; rw [decide_eq_false c0, Bool.false_and])
    clear c0
    go_enter Tryz.func86, Tryz.ntmps86
    go_wp2_with fail
    refine first.out.mono ?_
    rintro e w' ⟨rfl, rfl⟩
    go_wp2
    go_ret
    exact ⟨ret_bool HF.out.symm, rfl⟩
set_option maxHeartbeats 2000000 in
set_option maxRecDepth 100000 in
theorem kf_11 (ks : List Int) (v : Value) (lo hi : Nat) (w : World) (hr : Rd intS lo hi w v ks) :
    Calls Tryz.prog 86 #[.int .i64 11, v] w fun e w' => e = .returned (.bool (kFit 11 ks)) ∧ w = w' := by
  obtain ⟨a, c, rfl⟩ := hr.sl
  obtain ⟨_, h2, h3⟩ := hr.lenEq
  have hl : (ks.length : Int) ≤ 9223372036854775807 := by omega
  have first := Lib.hid (all_val ks _ lo hi w hr)
  by_cases c0 : ks.length = 1
  · have ci : ((ks.length : Int) == 1) = true := by rw [beq_iff_eq]; omega
    have HF := Lib.hid (show kFit 11 ks = ks.all isVal by show (decide (ks.length = 1) && _) = _; rw [decide_eq_true c0, Bool.true_and])
    clear c0
    go_enter Tryz.func86, Tryz.ntmps86
    go_wp2_with fail
    refine first.out.mono ?_
    rintro e w' ⟨rfl, rfl⟩
    go_wp2
    go_ret
    exact ⟨ret_bool HF.out.symm, rfl⟩
  · have ci : ((ks.length : Int) == 1) = false := by exact eqf (by omega)
    have HF := Lib.hid (show kFit 11 ks = false by show (decide (ks.length = 1) && _) = _; rw [decide_eq_false c0, Bool.false_and])
    clear c0
    go_enter Tryz.func86, Tryz.ntmps86
    go_wp2_with fail
    refine first.out.mono ?_
    rintro e w' ⟨rfl, rfl⟩
    go_wp2
    go_ret
    exact ⟨ret_bool HF.out.symm, rfl⟩
set_option maxHeartbeats 2000000 in
set_option maxRecDepth 100000 in
theorem kf_13 (ks : List Int) (v : Value) (lo hi : Nat) (w : World) (hr : Rd intS lo hi w v ks) :
    Calls Tryz.prog 86 #[.int .i64 13, v] w fun e w' => e = .returned (.bool (kFit 13 ks)) ∧ w = w' := by
  obtain ⟨a, c, rfl⟩ := hr.sl
  obtain ⟨_, h2, h3⟩ := hr.lenEq
  have hl : (ks.length : Int) ≤ 9223372036854775807 := by omega
  have first := Lib.hid (all_val ks _ lo hi w hr)
  by_cases c0 : ks.length = 1
  · have ci : ((ks.length : Int) == 1) = true := by rw [beq_iff_eq]; omega
    have HF := Lib.hid (show kFit 13 ks = ks.all isVal by show (decide (ks.length = 1) && _) = _; rw [decide_eq_true c0, Bool.true_and])
    clear c0
    go_enter Tryz.func86, Tryz.ntmps86
    go_wp2_with fail
    refine first.out.mono ?_
    rintro e w' ⟨rfl, rfl⟩
    go_wp2
    go_ret
    exact ⟨ret_bool HF.out.symm, rfl⟩
  · have ci : ((ks.length : Int) == 1) = false := by exact eqf (by omega)
    have HF := Lib.hid (show kFit 13 ks = false by show (decide (ks.length = 1) && _) = _; rw [decide_eq_false c0, Bool.false_and])
    clear c0
    go_enter Tryz.func86, Tryz.ntmps86
    go_wp2_with fail
    refine first.out.mono ?_
    rintro e w' ⟨rfl, rfl⟩
    go_wp2
    go_ret
    exact ⟨ret_bool HF.out.symm, rfl⟩
set_option maxHeartbeats 2000000 in
set_option maxRecDepth 100000 in
theorem kf_14 (ks : List Int) (v : Value) (lo hi : Nat) (w : World) (hr : Rd intS lo hi w v ks) :
    Calls Tryz.prog 86 #[.int .i64 14, v] w fun e w' => e = .returned (.bool (kFit 14 ks)) ∧ w = w' := by
  obtain ⟨a, c, rfl⟩ := hr.sl
  obtain ⟨_, h2, h3⟩ := hr.lenEq
  have hl : (ks.length : Int) ≤ 9223372036854775807 := by omega
  have first := Lib.hid (all_val ks _ lo hi w hr)
  by_cases c0 : ks.length = 1
  · have ci : ((ks.length : Int) == 1) = true := by rw [beq_iff_eq]; omega
    have HF := Lib.hid (show kFit 14 ks = ks.all isVal by show (decide (ks.length = 1) && _) = _; rw [decide_eq_true c0, Bool.true_and])
    clear c0
    go_enter Tryz.func86, Tryz.ntmps86
    go_wp2_with fail
    refine first.out.mono ?_
    rintro e w' ⟨rfl, rfl⟩
    go_wp2
    go_ret
    exact ⟨ret_bool HF.out.symm, rfl⟩
  · have ci : ((ks.length : Int) == 1) = false := by exact eqf (by omega)
    have HF := Lib.hid (show kFit 14 ks = false by show (decide (ks.length = 1) && _) = _; rw [decide_eq_false c0, Bool.false_and])
    clear c0
    go_enter Tryz.func86, Tryz.ntmps86
    go_wp2_with fail
    refine first.out.mono ?_
    rintro e w' ⟨rfl, rfl⟩
    go_wp2
    go_ret
    exact ⟨ret_bool HF.out.symm, rfl⟩
set_option maxHeartbeats 2000000 in
set_option maxRecDepth 100000 in
theorem kf_12 (ks : List Int) (v : Value) (lo hi : Nat) (w : World) (hr : Rd intS lo hi w v ks) :
    Calls Tryz.prog 86 #[.int .i64 12, v] w fun e w' => e = .returned (.bool (kFit 12 ks)) ∧ w = w' := by
  obtain ⟨a, c, rfl⟩ := hr.sl
  obtain ⟨_, h2, h3⟩ := hr.lenEq
  have hl : (ks.length : Int) ≤ 9223372036854775807 := by omega
  have first := Lib.hid (all_val ks _ lo hi w hr)
  by_cases c0 : ks.length ≤ 1
  · have ci : (ks.length : Int) ≤ 1 := by omega
    have HF := Lib.hid (show kFit 12 ks = ks.all isVal by show (decide (ks.length ≤ 1) && _) = _; rw [decide_eq_true c0, Bool.true_and])
    clear c0
    go_enter Tryz.func86, Tryz.ntmps86
    go_wp2_with fail
    refine first.out.mono ?_
    rintro e w' ⟨rfl, rfl⟩
    go_wp2
    go_ret
    exact ⟨ret_bool HF.out.symm, rfl⟩
  · have ci : ¬ (ks.length : Int) ≤ 1 := by omega
    have HF := Lib.hid (show kFit 12 ks = false by show (decide (ks.length ≤ 1) && _) = _; rw [decide_eq_false c0, Bool.false_and])
    clear c0
    go_enter Tryz.func86, Tryz.ntmps86
    go_wp2_with fail
    refine first.out.mono ?_
    rintro e w' ⟨rfl, rfl⟩
    go_wp2
    go_ret
    exact ⟨ret_bool HF.out.symm, rfl⟩
set_option maxHeartbeats 2000000 in
set_option maxRecDepth 100000 in
theorem kf_15 (ks : List Int) (v : Value) (lo hi : Nat) (w : World) (hr : Rd intS lo hi w v ks) :
    Calls Tryz.prog 86 #[.int .i64 15, v] w fun e w' => e = .returned (.bool (kFit 15 ks)) ∧ w = w' := by
  obtain ⟨a, c, rfl⟩ := hr.sl
  obtain ⟨_, h2, h3⟩ := hr.lenEq
  have hl : (ks.length : Int) ≤ 9223372036854775807 := by omega
  have first := Lib.hid (all_val ks _ lo hi w hr)
  by_cases c0 : ks.length ≤ 1
  · have ci : (ks.length : Int) ≤ 1 := by omega
    have HF := Lib.hid (show kFit 15 ks = ks.all isVal by show (decide (ks.length ≤ 1) && _) = _; rw [decide_eq_true c0, Bool.true_and])
    clear c0
    go_enter Tryz.func86, Tryz.ntmps86
    go_wp2_with fail
    refine first.out.mono ?_
    rintro e w' ⟨rfl, rfl⟩
    go_wp2
    go_ret
    exact ⟨ret_bool HF.out.symm, rfl⟩
  · have ci : ¬ (ks.length : Int) ≤ 1 := by omega
    have HF := Lib.hid (show kFit 15 ks = false by show (decide (ks.length ≤ 1) && _) = _; rw [decide_eq_false c0, Bool.false_and])
    clear c0
    go_enter Tryz.func86, Tryz.ntmps86
    go_wp2_with fail
    refine first.out.mono ?_
    rintro e w' ⟨rfl, rfl⟩
    go_wp2
    go_ret
    exact ⟨ret_bool HF.out.symm, rfl⟩
set_option maxHeartbeats 2000000 in
set_option maxRecDepth 100000 in
theorem kf_9 (ks : List Int) (v : Value) (lo hi : Nat) (w : World) (hr : Rd intS lo hi w v ks) :
    Calls Tryz.prog 86 #[.int .i64 9, v] w fun e w' => e = .returned (.bool (kFit 9 ks)) ∧ w = w' := by
  obtain ⟨a, c, rfl⟩ := hr.sl
  obtain ⟨_, h2, h3⟩ := hr.lenEq
  have hl : (ks.length : Int) ≤ 9223372036854775807 := by omega
  have first := Lib.hid (all_val ks _ lo hi w hr)
  go_enter Tryz.func86, Tryz.ntmps86
  go_wp2_with fail
  refine first.out.mono ?_
  rintro e w' ⟨rfl, rfl⟩
  go_wp2_with fail
  refine (lastIs_any _ isVal enter_val isValue_any ks _ lo hi _ hr).mono ?_
  rintro e w' ⟨rfl, rfl⟩
  go_wp2
  go_ret
  exact ⟨rfl, rfl⟩
set_option maxHeartbeats 2000000 in
set_option maxRecDepth 100000 in
theorem kf_20 (ks : List Int) (v : Value) (lo hi : Nat) (w : World) (hr : Rd intS lo hi w v ks) :
    Calls Tryz.prog 86 #[.int .i64 20, v] w fun e w' => e = .returned (.bool (kFit 20 ks)) ∧ w = w' := by
  obtain ⟨a, c, rfl⟩ := hr.sl
  obtain ⟨_, h2, h3⟩ := hr.lenEq
  have hl : (ks.length : Int) ≤ 9223372036854775807 := by omega
  have first := Lib.hid (all_val ks _ lo hi w hr)
  go_enter Tryz.func86, Tryz.ntmps86
  go_wp2_with fail
  refine first.out.mono ?_
  rintro e w' ⟨rfl, rfl⟩
  go_wp2_with fail
  refine (lastIs_any _ (fun n => n == 18) enter_block isBlock_any ks _ lo hi _ hr).mono ?_
  rintro e w' ⟨rfl, rfl⟩
  go_wp2
  go_ret
  exact ⟨rfl, rfl⟩
set_option maxHeartbeats 2000000 in
set_option maxRecDepth 100000 in
theorem kf_18 (ks : List Int) (v : Value) (lo hi : Nat) (w : World) (hr : Rd intS lo hi w v ks) :
    Calls Tryz.prog 86 #[.int .i64 18, v] w fun e w' => e = .returned (.bool (kFit 18 ks)) ∧ w = w' := by
  obtain ⟨a, c, rfl⟩ := hr.sl
  obtain ⟨_, h2, h3⟩ := hr.lenEq
  have hl : (ks.length : Int) ≤ 9223372036854775807 := by omega
  have first := Lib.hid (all_val ks _ lo hi w hr)
  go_enter Tryz.func86, Tryz.ntmps86
  go_wp2_with fail
  refine first.out.mono ?_
  rintro e w' ⟨rfl, rfl⟩
  go_wp2_with fail
  refine (all_step ks _ lo hi _ hr).mono ?_
  rintro e w' ⟨rfl, rfl⟩
  go_wp2
  go_ret
  exact ⟨rfl, rfl⟩
set_option maxHeartbeats 2000000 in
set_option maxRecDepth 100000 in
theorem kf_21 (ks : List Int) (v : Value) (lo hi : Nat) (w : World) (hr : Rd intS lo hi w v ks) :
    Calls Tryz.prog 86 #[.int .i64 21, v] w fun e w' => e = .returned (.bool (kFit 21 ks)) ∧ w = w' := by
  obtain ⟨a, c, rfl⟩ := hr.sl
  obtain ⟨_, h2, h3⟩ := hr.lenEq
  have hl : (ks.length : Int) ≤ 9223372036854775807 := by omega
  have first := Lib.hid (all_val ks _ lo hi w hr)
  go_enter Tryz.func86, Tryz.ntmps86
  go_wp2_with fail
  refine first.out.mono ?_
  rintro e w' ⟨rfl, rfl⟩
  go_wp2_with fail
  refine (all_mem ks _ lo hi _ hr).mono ?_
  rintro e w' ⟨rfl, rfl⟩
  go_wp2
  go_ret
  exact ⟨rfl, rfl⟩
set_option maxHeartbeats 2000000 in
set_option maxRecDepth 100000 in
theorem kf_22 (ks : List Int) (v : Value) (lo hi : Nat) (w : World) (hr : Rd intS lo hi w v ks) :
    Calls Tryz.prog 86 #[.int .i64 22, v] w fun e w' => e = .returned (.bool (kFit 22 ks)) ∧ w = w' := by
  obtain ⟨a, c, rfl⟩ := hr.sl
  obtain ⟨_, h2, h3⟩ := hr.lenEq
  have hl : (ks.length : Int) ≤ 9223372036854775807 := by omega
  have first := Lib.hid (all_val ks _ lo hi w hr)
  go_enter Tryz.func86, Tryz.ntmps86
  go_wp2_with fail
  refine first.out.mono ?_
  rintro e w' ⟨rfl, rfl⟩
  go_wp2_with fail
  refine (all_file ks _ lo hi _ hr).mono ?_
  rintro e w' ⟨rfl, rfl⟩
  go_wp2
  go_ret
  exact ⟨rfl, rfl⟩
set_option maxHeartbeats 2000000 in
set_option maxRecDepth 100000 in
theorem kf_10 (ks : List Int) (v : Value) (lo hi : Nat) (w : World) (hr : Rd intS lo hi w v ks) :
    Calls Tryz.prog 86 #[.int .i64 10, v] w fun e w' => e = .returned (.bool (kFit 10 ks)) ∧ w = w' := by
  obtain ⟨a, c, rfl⟩ := hr.sl
  obtain ⟨_, h2, h3⟩ := hr.lenEq
  have hl : (ks.length : Int) ≤ 9223372036854775807 := by omega
  have first := Lib.hid (all_val ks _ lo hi w hr)
  have HK := Lib.hid (show kFit 10 ks = (decide (2 ≤ ks.length) && isVal (ks.getD 0 0) && (ks.drop 1).all (fun n => n == 5)) from rfl)
  by_cases c0 : 2 ≤ ks.length
  · obtain ⟨b, off, rfl, _, _, d0⟩ := hr.intAt (k := 0) (by omega)
    rw [Nat.add_zero] at d0
    have HR := Lib.hid hr.drop1
    have hlp : (0 : Int) < (ks.length : Int) := by omega
    have hlp1 : (1 : Int) ≤ (ks.length : Int) := by omega
    have hc1 : (1 : Int) ≤ (c : Int) := by omega
    have ci : (2 : Int) ≤ (ks.length : Int) := by omega
    have HL := Lib.hid (show kFit 10 ks = (isVal (ks.getD 0 0) && (ks.drop 1).all (fun n => n == 5)) by rw [HK.out, decide_eq_true c0, Bool.true_and])
    generalize ks.getD 0 0 = x at *
    clear c0 HK
    go_enter Tryz.func86, Tryz.ntmps86
    go_wp2_with fail
    refine first.out.mono ?_
    rintro e w' ⟨rfl, rfl⟩
    go_wp2_with fail
    refine (isValue_any _ _).mono ?_
    rintro e w' ⟨rfl, rfl⟩
    cases g : isVal x with
    | false =>
      have HF := Lib.hid (show kFit 10 ks = false by rw [HL.out, g]; rfl)
      go_wp2
      go_ret
      exact ⟨ret_bool HF.out.symm, rfl⟩
    | true =>
      have HF := Lib.hid (HL.out.trans (by rw [g, Bool.true_and]))
      go_wp2_with fail
      refine (all_call _ _ lo hi _ HR.out).mono ?_
      rintro e w' ⟨rfl, rfl⟩
      go_wp2
      go_ret
      exact ⟨ret_bool (by rw [HF.out]; simp), rfl⟩
  · have ci : ¬ (2 : Int) ≤ (ks.length : Int) := by omega
    have HF := Lib.hid (show kFit 10 ks = false by rw [HK.out, decide_eq_false c0, Bool.false_and, Bool.false_and])
    clear c0 HK
    go_enter Tryz.func86, Tryz.ntmps86
    go_wp2_with fail
    refine first.out.mono ?_
    rintro e w' ⟨rfl, rfl⟩
    go_wp2
    go_ret
    exact ⟨ret_bool HF.out.symm, rfl⟩
set_option maxHeartbeats 2000000 in
set_option maxRecDepth 100000 in
theorem kf_16 (ks : List Int) (v : Value) (lo hi : Nat) (w : World) (hr : Rd intS lo hi w v ks) :
    Calls Tryz.prog 86 #[.int .i64 16, v] w fun e w' => e = .returned (.bool (kFit 16 ks)) ∧ w = w' := by
  obtain ⟨a, c, rfl⟩ := hr.sl
  obtain ⟨_, h2, h3⟩ := hr.lenEq
  have hl : (ks.length : Int) ≤ 9223372036854775807 := by omega
  have first := Lib.hid (all_val ks _ lo hi w hr)
  have HK := Lib.hid (show kFit 16 ks = ((decide (2 ≤ ks.length) && decide (ks.length ≤ 3)) && isVal (ks.getD 0 0) && (ks.drop 1).all (fun n => n == 18)) from rfl)
  by_cases c0 : 2 ≤ ks.length ∧ ks.length ≤ 3
  · obtain ⟨b, off, rfl, _, _, d0⟩ := hr.intAt (k := 0) (by omega)
    rw [Nat.add_zero] at d0
    have HR := Lib.hid hr.drop1
    have hlp : (0 : Int) < (ks.length : Int) := by omega
    have hlp1 : (1 : Int) ≤ (ks.length : Int) := by omega
    have hc1 : (1 : Int) ≤ (c : Int) := by omega
    have ci : (2 : Int) ≤ (ks.length : Int) := by omega
    have cj : (ks.length : Int) ≤ 3 := by omega
    have HRY := Lib.hid (inRange_yes ks.length 2 3 w ci cj)
    have HL := Lib.hid (show kFit 16 ks = (isVal (ks.getD 0 0) && (ks.drop 1).all (fun n => n == 18)) by rw [HK.out, decide_eq_true c0.1, decide_eq_true c0.2, Bool.and_self, Bool.true_and])
    generalize ks.getD 0 0 = x at *
    clear c0 HK
    go_enter Tryz.func86, Tryz.ntmps86
    go_wp2_with fail
    refine first.out.mono ?_
    rintro e w' ⟨rfl, rfl⟩
    go_wp2_with fail
    refine HRY.out.mono ?_
    rintro e w' ⟨rfl, rfl⟩
    go_wp2_with fail
    refine (isValue_any _ _).mono ?_
    rintro e w' ⟨rfl, rfl⟩
    cases g : isVal x with
    | false =>
      have HF := Lib.hid (show kFit 16 ks = false by rw [HL.out, g]; rfl)
      go_wp2
      go_ret
      exact ⟨ret_bool HF.out.symm, rfl⟩
    | true =>
      have HF := Lib.hid (HL.out.trans (by rw [g, Bool.true_and]))
      go_wp2_with fail
      refine (all_block _ _ lo hi _ HR.out).mono ?_
      rintro e w' ⟨rfl, rfl⟩
      go_wp2
      go_ret
      exact ⟨ret_bool (by rw [HF.out]; simp), rfl⟩
  · have HRY := Lib.hid (inRange_no ks.length 2 3 w (by omega))
    have HF := Lib.hid (show kFit 16 ks = false by rw [HK.out, show (decide (2 ≤ ks.length) && decide (ks.length ≤ 3)) = false by (rw [Bool.eq_false_iff]; intro h; rw [Bool.and_eq_true, decide_eq_true_iff, decide_eq_true_iff] at h; exact c0 h), Bool.false_and, Bool.false_and])
    clear c0 HK
    go_enter Tryz.func86, Tryz.ntmps86
    go_wp2_with fail
    refine first.out.mono ?_
    rintro e w' ⟨rfl, rfl⟩
    go_wp2_with fail
    refine HRY.out.mono ?_
    rintro e w' ⟨rfl, rfl⟩
    go_wp2
    go_ret
    exact ⟨ret_bool HF.out.symm, rfl⟩
set_option maxHeartbeats 2000000 in
set_option maxRecDepth 100000 in
theorem kf_17 (ks : List Int) (v : Value) (lo hi : Nat) (w : World) (hr : Rd intS lo hi w v ks) :
    Calls Tryz.prog 86 #[.int .i64 17, v] w fun e w' => e = .returned (.bool (kFit 17 ks)) ∧ w = w' := by
  obtain ⟨a, c, rfl⟩ := hr.sl
  obtain ⟨_, h2, h3⟩ := hr.lenEq
  have hl : (ks.length : Int) ≤ 9223372036854775807 := by omega
  have first := Lib.hid (all_val ks _ lo hi w hr)
  have HK := Lib.hid (show kFit 17 ks = (decide (ks.length = 2) && isVal (ks.getD 0 0) && (ks.getD 1 0 == 18)) from rfl)
  by_cases c0 : ks.length = 2
  · obtain ⟨b, off, rfl, _, _, d0⟩ := hr.intAt (k := 0) (by omega)
    rw [Nat.add_zero] at d0
    obtain ⟨b2, off2, e2, _, _, d1⟩ := hr.intAt (k := 1) (by omega)
    injection e2 with e2
    injection e2 with e3 e4
    subst e3; subst e4
    have hlp : (0 : Int) < (ks.length : Int) := by omega
    have hlp2 : (1 : Int) < (ks.length : Int) := by omega
    have hlp1 : (1 : Int) ≤ (ks.length : Int) := by omega
    have hc1 : (1 : Int) ≤ (c : Int) := by omega
    have ci : ((ks.length : Int) == 2) = true := by rw [beq_iff_eq]; omega
    have HL := Lib.hid (show kFit 17 ks = (isVal (ks.getD 0 0) && (ks.getD 1 0 == 18)) by rw [HK.out, decide_eq_true c0, Bool.true_and])
    generalize ks.getD 0 0 = x at *
    clear c0 HK
    go_enter Tryz.func86, Tryz.ntmps86
    go_wp2_with fail
    refine first.out.mono ?_
    rintro e w' ⟨rfl, rfl⟩
    go_wp2_with fail
    refine (isValue_any _ _).mono ?_
    rintro e w' ⟨rfl, rfl⟩
    cases g : isVal x with
    | false =>
      have HF := Lib.hid (show kFit 17 ks = false by rw [HL.out, g]; rfl)
      go_wp2
      go_ret
      exact ⟨ret_bool HF.out.symm, rfl⟩
    | true =>
      have HF := Lib.hid (HL.out.trans (by rw [g, Bool.true_and]))
      go_wp2_with fail
      refine (isBlock_any _ _).mono ?_
      rintro e w' ⟨rfl, rfl⟩
      go_wp2
      go_ret
      exact ⟨ret_bool HF.out.symm, rfl⟩
  · have ci : ((ks.length : Int) == 2) = false := by exact eqf (by omega)
    have HF := Lib.hid (show kFit 17 ks = false by rw [HK.out, decide_eq_false c0, Bool.false_and, Bool.false_and])
    clear c0 HK
    go_enter Tryz.func86, Tryz.ntmps86
    go_wp2_with fail
    refine first.out.mono ?_
    rintro e w' ⟨rfl, rfl⟩
    go_wp2
    go_ret
    exact ⟨ret_bool HF.out.symm, rfl⟩
set_option maxHeartbeats 2000000 in
set_option maxRecDepth 100000 in
theorem kf_other (kind : Int) (hk : ¬ (1 ≤ kind ∧ kind ≤ 22)) (ks : List Int) (v : Value) (lo hi : Nat) (w : World) (hr : Rd intS lo hi w v ks) :
    Calls Tryz.prog 86 #[.int .i64 kind, v] w fun e w' => e = .returned (.bool (kFit kind ks)) ∧ w = w' := by
  obtain ⟨a, c, rfl⟩ := hr.sl
  obtain ⟨_, h2, h3⟩ := hr.lenEq
  have hl : (ks.length : Int) ≤ 9223372036854775807 := by omega
  have first := Lib.hid (all_val ks _ lo hi w hr)
  have m1 := eqf (a := kind) (b := 1) (by omega)
  have m2 := eqf (a := kind) (b := 2) (by omega)
  have m3 := eqf (a := kind) (b := 3) (by omega)
  have m4 := eqf (a := kind) (b := 4) (by omega)
  have m5 := eqf (a := kind) (b := 5) (by omega)
  have m6 := eqf (a := kind) (b := 6) (by omega)
  have m7 := eqf (a := kind) (b := 7) (by omega)
  have m8 := eqf (a := kind) (b := 8) (by omega)
  have m9 := eqf (a := kind) (b := 9) (by omega)
  have m10 := eqf (a := kind) (b := 10) (by omega)
  have m11 := eqf (a := kind) (b := 11) (by omega)
  have m12 := eqf (a := kind) (b := 12) (by omega)
  have m13 := eqf (a := kind) (b := 13) (by omega)
  have m14 := eqf (a := kind) (b := 14) (by omega)
  have m15 := eqf (a := kind) (b := 15) (by omega)
  have m16 := eqf (a := kind) (b := 16) (by omega)
  have m17 := eqf (a := kind) (b := 17) (by omega)
  have m18 := eqf (a := kind) (b := 18) (by omega)
  have m19 := eqf (a := kind) (b := 19) (by omega)
  have m20 := eqf (a := kind) (b := 20) (by omega)
  have m21 := eqf (a := kind) (b := 21) (by omega)
  have m22 := eqf (a := kind) (b := 22) (by omega)
  have HF : Hid (kFit kind ks = false) := by
    show kFit kind ks = false
    unfold kFit
    rw [if_neg (by omega), if_neg (by omega), if_neg (by omega), if_neg (by omega), if_neg (by omega), if_neg (by omega), if_neg (by omega), if_neg (by omega), if_neg (by omega), if_neg (by omega), if_neg (by omega), if_neg (by omega), if_neg (by omega), if_neg (by omega), if_neg (by omega)]
  go_enter Tryz.func86, Tryz.ntmps86
  go_wp2_with fail
  refine first.out.mono ?_
  rintro e w' ⟨rfl, rfl⟩
  go_wp2
  go_ret
  exact ⟨ret_bool HF.out.symm, rfl⟩
theorem kindsFit_any (kind : Int) (ks : List Int) (v : Value) (lo hi : Nat) (w : World) (hr : Rd intS lo hi w v ks) :
    Calls Tryz.prog 86 #[.int .i64 kind, v] w fun e w' => e = .returned (.bool (kFit kind ks)) ∧ w = w' := by
  rcases kind_cases kind with rfl | rfl | rfl | rfl | rfl | rfl | rfl | rfl | rfl | rfl | rfl | rfl | rfl | rfl | rfl | rfl | rfl | rfl | rfl | rfl | rfl | rfl | h
  · exact kf_1 ks v lo hi w hr
  · exact kf_2 ks v lo hi w hr
  · exact kf_3 ks v lo hi w hr
  · exact kf_4 ks v lo hi w hr
  · exact kf_5 ks v lo hi w hr
  · exact kf_6 ks v lo hi w hr
  · exact kf_7 ks v lo hi w hr
  · exact kf_8 ks v lo hi w hr
  · exact kf_9 ks v lo hi w hr
  · exact kf_10 ks v lo hi w hr
  · exact kf_11 ks v lo hi w hr
  · exact kf_12 ks v lo hi w hr
  · exact kf_13 ks v lo hi w hr
  · exact kf_14 ks v lo hi w hr
  · exact kf_15 ks v lo hi w hr
  · exact kf_16 ks v lo hi w hr
  · exact kf_17 ks v lo hi w hr
  · exact kf_18 ks v lo hi w hr
  · exact kf_19 ks v lo hi w hr
  · exact kf_20 ks v lo hi w hr
  · exact kf_21 ks v lo hi w hr
  · exact kf_22 ks v lo hi w hr
  · exact kf_other kind h ks v lo hi w hr
end Go.Proofs.YtoloplpmjcgbdaaGreatDoor
