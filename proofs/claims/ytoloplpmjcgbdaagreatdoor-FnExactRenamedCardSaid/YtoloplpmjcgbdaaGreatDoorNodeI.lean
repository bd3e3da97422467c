/- What the program asks of one kind, of one text. -/
import Derived.Test.YtoloplpmjcgbdaaGreatDoorNodeW
import Derived.Test.YtoloplpmjcgbdaaGreatDoorSignI3
import Derived.Test.YtoloplpmjcgbdaaGreatDoorRange
namespace Go.Proofs.YtoloplpmjcgbdaaGreatDoor
open Go.RowKit

theorem inRange_b (n a b : Int) (w : World) : Calls Tryz.prog 68 #[.int .i64 n, .int .i64 a, .int .i64 b] w fun e w' => e = .returned (.bool (decide (a ≤ n) && decide (n ≤ b))) ∧ w = w' := by
  by_cases h : a ≤ n ∧ n ≤ b
  · rw [decide_eq_true h.1, decide_eq_true h.2]; exact inRange_yes n a b w h.1 h.2
  · rw [show (decide (a ≤ n) && decide (n ≤ b)) = false by
      rw [Bool.eq_false_iff]; intro c; rw [Bool.and_eq_true, decide_eq_true_iff, decide_eq_true_iff] at c; exact h c]
    exact inRange_no n a b w h
set_option maxHeartbeats 400000 in
theorem isValue_any (n : Int) (w : World) : Calls Tryz.prog 50 #[.int .i64 n] w fun e w' => e = .returned (.bool (isVal n)) ∧ w = w' := by
  go_enter Tryz.func50, Tryz.ntmps50
  go_wp2_with fail
  refine (inRange_b n 1 11 _).mono ?_
  rintro e w' ⟨rfl, rfl⟩
  go_wp2
  go_ret
  exact ⟨rfl, rfl⟩
set_option maxHeartbeats 400000 in
theorem isStep_any (n : Int) (w : World) : Calls Tryz.prog 84 #[.int .i64 n] w fun e w' => e = .returned (.bool (isStp n)) ∧ w = w' := by
  go_enter Tryz.func84, Tryz.ntmps84
  go_wp2_with fail
  refine (inRange_b n 12 17 _).mono ?_
  rintro e w' ⟨rfl, rfl⟩
  go_wp2
  go_ret
  exact ⟨rfl, rfl⟩
set_option maxHeartbeats 400000 in
theorem isMember_any (n : Int) (w : World) : Calls Tryz.prog 85 #[.int .i64 n] w fun e w' => e = .returned (.bool (isMem n)) ∧ w = w' := by
  obtain ⟨d1, e1⟩ : ∃ d, (n == 12) = d := ⟨_, rfl⟩
  obtain ⟨d2, e2⟩ : ∃ d, (n == 20) = d := ⟨_, rfl⟩
  obtain ⟨d3, e3⟩ : ∃ d, (n == 19) = d := ⟨_, rfl⟩
  have HF := Lib.hid (show isMem n = (d1 || d2 || d3) by rw [isMem, e1, e2, e3])
  cases d1 <;> cases d2 <;>
    (go_enter Tryz.func85, Tryz.ntmps85; go_wp2; go_ret; exact ⟨ret_bool (by rw [HF.out]; simp), rfl⟩)
set_option maxHeartbeats 400000 in
theorem isBlock_any (n : Int) (w : World) : Calls Tryz.prog 119 #[.int .i64 n] w fun e w' => e = .returned (.bool (n == 18)) ∧ w = w' := by
  go_enter Tryz.func119, Tryz.ntmps119
  go_wp2
  go_ret
  exact ⟨rfl, rfl⟩
set_option maxHeartbeats 400000 in
theorem lastIs1_any (n : Int) (w : World) : Calls Tryz.prog 138 #[.int .i64 n] w fun e w' => e = .returned (.bool (n == 1)) ∧ w = w' := by
  go_enter Tryz.func138, Tryz.ntmps138
  go_wp2
  go_ret
  exact ⟨rfl, rfl⟩
set_option maxHeartbeats 400000 in
theorem kinds1_any (n : Int) (w : World) : Calls Tryz.prog 118 #[.int .i64 n] w fun e w' => e = .returned (.bool (n == 5)) ∧ w = w' := by
  go_enter Tryz.func118, Tryz.ntmps118
  go_wp2
  go_ret
  exact ⟨rfl, rfl⟩
set_option maxHeartbeats 400000 in
theorem kinds2_any (n : Int) (w : World) : Calls Tryz.prog 120 #[.int .i64 n] w fun e w' => e = .returned (.bool (isStp n || (n == 19))) ∧ w = w' := by
  obtain ⟨d2, e2⟩ : ∃ d, (n == 19) = d := ⟨_, rfl⟩
  rw [e2]
  go_enter Tryz.func120, Tryz.ntmps120
  go_wp2_with fail
  refine (isStep_any n _).mono ?_
  rintro e w' ⟨rfl, rfl⟩
  cases g : isStp n <;> (go_wp2; go_ret; exact ⟨ret_bool (by rw [g]; simp), rfl⟩)
set_option maxHeartbeats 400000 in
theorem kinds3_any (n : Int) (w : World) : Calls Tryz.prog 121 #[.int .i64 n] w fun e w' => e = .returned (.bool (isMem n || (n == 21))) ∧ w = w' := by
  obtain ⟨d2, e2⟩ : ∃ d, (n == 21) = d := ⟨_, rfl⟩
  rw [e2]
  go_enter Tryz.func121, Tryz.ntmps121
  go_wp2_with fail
  refine (isMember_any n _).mono ?_
  rintro e w' ⟨rfl, rfl⟩
  cases g : isMem n <;> (go_wp2; go_ret; exact ⟨ret_bool (by rw [g]; simp), rfl⟩)
set_option maxHeartbeats 1000000 in
set_option maxRecDepth 100000 in
theorem isSign_any (s : ByteArray) (q : Int) (w : World) (hs : s.size ≤ 4611686018427387904) :
    Calls Tryz.prog 63 #[.string s, .int .i64 q] w fun e w' => e = .returned (.bool (isSg s q)) ∧ Below w.heap.size w w' := by
  by_cases h0 : 0 < s.size
  · have hne := emp_no (s := s) (fun e => by subst e; exact absurd h0 (by decide))
    go_enter Tryz.func63, Tryz.ntmps63
    go_wp2_with fail
    refine (signAt_head s w hs h0).mono ?_
    rintro e w' ⟨⟨k, x, n, ok, rfl, hx⟩, hb⟩
    cases ok with
    | false =>
      have HF := Lib.hid (show isSg s q = false from isSg_no (fun c => by rw [isSg_iff, hx] at c; cases c))
      clear hx
      go_wp2
      go_ret
      exact ⟨ret_bool HF.out.symm, hb⟩
    | true =>
      obtain ⟨d1, e1⟩ : ∃ d, (k == q) = d := ⟨_, rfl⟩
      obtain ⟨d2, e2⟩ : ∃ d, (x.toList == s.toList) = d := ⟨_, rfl⟩
      obtain ⟨d3, e3⟩ : ∃ d, ((n : Int) == (s.size : Int)) = d := ⟨_, rfl⟩
      have HF : Hid (isSg s q = (d1 && d2 && d3)) := by
        show isSg s q = _
        rw [← e1, ← e2, ← e3, Bool.eq_iff_iff, isSg_iff, hx, Bool.and_eq_true, Bool.and_eq_true, beq_iff_eq, str_eq, beq_iff_eq]
        constructor
        · intro h
          injection h with h
          injection h with h1 h2
          injection h2 with h2 h3
          exact ⟨⟨h1, h2⟩, by omega⟩
        · rintro ⟨⟨h1, h2⟩, h3⟩
          have : n = s.size := by omega
          rw [h1, h2, this]; rfl
      clear hx
      cases d1 <;> cases d2 <;> (go_wp2; go_ret; exact ⟨ret_bool (by rw [HF.out]; simp), hb⟩)
  · obtain rfl : s = ⟨#[]⟩ := ba_ext (by
      have : s.data.toList.length = 0 := by rw [lsize]; omega
      rw [List.eq_nil_of_length_eq_zero this])
    have HF := Lib.hid (show isSg ⟨#[]⟩ q = false from isSg_no (fun c => absurd (sgn_pos (isSg_iff.1 c)).1 (by decide)))
    go_enter Tryz.func63, Tryz.ntmps63
    go_wp2
    go_ret
    exact ⟨ret_bool HF.out.symm, Below.refl _ _⟩
set_option maxHeartbeats 1000000 in
set_option maxRecDepth 100000 in
theorem isName_any (s : ByteArray) (w : World) (hs : s.size ≤ 4611686018427387904) :
    Calls Tryz.prog 33 #[.string s] w fun e w' => e = .returned (.bool (isNm s)) ∧ Below w.heap.size w w' := by
  go_enter Tryz.func33, Tryz.ntmps33
  go_wp2_with fail
  refine (isSign_any s 1 w hs).mono ?_
  rintro e w' ⟨rfl, hb⟩
  cases g : isSg s 1 with
  | false =>
    have HF := Lib.hid (show isNm s = false by rw [isNm, g]; rfl)
    go_wp2
    go_ret
    exact ⟨ret_bool HF.out.symm, hb⟩
  | true =>
    have HF := Lib.hid (show isNm s = !keyW s by rw [isNm, g]; rfl)
    go_wp2_with fail
    refine (keyWord_impl s _).mono ?_
    rintro e w1 ⟨rfl, rfl⟩
    go_wp2
    go_ret
    exact ⟨ret_bool HF.out.symm, hb⟩
end Go.Proofs.YtoloplpmjcgbdaaGreatDoor
