/- What the program asks of one kind, of one text. -/
import Derived.Test.YtjaginciejljkaaDoorNodeW
import Derived.Test.YtjaginciejljkaaDoorSignI3
import Derived.Test.YtjaginciejljkaaDoorRange
namespace Go.Proofs.YtjaginciejljkaaDoor
open Go.RowKit

theorem inRange_b (n a b : Int) (w : World) : Calls Tryd.prog 42 #[.int .i64 n, .int .i64 a, .int .i64 b] w fun e w' => e = .returned (.bool (decide (a ≤ n) && decide (n ≤ b))) ∧ w = w' := by
  by_cases h : a ≤ n ∧ n ≤ b
  · rw [decide_eq_true h.1, decide_eq_true h.2]; exact inRange_yes n a b w h.1 h.2
  · rw [show (decide (a ≤ n) && decide (n ≤ b)) = false by
      rw [Bool.eq_false_iff]; intro c; rw [Bool.and_eq_true, decide_eq_true_iff, decide_eq_true_iff] at c; exact h c]
    exact inRange_no n a b w h
set_option maxHeartbeats 1000000 in
set_option maxRecDepth 100000 in
theorem isSign_any (s : ByteArray) (q : Int) (w : World) (hs : s.size ≤ 4611686018427387904) :
    Calls Tryd.prog 41 #[.string s, .int .i64 q] w fun e w' => e = .returned (.bool (isSg s q)) ∧ Below w.heap.size w w' := by
  by_cases h0 : 0 < s.size
  · have hne := emp_no (s := s) (fun e => by subst e; exact absurd h0 (by decide))
    go_enter Tryd.func41, Tryd.ntmps41
    go_wp2_with fail
    refine (signAt_head s w hs h0).mono ?_
    rintro e w' ⟨⟨k, x, n, ok, rfl, hx⟩, hb⟩
    cases ok with
    | false =>
      have HF := Lib.hid (show isSg s q = false from isSg_no (fun c => by rw [isSg_iff, hx] at c; cases c))
      clear hx
      go_wp2
      go_ret
      exact ⟨ret_bool HF.out.symm, hb⟩
    | true =>
      obtain ⟨d1, e1⟩ : ∃ d, (k == q) = d := ⟨_, rfl⟩
      obtain ⟨d2, e2⟩ : ∃ d, (x.toList == s.toList) = d := ⟨_, rfl⟩
      obtain ⟨d3, e3⟩ : ∃ d, ((n : Int) == (s.size : Int)) = d := ⟨_, rfl⟩
      have HF : Hid (isSg s q = (d1 && d2 && d3)) := by
        show isSg s q = _
        rw [← e1, ← e2, ← e3, Bool.eq_iff_iff, isSg_iff, hx, Bool.and_eq_true, Bool.and_eq_true, beq_iff_eq, str_eq, beq_iff_eq]
        constructor
        · intro h
          injection h with h
          injection h with h1 h2
          injection h2 with h2 h3
          exact ⟨⟨h1, h2⟩, by omega⟩
        · rintro ⟨⟨h1, h2⟩, h3⟩
          have : n = s.size := by omega
          rw [h1, h2, this]; rfl
      clear hx
      cases d1 <;> cases d2 <;> (go_wp2; go_ret; exact ⟨ret_bool (by rw [HF.out]; simp), hb⟩)
  · obtain rfl : s = ⟨#[]⟩ := ba_ext (by
      have : s.data.toList.length = 0 := by rw [lsize]; omega
      rw [List.eq_nil_of_length_eq_zero this])
    have HF := Lib.hid (show isSg ⟨#[]⟩ q = false from isSg_no (fun c => absurd (sgn_pos (isSg_iff.1 c)).1 (by decide)))
    go_enter Tryd.func41, Tryd.ntmps41
    go_wp2
    go_ret
    exact ⟨ret_bool HF.out.symm, Below.refl _ _⟩
end Go.Proofs.YtjaginciejljkaaDoor
