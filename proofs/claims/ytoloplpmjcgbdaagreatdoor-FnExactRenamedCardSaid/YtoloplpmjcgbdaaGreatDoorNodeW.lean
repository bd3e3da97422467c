/- Key words and chain marks. By mk_nodei.py. -/
import Derived.Test.YtoloplpmjcgbdaaGreatDoorNodeP
namespace Go.Proofs.YtoloplpmjcgbdaaGreatDoor
open Go.RowKit

def chainW (s : ByteArray) : Bool := inMarks chainMs s
set_option maxHeartbeats 1000000 in
set_option maxRecDepth 100000 in
theorem keyWord_impl (x : ByteArray) (w : World) :
    Calls Tryz.prog 64 #[.string x] w fun e w' => e = .returned (.bool (keyW x)) ∧ w = w' := by
  obtain ⟨d0, e0⟩ : ∃ d, (x.toList == [99, 108, 97, 115, 115]) = d := ⟨_, rfl⟩
  obtain ⟨d1, e1⟩ : ∃ d, (x.toList == [118, 97, 114]) = d := ⟨_, rfl⟩
  obtain ⟨d2, e2⟩ : ∃ d, (x.toList == [105, 102]) = d := ⟨_, rfl⟩
  obtain ⟨d3, e3⟩ : ∃ d, (x.toList == [101, 108, 115, 101]) = d := ⟨_, rfl⟩
  obtain ⟨d4, e4⟩ : ∃ d, (x.toList == [119, 104, 105, 108, 101]) = d := ⟨_, rfl⟩
  obtain ⟨d5, e5⟩ : ∃ d, (x.toList == [114, 101, 116, 117, 114, 110]) = d := ⟨_, rfl⟩
  have HF := Lib.hid (show keyW x = (d0 || (d1 || (d2 || (d3 || (d4 || (d5 || false)))))) by rw [← e0, ← e1, ← e2, ← e3, ← e4, ← e5]; simp only [keyW, inMarks, keyWs, List.any_cons, List.any_nil, Lib.toList_data])
  cases d0 with
  | true =>
    have HY := Lib.hid (show keyW x = true by rw [HF.out]; simp)
    go_enter Tryz.func64, Tryz.ntmps64
    go_wp2
    go_ret
    exact ⟨ret_bool HY.out.symm, rfl⟩
  | false =>
  cases d1 with
  | true =>
    have HY := Lib.hid (show keyW x = true by rw [HF.out]; simp)
    go_enter Tryz.func64, Tryz.ntmps64
    go_wp2
    go_ret
    exact ⟨ret_bool HY.out.symm, rfl⟩
  | false =>
  cases d2 with
  | true =>
    have HY := Lib.hid (show keyW x = true by rw [HF.out]; simp)
    go_enter Tryz.func64, Tryz.ntmps64
    go_wp2
    go_ret
    exact ⟨ret_bool HY.out.symm, rfl⟩
  | false =>
  cases d3 with
  | true =>
    have HY := Lib.hid (show keyW x = true by rw [HF.out]; simp)
    go_enter Tryz.func64, Tryz.ntmps64
    go_wp2
    go_ret
    exact ⟨ret_bool HY.out.symm, rfl⟩
  | false =>
  cases d4 with
  | true =>
    have HY := Lib.hid (show keyW x = true by rw [HF.out]; simp)
    go_enter Tryz.func64, Tryz.ntmps64
    go_wp2
    go_ret
    exact ⟨ret_bool HY.out.symm, rfl⟩
  | false =>
  cases d5 with
  | true =>
    have HY := Lib.hid (show keyW x = true by rw [HF.out]; simp)
    go_enter Tryz.func64, Tryz.ntmps64
    go_wp2
    go_ret
    exact ⟨ret_bool HY.out.symm, rfl⟩
  | false =>
  have HY := Lib.hid (show keyW x = false by rw [HF.out]; simp)
  go_enter Tryz.func64, Tryz.ntmps64
  go_wp2
  go_ret
  exact ⟨ret_bool HY.out.symm, rfl⟩
set_option maxHeartbeats 1000000 in
set_option maxRecDepth 100000 in
theorem keyWord_spec (x : ByteArray) (w : World) :
    Calls Tryz.prog 56 #[.string x] w fun e w' => e = .returned (.bool (keyW x)) ∧ w = w' := by
  obtain ⟨d0, e0⟩ : ∃ d, (x.toList == [99, 108, 97, 115, 115]) = d := ⟨_, rfl⟩
  obtain ⟨d1, e1⟩ : ∃ d, (x.toList == [118, 97, 114]) = d := ⟨_, rfl⟩
  obtain ⟨d2, e2⟩ : ∃ d, (x.toList == [105, 102]) = d := ⟨_, rfl⟩
  obtain ⟨d3, e3⟩ : ∃ d, (x.toList == [101, 108, 115, 101]) = d := ⟨_, rfl⟩
  obtain ⟨d4, e4⟩ : ∃ d, (x.toList == [119, 104, 105, 108, 101]) = d := ⟨_, rfl⟩
  obtain ⟨d5, e5⟩ : ∃ d, (x.toList == [114, 101, 116, 117, 114, 110]) = d := ⟨_, rfl⟩
  have HF := Lib.hid (show keyW x = (d0 || (d1 || (d2 || (d3 || (d4 || (d5 || false)))))) by rw [← e0, ← e1, ← e2, ← e3, ← e4, ← e5]; simp only [keyW, inMarks, keyWs, List.any_cons, List.any_nil, Lib.toList_data])
  cases d0 with
  | true =>
    have HY := Lib.hid (show keyW x = true by rw [HF.out]; simp)
    go_enter Tryz.func56, Tryz.ntmps56
    go_wp2
    go_ret
    exact ⟨ret_bool HY.out.symm, rfl⟩
  | false =>
  cases d1 with
  | true =>
    have HY := Lib.hid (show keyW x = true by rw [HF.out]; simp)
    go_enter Tryz.func56, Tryz.ntmps56
    go_wp2
    go_ret
    exact ⟨ret_bool HY.out.symm, rfl⟩
  | false =>
  cases d2 with
  | true =>
    have HY := Lib.hid (show keyW x = true by rw [HF.out]; simp)
    go_enter Tryz.func56, Tryz.ntmps56
    go_wp2
    go_ret
    exact ⟨ret_bool HY.out.symm, rfl⟩
  | false =>
  cases d3 with
  | true =>
    have HY := Lib.hid (show keyW x = true by rw [HF.out]; simp)
    go_enter Tryz.func56, Tryz.ntmps56
    go_wp2
    go_ret
    exact ⟨ret_bool HY.out.symm, rfl⟩
  | false =>
  cases d4 with
  | true =>
    have HY := Lib.hid (show keyW x = true by rw [HF.out]; simp)
    go_enter Tryz.func56, Tryz.ntmps56
    go_wp2
    go_ret
    exact ⟨ret_bool HY.out.symm, rfl⟩
  | false =>
  cases d5 with
  | true =>
    have HY := Lib.hid (show keyW x = true by rw [HF.out]; simp)
    go_enter Tryz.func56, Tryz.ntmps56
    go_wp2
    go_ret
    exact ⟨ret_bool HY.out.symm, rfl⟩
  | false =>
  have HY := Lib.hid (show keyW x = false by rw [HF.out]; simp)
  go_enter Tryz.func56, Tryz.ntmps56
  go_wp2
  go_ret
  exact ⟨ret_bool HY.out.symm, rfl⟩
set_option maxHeartbeats 1000000 in
set_option maxRecDepth 100000 in
theorem l05Chain_any (x : ByteArray) (w : World) :
    Calls Tryz.prog 115 #[.string x] w fun e w' => e = .returned (.bool (chainW x)) ∧ w = w' := by
  obtain ⟨d0, e0⟩ : ∃ d, (x.toList == [38, 38]) = d := ⟨_, rfl⟩
  obtain ⟨d1, e1⟩ : ∃ d, (x.toList == [124, 124]) = d := ⟨_, rfl⟩
  obtain ⟨d2, e2⟩ : ∃ d, (x.toList == [61, 61]) = d := ⟨_, rfl⟩
  obtain ⟨d3, e3⟩ : ∃ d, (x.toList == [60]) = d := ⟨_, rfl⟩
  obtain ⟨d4, e4⟩ : ∃ d, (x.toList == [43]) = d := ⟨_, rfl⟩
  obtain ⟨d5, e5⟩ : ∃ d, (x.toList == [45]) = d := ⟨_, rfl⟩
  obtain ⟨d6, e6⟩ : ∃ d, (x.toList == [42]) = d := ⟨_, rfl⟩
  have HF := Lib.hid (show chainW x = (d0 || (d1 || (d2 || (d3 || (d4 || (d5 || (d6 || false))))))) by rw [← e0, ← e1, ← e2, ← e3, ← e4, ← e5, ← e6]; simp only [chainW, inMarks, chainMs, List.any_cons, List.any_nil, Lib.toList_data])
  cases d0 with
  | true =>
    have HY := Lib.hid (show chainW x = true by rw [HF.out]; simp)
    go_enter Tryz.func115, Tryz.ntmps115
    go_wp2
    go_ret
    exact ⟨ret_bool HY.out.symm, rfl⟩
  | false =>
  cases d1 with
  | true =>
    have HY := Lib.hid (show chainW x = true by rw [HF.out]; simp)
    go_enter Tryz.func115, Tryz.ntmps115
    go_wp2
    go_ret
    exact ⟨ret_bool HY.out.symm, rfl⟩
  | false =>
  cases d2 with
  | true =>
    have HY := Lib.hid (show chainW x = true by rw [HF.out]; simp)
    go_enter Tryz.func115, Tryz.ntmps115
    go_wp2
    go_ret
    exact ⟨ret_bool HY.out.symm, rfl⟩
  | false =>
  cases d3 with
  | true =>
    have HY := Lib.hid (show chainW x = true by rw [HF.out]; simp)
    go_enter Tryz.func115, Tryz.ntmps115
    go_wp2
    go_ret
    exact ⟨ret_bool HY.out.symm, rfl⟩
  | false =>
  cases d4 with
  | true =>
    have HY := Lib.hid (show chainW x = true by rw [HF.out]; simp)
    go_enter Tryz.func115, Tryz.ntmps115
    go_wp2
    go_ret
    exact ⟨ret_bool HY.out.symm, rfl⟩
  | false =>
  cases d5 with
  | true =>
    have HY := Lib.hid (show chainW x = true by rw [HF.out]; simp)
    go_enter Tryz.func115, Tryz.ntmps115
    go_wp2
    go_ret
    exact ⟨ret_bool HY.out.symm, rfl⟩
  | false =>
  cases d6 with
  | true =>
    have HY := Lib.hid (show chainW x = true by rw [HF.out]; simp)
    go_enter Tryz.func115, Tryz.ntmps115
    go_wp2
    go_ret
    exact ⟨ret_bool HY.out.symm, rfl⟩
  | false =>
  have HY := Lib.hid (show chainW x = false by rw [HF.out]; simp)
  go_enter Tryz.func115, Tryz.ntmps115
  go_wp2
  go_ret
  exact ⟨ret_bool HY.out.symm, rfl⟩
end Go.Proofs.YtoloplpmjcgbdaaGreatDoor
