/- What the reference asks of a node's text. -/
import Derived.Test.YtjaginciejljkaaDoorNodeS
import Derived.Test.YtjaginciejljkaaDoorRdInt
namespace Go.Proofs.YtjaginciejljkaaDoor
open Go.RowKit

theorem isNm_no {s : ByteArray} (h : ¬ isSg s 1 = true) : isNm s = false := by unfold isNm; rw [isSg_no h]; rfl
set_option maxHeartbeats 2000000 in
set_option maxRecDepth 100000 in
theorem l05Note_any (s : ByteArray) (w : World) (hs : s.size ≤ 4611686018427387904) :
    Calls Tryd.prog 44 #[.string s] w fun e w' => e = .returned (.bool (isSg s 5)) ∧ w = w' := by
  have H := Lib.hid (isSg5_len s)
  by_cases h1 : 1 < s.size
  · have h1i : (1 : Int) < (s.size : Int) := by omega
    have HQ := Lib.hid (l04Note_any s 0 w hs (Nat.zero_le _))
    have HT := Lib.hid (trimmed_spec s w (by omega))
    rw [decide_eq_true h1, Bool.true_and, ← natEq2] at H
    clear h1
    cases g : ((noteLen s 0 : Int) == (s.size : Int)) with
    | true =>
      have HF : Hid (isSg s 5 = ((trimT s).toList == s.toList)) := by show _ = _; rw [H.out, g, Bool.true_and]
      go_enter Tryd.func44, Tryd.ntmps44
      go_wp2_with fail
      refine HQ.out.mono ?_
      rintro e w' ⟨rfl, hw⟩
      subst hw
      go_wp2_with fail
      refine HT.out.mono ?_
      rintro e w' ⟨rfl, hw⟩
      subst hw
      go_wp2
      go_ret
      exact ⟨ret_bool HF.out.symm, rfl⟩
    | false =>
      have HF : Hid (isSg s 5 = false) := by show _ = _; rw [H.out, g]; rfl
      go_enter Tryd.func44, Tryd.ntmps44
      go_wp2_with fail
      refine HQ.out.mono ?_
      rintro e w' ⟨rfl, hw⟩
      subst hw
      go_wp2
      go_ret
      exact ⟨ret_bool HF.out.symm, rfl⟩
  · have h1i : ¬ (1 : Int) < (s.size : Int) := by omega
    have HF : Hid (isSg s 5 = false) := by show _ = _; rw [H.out, decide_eq_false h1]; rfl
    clear h1
    go_enter Tryd.func44, Tryd.ntmps44
    go_wp2
    go_ret
    exact ⟨ret_bool HF.out.symm, rfl⟩
end Go.Proofs.YtjaginciejljkaaDoor
