/- What values cost at least: said of lists. -/
import Derived.Test.YtllpgomloblfjaaBestP
import Derived.Test.YtllpgomloblfjaaCostT
namespace Go.Proofs.Ytllpgomloblfjaa
open Go.RowKit

theorem firstOk_take {x : Piece} {v : List Int} (hx : Right x) (h : FullV x v) (n : Nat) : firstOk x.rules (v.take n) = true := by
  have hl : (v.take n).length ≤ v.length := by rw [List.length_take]; omega
  have hf := h.full
  rw [firstOk_eq, decide_eq_true (by omega), Bool.true_and, List.all_eq_true]
  intro i hi
  rw [List.mem_range] at hi
  have hr : i < x.rules.length := by omega
  have hv := h.val i hr
  have hx2 := hx.rule i hr
  rw [valAt_at hi hr, List.getElem_take]
  rw [getD_at (by omega)] at hv
  rw [IntWalk.wrap64_in _ (by omega)]
  exact inR_yes hv.1 (by omega)
theorem bounds_law {x : Piece} {v : List Int} (hp : pieceOk x = true) (hf : FullV x v) (w : Int) (n : Nat) : boundB x v = (costB x v w).sum ∧ boundB x (v.take n) ≤ (costB x v w).sum ∧ (tiesMay x.ties (v.take n) = false → tiesMay x.ties v = false) := by
  have hx := right_of hp
  have e0 : (costB x v w).sum = boundOf x v := by rw [costB_full hp hf]; rfl
  have e1 : boundB x v = boundOf x v := by
    have := firstOk_take hx hf v.length
    rw [List.take_length] at this
    unfold boundB
    rw [this, hp]; rfl
  have e2 : boundB x (v.take n) = boundOf x (v.take n) := by
    unfold boundB
    rw [firstOk_take hx hf n, hp]; rfl
  have e3 : v.take n ++ v.drop n = v := List.take_append_drop n v
  refine ⟨by rw [e0, e1], ?_, fun h => ?_⟩
  · rw [e0, e2]
    have := bound_front hx (s := v.take n) (t := v.drop n) (by rw [e3]; exact hf.right hx)
    rwa [e3] at this
  · cases ht : tiesMay x.ties v with
    | false => rfl
    | true =>
      have := tiesMay_front (ts := x.ties) (s := v.take n) (t := v.drop n) (by rw [e3]; exact ht)
      rw [h] at this
      cases this
end Go.Proofs.Ytllpgomloblfjaa
