/- The first state taken out of a row of the call's own, of the program. -/
import Derived.Test.YtllpgomloblfjaaHuntC
namespace Go.Proofs.Ytllpgomloblfjaa
open Go.RowKit

/-- the state of the loop: what is to be moved down still -/
def PopSt (goal : List StL) (l : List StL) (k : Nat) : Prop := ∃ f, l.length ≤ k + f ∧ downF f l k = goal
theorem pop_stop {goal l : List StL} {k : Nat} (h : PopSt goal l k) (hc : ¬ (2 * k + 1 < l.length ∧ lessL (stA l (downN l k)) (stA l k) = true)) : l = goal := by
  obtain ⟨f, hf, e⟩ := h
  cases f with
  | zero => exact e
  | succ f => rw [downF, if_neg hc] at e; exact e
theorem down_gt {l : List StL} {k : Nat} : k < downN l k := by unfold downN; split <;> omega
theorem pop_go {goal l : List StL} {k : Nat} (h : PopSt goal l k) (h0 : 2 * k + 1 < l.length) (hl : lessL (stA l (downN l k)) (stA l k) = true) : PopSt goal (swapS l k (downN l k)) (downN l k) := by
  obtain ⟨f, hf, e⟩ := h
  have := down_gt (l := l) (k := k)
  cases f with
  | zero => omega
  | succ f => rw [downF, if_pos ⟨h0, hl⟩] at e; exact ⟨f, by rw [swap_len]; omega, e⟩
theorem pop_start (l : List StL) : PopSt (popL l) ((l.set 0 (stA l (l.length - 1))).take (l.length - 1)) 0 := ⟨l.length, by rw [List.length_take, List.length_set]; omega, rfl⟩
theorem same_storeAll {lo hi g : Nat} (h : g < lo ∨ hi ≤ g) (cs : List Value) : ∀ (o : Nat) (w : World), Same lo hi w (storeAll g cs o w) := by
  induction cs with
  | nil => exact fun o w => Same.refl _ _ _
  | cons a cs ih =>
    intro o w
    refine Same.trans (fun b h1 h2 => ?_) (ih (o + 1) (w.setCell ⟨g, o, none⟩ a))
    exact Below.heap_setCell _ _ _ _ (by show b ≠ g; omega)
end Go.Proofs.Ytllpgomloblfjaa
