/- A drawn region: the condition under which it is walked may be made stronger on the way. -/
import Derived.Test.YtllpgomloblfjaaBase
namespace Go.Proofs.Ytllpgomloblfjaa
open Go.RowKit
theorem wpAnyH_wide {P : Program} {md : Region.Mode} {ops : Array Oper} {Q : Exit → Act → World → Prop} {S S' : World → Prop} (hS : ∀ w, S' w → S w) :
    ∀ (fuel : Nat) (listed : Array Bool) (a : Act) (w : World), wpAnyH P md ops Q S' fuel listed a w → wpAnyH P md ops Q S fuel listed a w
  | 0, _, _, _, h => h
  | fuel + 1, _, _, _, h => ⟨h.1, fun i hi => wpOp_mono (fun _ _ h' => ⟨hS _ h'.1, wpAnyH_wide hS fuel _ _ _ h'.2⟩) (h.2 i hi)⟩
/-- operation number i, as it is written -/
theorem at_op {ops : Array Oper} {i : Nat} {o : Oper} {rest : List Oper} (h : ops.toList.drop i = o :: rest) : ops[i]? = some o := by
  rw [← Array.getElem?_toList]
  have := List.getElem?_drop (xs := ops.toList) (i := i) (j := 0)
  rw [Nat.add_zero] at this
  rw [← this, h]
  rfl
end Go.Proofs.Ytllpgomloblfjaa
