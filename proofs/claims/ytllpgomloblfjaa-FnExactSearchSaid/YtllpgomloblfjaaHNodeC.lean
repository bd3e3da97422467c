/- Node: the law's helpers for rows of them. -/
import Derived.Test.YtllpgomloblfjaaHNodeB
namespace Go.Proofs.Ytllpgomloblfjaa
open Go.RowKit
theorem rep_own {n : Nat} {T TI lo hi : Nat} {w : World} {v : Value} (h : Own nodeF T lo hi w v (List.replicate n (Node.zero, ((none, 0, 0) : SV)))) : FOwn nodeF Node.kids T TI lo hi w v (List.replicate n (Node.zero, ((none, 0, 0) : SV))) := by
  refine ⟨h, fun i hi => ?_, fun i j hi hj hne g hg => ?_⟩
  · rw [List.getElem_replicate]; exact Own.nil _ _ _ _ _
  · rw [List.getElem_replicate] at hg
    simp [SV.v, Value.ownBlock] at hg
theorem Node.kids_le {n : Nat} (xs : List Node) (h : Node.wts xs ≤ n) : ∀ x ∈ xs, x.kids.length ≤ n := by
  intro x hx
  obtain ⟨k, hk, rfl⟩ := List.mem_iff_getElem.1 hx
  have h1 := sumOf_succ Node.wt xs k hk
  have h2 := sumOf_le Node.wt xs (k + 1)
  unfold Node.wts at h
  have h3 : Node.wt xs[k] = xs[k].text.size + xs[k].kids.length := rfl
  omega
end Go.Proofs.Ytllpgomloblfjaa
