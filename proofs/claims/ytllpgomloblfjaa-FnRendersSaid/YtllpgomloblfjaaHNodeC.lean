/- Node: the law's helpers for rows of them. -/
import Derived.Test.YtllpgomloblfjaaHNode
import Derived.Test.YtllpgomloblfjaaHeap
namespace Go.Proofs.Ytllpgomloblfjaa
open Go.RowKit
theorem set4 {w : World} {b : Nat} {v0 v1 v2 v3 u0 u1 u2 u3 : Value} (h0 : w.cell? ⟨b, 0, none⟩ = some u0) (h1 : w.cell? ⟨b, 1, none⟩ = some u1) (h2 : w.cell? ⟨b, 2, none⟩ = some u2) (h3 : w.cell? ⟨b, 3, none⟩ = some u3) :
    ((((w.setCell ⟨b, 0, none⟩ v0).setCell ⟨b, 1, none⟩ v1).setCell ⟨b, 2, none⟩ v2).setCell ⟨b, 3, none⟩ v3).cell? ⟨b, 0, none⟩ = some v0 ∧ ((((w.setCell ⟨b, 0, none⟩ v0).setCell ⟨b, 1, none⟩ v1).setCell ⟨b, 2, none⟩ v2).setCell ⟨b, 3, none⟩ v3).cell? ⟨b, 1, none⟩ = some v1 ∧
    ((((w.setCell ⟨b, 0, none⟩ v0).setCell ⟨b, 1, none⟩ v1).setCell ⟨b, 2, none⟩ v2).setCell ⟨b, 3, none⟩ v3).cell? ⟨b, 2, none⟩ = some v2 ∧ ((((w.setCell ⟨b, 0, none⟩ v0).setCell ⟨b, 1, none⟩ v1).setCell ⟨b, 2, none⟩ v2).setCell ⟨b, 3, none⟩ v3).cell? ⟨b, 3, none⟩ = some v3 := by
  have ne : ∀ {i j : Nat}, i ≠ j → (⟨b, i, none⟩ : Addr) ≠ ⟨b, j, none⟩ := fun h e => h (by injection e)
  refine ⟨?_, ?_, ?_, ?_⟩
  · rw [World.cell?_setCell_other _ _ _ _ (ne (by decide)), World.cell?_setCell_other _ _ _ _ (ne (by decide)), World.cell?_setCell_other _ _ _ _ (ne (by decide))]
    exact World.cell?_setCell_same _ _ _ h0
  · rw [World.cell?_setCell_other _ _ _ _ (ne (by decide)), World.cell?_setCell_other _ _ _ _ (ne (by decide))]
    exact World.cell?_setCell_same _ _ _ ((World.cell?_setCell_other _ _ _ _ (ne (by decide))).trans h1)
  · rw [World.cell?_setCell_other _ _ _ _ (ne (by decide))]
    exact World.cell?_setCell_same _ _ _ ((World.cell?_setCell_other _ _ _ _ (ne (by decide))).trans ((World.cell?_setCell_other _ _ _ _ (ne (by decide))).trans h2))
  · exact World.cell?_setCell_same _ _ _ ((World.cell?_setCell_other _ _ _ _ (ne (by decide))).trans ((World.cell?_setCell_other _ _ _ _ (ne (by decide))).trans ((World.cell?_setCell_other _ _ _ _ (ne (by decide))).trans h3)))
end Go.Proofs.Ytllpgomloblfjaa
namespace Go.Proofs.Ytllpgomloblfjaa
open Go.RowKit
theorem rep_own {n : Nat} {T TI lo hi : Nat} {w : World} {v : Value} (h : Own nodeF T lo hi w v (List.replicate n (Node.zero, ((none, 0, 0) : SV)))) : FOwn nodeF Node.kids T TI lo hi w v (List.replicate n (Node.zero, ((none, 0, 0) : SV))) := by
  refine ⟨h, fun i hi => ?_, fun i j hi hj hne g hg => ?_⟩
  · rw [List.getElem_replicate]; exact Own.nil _ _ _ _ _
  · rw [List.getElem_replicate] at hg
    simp [SV.v, Value.ownBlock] at hg
theorem Node.kids_le {n : Nat} (xs : List Node) (h : Node.wts xs ≤ n) : ∀ x ∈ xs, x.kids.length ≤ n := by
  intro x hx
  obtain ⟨k, hk, rfl⟩ := List.mem_iff_getElem.1 hx
  have h1 := sumOf_succ Node.wt xs k hk
  have h2 := sumOf_le Node.wt xs (k + 1)
  unfold Node.wts at h
  have h3 : Node.wt xs[k] = xs[k].text.size + xs[k].kids.length := rfl
  omega
end Go.Proofs.Ytllpgomloblfjaa
