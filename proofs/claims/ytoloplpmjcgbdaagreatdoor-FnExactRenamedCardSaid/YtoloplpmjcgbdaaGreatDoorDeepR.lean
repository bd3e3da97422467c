/- A slice of nodes, read node by node. -/
import Derived.Test.YtoloplpmjcgbdaaGreatDoorRdInt
namespace Go.Proofs.YtoloplpmjcgbdaaGreatDoor
open Go.RowKit

theorem rd_nodeAt {lo hi n c : Nat} {w : World} {a : Option Addr} {xs : List Node} (h : Rd nodeS lo hi w (.slice a n c) xs) {k : Nat} (hk : k < xs.length) : ∃ b off ka kc, a = some ⟨b, off, none⟩ ∧ lo ≤ b ∧ b < hi ∧ w.cell? ⟨b, off + k * 4, none⟩ = some (.int .i64 xs[k].kind) ∧ w.cell? ⟨b, off + k * 4 + 1, none⟩ = some (.string xs[k].text) ∧
        w.cell? ⟨b, off + k * 4 + 2, none⟩ = some (.slice ka xs[k].kids.length kc) ∧ w.cell? ⟨b, off + k * 4 + 3, none⟩ = some (.bool xs[k].blank) ∧ Rd intS lo hi w (.slice ka xs[k].kids.length kc) xs[k].kids := by
  obtain ⟨a', c', e, h2, h3, h4, h5⟩ := h.nodeS
  injection e with e1 e2 e3
  subst e1
  exact h5 k hk
end Go.Proofs.YtoloplpmjcgbdaaGreatDoor
