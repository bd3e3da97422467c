/- Int: how it lies in memory; the law's helpers for it. By gen.py. -/
import Derived.Test.YtllpgomloblfjaaGreatMark
namespace Go.Proofs.YtllpgomloblfjaaGreat
open Go.RowKit
theorem Rd.intF {lo hi : Nat} {w : World} {v : Value} {xs : List Int} (h : Rd intF.shape lo hi w v xs) :
    ∃ a c, v = .slice a xs.length c ∧ xs.length ≤ c ∧ c ≤ maxLen ∧ (a = none → c = 0) ∧
      ∀ k (h : k < xs.length), ∃ b off, a = some ⟨b, off, none⟩ ∧ lo ≤ b ∧ b < hi ∧ w.cell? ⟨b, off + k, none⟩ = some (.int .i64 xs[k]) := by
  obtain ⟨a, c, h1, h2, h3, h4, h5⟩ := h
  refine ⟨a, c, h1, h2, h3, h4, fun k hk => ?_⟩
  obtain ⟨b, off, cs, e1, e2, e3, rfl, e5⟩ := h5 k hk
  have e : w.cell? ⟨b, off + k * 1 + 0, none⟩ = some (.int .i64 xs[k]) := e5 0 _ rfl
  rw [Nat.mul_one] at e
  exact ⟨b, off, e1, e2, e3, e⟩
def intWts (xs : List Int) : Nat := xs.length
theorem intWts_ge (xs : List Int) : xs.length ≤ intWts xs := Nat.le_refl _
end Go.Proofs.YtllpgomloblfjaaGreat
