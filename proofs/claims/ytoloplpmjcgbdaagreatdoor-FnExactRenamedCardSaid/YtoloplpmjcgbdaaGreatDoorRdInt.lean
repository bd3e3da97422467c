/- A slice of integers, read cell by cell. -/
import Derived.Test.YtoloplpmjcgbdaaGreatDoorHNodeC
namespace Go.Proofs.YtoloplpmjcgbdaaGreatDoor
open Go.RowKit

theorem Rd.intAt {lo hi n c : Nat} {w : World} {a : Option Addr} {ks : List Int} (h : Rd intS lo hi w (.slice a n c) ks) {k : Nat} (hk : k < ks.length) : ∃ b off, a = some ⟨b, off, none⟩ ∧ lo ≤ b ∧ b < hi ∧ w.cell? ⟨b, off + k, none⟩ = some (.int .i64 (ks.getD k 0)) := by
  obtain ⟨a', c', e, h2, h3, h4, h5⟩ := h
  injection e with e1 e2 e3
  subst e1
  obtain ⟨b, off, cs, q1, q2, q3, rfl, q5⟩ := h5 k hk
  refine ⟨b, off, q1, q2, q3, ?_⟩
  have := q5 0 _ rfl
  rw [List.getD_eq_getElem?_getD, List.getElem?_eq_getElem hk]
  have e : off + k * intS.size + 0 = off + k := by show off + k * 1 + 0 = off + k; omega
  rwa [e] at this
theorem Rd.lenEq {α : Type} {S : Shape α} {lo hi n c : Nat} {w : World} {a : Option Addr} {xs : List α} (h : Rd S lo hi w (.slice a n c) xs) : n = xs.length ∧ xs.length ≤ c ∧ c ≤ 9223372036854775807 := by
  obtain ⟨a', c', e, h2, h3, h4, h5⟩ := h
  injection e with e1 e2 e3
  unfold maxLen at h3
  exact ⟨by omega, by omega, by omega⟩
theorem Rd.sl {α : Type} {S : Shape α} {lo hi : Nat} {w : World} {v : Value} {xs : List α} (h : Rd S lo hi w v xs) : ∃ a c, v = .slice a xs.length c := by
  obtain ⟨a', c', e, _⟩ := h
  exact ⟨a', c', e⟩
end Go.Proofs.YtoloplpmjcgbdaaGreatDoor
