/- Sign: how it lies in memory; the law's helpers for it. By gen.py. -/
import Derived.Test.YtglcndihhlmogaaDoorMark0
namespace Go.Proofs.YtglcndihhlmogaaDoor
open Go.RowKit
structure Sign where
  kind : Int
  text : ByteArray
  pos : Int
  blank : Bool
def signF : Flat Sign := ⟨4, fun x => [.int .i64 x.kind, .string x.text, .int .i64 x.pos, .bool x.blank], fun _ => rfl, fun x u h => by
  simp only [List.mem_cons, List.not_mem_nil, or_false] at h
  rcases h with h | h | h | h <;> subst h <;> rfl⟩
def Sign.v (x : Sign) : Value := .agg #[.int .i64 x.kind, .string x.text, .int .i64 x.pos, .bool x.blank]
def Sign.zero : Sign := ⟨0, ByteArray.empty, 0, false⟩
theorem Rd.signF {lo hi : Nat} {w : World} {v : Value} {xs : List Sign} (h : Rd signF.shape lo hi w v xs) :
    ∃ a c, v = .slice a xs.length c ∧ xs.length ≤ c ∧ c ≤ maxLen ∧ (a = none → c = 0) ∧
      ∀ k (h : k < xs.length), ∃ b off, a = some ⟨b, off, none⟩ ∧ lo ≤ b ∧ b < hi ∧ w.cell? ⟨b, off + k * 4, none⟩ = some (.int .i64 xs[k].kind) ∧ w.cell? ⟨b, off + k * 4 + 1, none⟩ = some (.string xs[k].text) ∧ w.cell? ⟨b, off + k * 4 + 1 + 1, none⟩ = some (.int .i64 xs[k].pos) ∧ w.cell? ⟨b, off + k * 4 + 1 + 1 + 1, none⟩ = some (.bool xs[k].blank) := by
  obtain ⟨a, c, h1, h2, h3, h4, h5⟩ := h
  refine ⟨a, c, h1, h2, h3, h4, fun k hk => ?_⟩
  obtain ⟨b, off, cs, e1, e2, e3, rfl, e5⟩ := h5 k hk
  exact ⟨b, off, e1, e2, e3, e5 0 _ rfl, e5 1 _ rfl, e5 2 _ rfl, e5 3 _ rfl⟩
end Go.Proofs.YtglcndihhlmogaaDoor
