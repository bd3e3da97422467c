/- The cursor that draws (spec.l01*): what it tells is within bounds; it turns its own block alone. -/
import Derived.Test.YtllpgomloblfjaaGreatNest
import Derived.Test.YtllpgomloblfjaaGreatHString
import Derived.Laws.Bits64b
import Derived.IntWalk
namespace Go.Proofs.YtllpgomloblfjaaGreat
open Go.RowKit
theorem and_255 (a : Int) : 0 ≤ bits .and .i64 a 255 ∧ bits .and .i64 a 255 ≤ 255 := by
  have h : bits .and .i64 a 255 = IntKind.i64.wrap ((BitVec.ofInt 64 a &&& BitVec.ofInt 64 255).toNat : Int) := rfl
  have hx : (BitVec.ofInt 64 a &&& BitVec.ofInt 64 255).toNat ≤ 255 := by
    rw [BitVec.toNat_and]
    exact Nat.le_trans Nat.and_le_right (by decide)
  rw [h, IntWalk.i64_in _ (by omega)]
  omega
theorem and_mask (a : Int) (m : Nat) (hm : m < 9223372036854775808) : 0 ≤ bits .and .i64 a m ∧ bits .and .i64 a m ≤ m := by
  have h : bits .and .i64 a m = IntKind.i64.wrap ((BitVec.ofInt 64 a &&& BitVec.ofInt 64 (m : Int)).toNat : Int) := rfl
  have hx : (BitVec.ofInt 64 a &&& BitVec.ofInt 64 (m : Int)).toNat ≤ m := by
    rw [BitVec.toNat_and]
    refine Nat.le_trans Nat.and_le_right ?_
    rw [BitVec.ofInt_natCast, BitVec.toNat_ofNat]
    exact Nat.mod_le _ _
  rw [h, IntWalk.i64_in _ (by omega)]
  omega
def bytF : Flat Int := ⟨1, fun x => [.int .u8 x], fun _ => rfl, fun x u h => by
  simp only [List.mem_cons, List.not_mem_nil, or_false] at h
  subst h; rfl⟩
def U8 (n : Int) : Prop := 0 ≤ n ∧ n ≤ 255
abbrev bytS : Shape Int := bytF.shape
theorem Rd.bytF {lo hi : Nat} {w : World} {v : Value} {xs : List Int} (h : Rd bytS lo hi w v xs) :
    ∃ a c, v = .slice a xs.length c ∧ xs.length ≤ c ∧ c ≤ maxLen ∧ (a = none → c = 0) ∧
      ∀ k (h : k < xs.length), ∃ b off, a = some ⟨b, off, none⟩ ∧ lo ≤ b ∧ b < hi ∧ w.cell? ⟨b, off + k, none⟩ = some (.int .u8 xs[k]) := by
  obtain ⟨a, c, h1, h2, h3, h4, h5⟩ := h
  refine ⟨a, c, h1, h2, h3, h4, fun k hk => ?_⟩
  obtain ⟨b, off, cs, e1, e2, e3, rfl, e5⟩ := h5 k hk
  have e : w.cell? ⟨b, off + k * 1 + 0, none⟩ = some (.int .u8 xs[k]) := e5 0 _ rfl
  rw [Nat.mul_one] at e
  exact ⟨b, off, e1, e2, e3, e⟩
theorem cell_heap0 {w : World} {b j : Nat} {c : Array Value} {T : TypeId} {v : Value} (h : w.heap[b]? = some (.cells c T)) (hj : c[j]? = some v) : w.cell? ⟨b, j, none⟩ = some v := by
  simp [World.cell?, h, hj]
theorem frozen_heap0 {w : World} {b j : Nat} {c : Array Value} {T : TypeId} (h : w.heap[b]? = some (.cells c T)) : w.frozen? ⟨b, j, none⟩ = false := by
  simp [World.frozen?, h]
/-- a cursor in block g over the bytes xs, which lie in blocks lo .. hi-1 -/
def Cur (g lo hi : Nat) (xs : List Int) (w : World) : Prop :=
  hi ≤ g ∧ g < w.heap.size ∧ (∀ x ∈ xs, U8 x) ∧ ∃ (sa : Option Addr) (sc i : Nat) (h : Int), I64 h ∧ i ≤ xs.length ∧ w.cell? ⟨g, 0, none⟩ = some (.slice sa xs.length sc) ∧ w.cell? ⟨g, 1, none⟩ = some (.int .i64 i) ∧ w.cell? ⟨g, 2, none⟩ = some (.int .i64 h) ∧
    w.frozen? ⟨g, 1, none⟩ = false ∧ w.frozen? ⟨g, 2, none⟩ = false ∧ Rd bytS lo hi w (.slice sa xs.length sc) xs
end Go.Proofs.YtllpgomloblfjaaGreat
