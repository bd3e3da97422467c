/- String: how it lies in memory; the law's helpers for it. By gen.py. -/
import Derived.Test.YtllpgomloblfjaaMark
namespace Go.Proofs.Ytllpgomloblfjaa
open Go.RowKit
theorem Rd.strF {lo hi : Nat} {w : World} {v : Value} {xs : List ByteArray} (h : Rd strF.shape lo hi w v xs) :
    ∃ a c, v = .slice a xs.length c ∧ xs.length ≤ c ∧ c ≤ maxLen ∧ (a = none → c = 0) ∧
      ∀ k (h : k < xs.length), ∃ b off, a = some ⟨b, off, none⟩ ∧ lo ≤ b ∧ b < hi ∧ w.cell? ⟨b, off + k, none⟩ = some (.string xs[k]) := by
  obtain ⟨a, c, h1, h2, h3, h4, h5⟩ := h
  refine ⟨a, c, h1, h2, h3, h4, fun k hk => ?_⟩
  obtain ⟨b, off, cs, e1, e2, e3, rfl, e5⟩ := h5 k hk
  have e : w.cell? ⟨b, off + k * 1 + 0, none⟩ = some (.string xs[k]) := e5 0 _ rfl
  rw [Nat.mul_one] at e
  exact ⟨b, off, e1, e2, e3, e⟩
def strWts (xs : List ByteArray) : Nat := xs.length + sumOf (fun x : ByteArray => x.size) xs
theorem strWts_ge (xs : List ByteArray) : xs.length ≤ strWts xs := Nat.le_add_right _ _

set_option maxHeartbeats 400000 in
set_option maxRecDepth 100000 in
theorem sameTexts_any (xs : List ByteArray) (v u : Value) (lo hi lo' hi' : Nat) (w : World) (hr : Rd strF.shape lo hi w v xs) (hh : hi ≤ w.heap.size) (hr' : Rd strF.shape lo' hi' w u xs) (hh' : hi' ≤ w.heap.size) :
    Calls Try.prog 38 #[v, u] w fun e w' => e = .returned (.bool true) ∧ Below w.heap.size w w' := by
  have hl := hr.len_le
  obtain ⟨a, c, rfl, h2, h3, h4, h5⟩ := hr.strF
  obtain ⟨a', c', rfl, h2', h3', h4', h5'⟩ := hr'.strF
  unfold maxLen at h3 h3'
  go_enter Try.func38, Try.ntmps38
  go_wp2
  go_loopw [5] (fun i wr => ∃ k : Nat, k ≤ xs.length ∧ i = .int .i64 k ∧ Below w.heap.size w wr) (fun i _ => xs.length - (intOf i).toNat)
  case atStart => exact ⟨0, Nat.zero_le _, rfl, Below.refl _ _⟩
  case round =>
    obtain ⟨k, hk, rfl, hb⟩ := hrel
    by_cases hlt : k < xs.length
    · obtain ⟨b, off, rfl, hlo, hhi, c0⟩ := h5 k hlt
      obtain ⟨b', off', rfl, hlo', hhi', q0⟩ := h5' k hlt
      have d0 := (hb.cell (p := ⟨b, _, none⟩) (by show b < _; omega)).trans c0
      have r0 := (hb.cell (p := ⟨b', _, none⟩) (by show b' < _; omega)).trans q0
      clear c0 q0
      have hki : (k : Int) < (xs.length : Int) := by omega
      generalize xs[k] = x at *
      go_wp2_with fail
      go_quiet (fail)
      go_wp2
      go_roundw
      case rel => exact ⟨k + 1, by omega, by go_num, blw_drewN hb _⟩
      case measure => simp [intOf]; omega
    · go_wp2
      go_ret
      exact ⟨rfl, hb⟩
end Go.Proofs.Ytllpgomloblfjaa
