/- Int: how it lies in memory; the law's helpers for it. By gen.py. -/
import Derived.Test.YtllpgomloblfjaaMark
namespace Go.Proofs.Ytllpgomloblfjaa
open Go.RowKit
theorem Rd.intF {lo hi : Nat} {w : World} {v : Value} {xs : List Int} (h : Rd intF.shape lo hi w v xs) :
    ∃ a c, v = .slice a xs.length c ∧ xs.length ≤ c ∧ c ≤ maxLen ∧ (a = none → c = 0) ∧
      ∀ k (h : k < xs.length), ∃ b off, a = some ⟨b, off, none⟩ ∧ lo ≤ b ∧ b < hi ∧ w.cell? ⟨b, off + k, none⟩ = some (.int .i64 xs[k]) := by
  obtain ⟨a, c, h1, h2, h3, h4, h5⟩ := h
  refine ⟨a, c, h1, h2, h3, h4, fun k hk => ?_⟩
  obtain ⟨b, off, cs, e1, e2, e3, rfl, e5⟩ := h5 k hk
  have e : w.cell? ⟨b, off + k * 1 + 0, none⟩ = some (.int .i64 xs[k]) := e5 0 _ rfl
  rw [Nat.mul_one] at e
  exact ⟨b, off, e1, e2, e3, e⟩
def intWts (xs : List Int) : Nat := xs.length
theorem intWts_ge (xs : List Int) : xs.length ≤ intWts xs := Nat.le_refl _

set_option maxHeartbeats 400000 in
set_option maxRecDepth 100000 in
theorem eqIntS_any (xs : List Int) (v u : Value) (lo hi lo' hi' : Nat) (w : World) (hr : Rd intF.shape lo hi w v xs) (hh : hi ≤ w.heap.size) (hr' : Rd intF.shape lo' hi' w u xs) (hh' : hi' ≤ w.heap.size) :
    Calls Try.prog 48 #[v, u] w fun e w' => e = .returned (.bool true) ∧ Below w.heap.size w w' := by
  have hl := hr.len_le
  obtain ⟨a, c, rfl, h2, h3, h4, h5⟩ := hr.intF
  obtain ⟨a', c', rfl, h2', h3', h4', h5'⟩ := hr'.intF
  unfold maxLen at h3 h3'
  go_enter Try.func48, Try.ntmps48
  go_wp2
  go_loopw [5] (fun i wr => ∃ k : Nat, k ≤ xs.length ∧ i = .int .i64 k ∧ Below w.heap.size w wr) (fun i _ => xs.length - (intOf i).toNat)
  case atStart => exact ⟨0, Nat.zero_le _, rfl, Below.refl _ _⟩
  case round =>
    obtain ⟨k, hk, rfl, hb⟩ := hrel
    by_cases hlt : k < xs.length
    · obtain ⟨b, off, rfl, hlo, hhi, c0⟩ := h5 k hlt
      obtain ⟨b', off', rfl, hlo', hhi', q0⟩ := h5' k hlt
      have d0 := (hb.cell (p := ⟨b, _, none⟩) (by show b < _; omega)).trans c0
      have r0 := (hb.cell (p := ⟨b', _, none⟩) (by show b' < _; omega)).trans q0
      clear c0 q0
      have hki : (k : Int) < (xs.length : Int) := by omega
      generalize xs[k] = x at *
      go_wp2_with fail
      go_quiet (fail)
      go_wp2
      go_roundw
      case rel => exact ⟨k + 1, by omega, by go_num, blw_drewN hb _⟩
      case measure => simp [intOf]; omega
    · go_wp2
      go_ret
      exact ⟨rfl, hb⟩

set_option maxHeartbeats 400000 in
set_option maxRecDepth 100000 in
theorem sameInts_any (xs : List Int) (v u : Value) (lo hi lo' hi' : Nat) (w : World) (hr : Rd intF.shape lo hi w v xs) (hh : hi ≤ w.heap.size) (hr' : Rd intF.shape lo' hi' w u xs) (hh' : hi' ≤ w.heap.size) :
    Calls Try.prog 19 #[v, u] w fun e w' => e = .returned (.bool true) ∧ Below w.heap.size w w' := by
  have hl := hr.len_le
  obtain ⟨a, c, rfl, h2, h3, h4, h5⟩ := hr.intF
  obtain ⟨a', c', rfl, h2', h3', h4', h5'⟩ := hr'.intF
  unfold maxLen at h3 h3'
  go_enter Try.func19, Try.ntmps19
  go_wp2
  go_loopw [5] (fun i wr => ∃ k : Nat, k ≤ xs.length ∧ i = .int .i64 k ∧ Below w.heap.size w wr) (fun i _ => xs.length - (intOf i).toNat)
  case atStart => exact ⟨0, Nat.zero_le _, rfl, Below.refl _ _⟩
  case round =>
    obtain ⟨k, hk, rfl, hb⟩ := hrel
    by_cases hlt : k < xs.length
    · obtain ⟨b, off, rfl, hlo, hhi, c0⟩ := h5 k hlt
      obtain ⟨b', off', rfl, hlo', hhi', q0⟩ := h5' k hlt
      have d0 := (hb.cell (p := ⟨b, _, none⟩) (by show b < _; omega)).trans c0
      have r0 := (hb.cell (p := ⟨b', _, none⟩) (by show b' < _; omega)).trans q0
      clear c0 q0
      have hki : (k : Int) < (xs.length : Int) := by omega
      generalize xs[k] = x at *
      go_wp2_with fail
      go_quiet (fail)
      go_wp2
      go_roundw
      case rel => exact ⟨k + 1, by omega, by go_num, blw_drewN hb _⟩
      case measure => simp [intOf]; omega
    · go_wp2
      go_ret
      exact ⟨rfl, hb⟩

def intMarks (k n : Nat) : List Int := (List.range n).map fun i => ((k + 1 * i : Nat) : Int)
theorem intMarks_len (k n : Nat) : (intMarks k n).length = n := by simp [intMarks]
theorem intMarks_at (k n i : Nat) (h : i < (intMarks k n).length) : (intMarks k n)[i] = ((k + 1 * i : Nat) : Int) := by simp [intMarks]

set_option maxHeartbeats 1000000 in
set_option maxRecDepth 100000 in
theorem markIntS_any (xs : List Int) (v : Value) (lo hi k : Nat) (w : World) (h : Own intF 3 lo hi w v xs) (_hh : hi ≤ w.heap.size) (hl : xs.length ≤ 2097152) (h1 : 1 ≤ k) (h2 : k ≤ 4294967296) :
    Calls Try.prog 50 #[v, .int .i64 k] w fun e w' => e = .returned (.int .i64 ((k + 1 * xs.length : Nat) : Int)) ∧ Out lo hi w w' ∧ Own intF 3 lo hi w' v (intMarks k xs.length) := by
  obtain ⟨a, c, rfl, h3, h4, h5⟩ := h.form
  unfold maxLen at h4
  go_enter Try.func50, Try.ntmps50
  go_wp2
  go_loopw [1, 5] (fun z i wr => ∃ (q m : Nat) (ys : List Int), q ≤ xs.length ∧ i = .int .i64 q ∧ z = .int .i64 m ∧ m ≤ k + 1 * q ∧ k ≤ m ∧ Hid (m = k + 1 * q) ∧ Hid (ys.length = xs.length) ∧ Hid (ys.take q = (intMarks k xs.length).take q) ∧ Out lo hi w wr ∧ Own intF 3 lo hi wr (.slice a xs.length c) ys) (fun _ i _ => xs.length - (intOf i).toNat)
  case atStart => exact ⟨0, k, xs, Nat.zero_le _, rfl, rfl, by omega, by omega, rfl, rfl, rfl, Out.refl _ _ _, h⟩
  case round =>
    obtain ⟨q, m, ys, hq, rfl, rfl, hm1, hm2, HM, HL, HT, ho, hO⟩ := hrel
    by_cases hlt : q < xs.length
    · obtain ⟨g, rfl, hlo, hhi⟩ := h5 (by omega)
      have HY := Lib.hid (take_set_self (k := q) (xs := intMarks k xs.length) (ys := ys) (by rw [intMarks_len]; exact hlt) (by rw [intMarks_len]; exact HL.out) HT.out)
      have HA := Lib.hid (intMarks_at k xs.length q (by rw [intMarks_len]; exact hlt))
      have hqy : q < ys.length := by have := HL.out; omega
      have hsz := ho.size
      obtain ⟨u0, f0⟩ : ∃ u, wr.cell? ⟨g, q, none⟩ = some u := ⟨_, (congrArg (fun z => wr.cell? ⟨g, z, none⟩) (Nat.mul_one q).symm).trans ((hO.cell (j := 0) HL.out.symm hqy (by decide)).trans rfl)⟩
      have g0 : wr.frozen? ⟨g, q, none⟩ = false := hO.frozen HL.out.symm _
      go_wp2
      have EF := ho.setCell (p := ⟨g, q, none⟩) hlo hhi (.int .i64 (((m : Nat) : Int)))
      have OF := hO.set (k := q) (j := 0) (u := .int .i64 (((m : Nat) : Int))) (x := ((m : Nat) : Int)) HL.out.symm hqy (by decide) rfl
      rw [show q * intF.size + 0 = q from Nat.mul_one q] at OF
      go_roundw
      case rel => exact ⟨q + 1, m + 1, _, by omega, by go_num, by go_num, by omega, by omega, (by have := HM.out; unfold Hid; omega), (by rw [List.length_set]; exact HL.out), (by rw [← HY.out, HA.out, ← HM.out]; rfl), EF, OF⟩
      case measure => simp [intOf]; omega
    · have HK := Lib.hid (show q = xs.length by omega)
      go_wp2
      go_ret
      have e1 := HT.out
      rw [HK.out, List.take_of_length_le (by rw [HL.out]; exact Nat.le_refl _), List.take_of_length_le (by rw [intMarks_len]; exact Nat.le_refl _)] at e1
      subst e1
      exact ⟨ret_int (by rw [HM.out, HK.out]), ho, hO⟩
theorem markIntS_z {xs : List Int} {v : Value} {lo hi : Nat} (k : Nat) {z : Int} {w : World} (hz : z = (k : Nat)) (h : Own intF 3 lo hi w v xs) (hh : hi ≤ w.heap.size) (hl : xs.length ≤ 2097152) (h1 : 1 ≤ k) (h2 : k ≤ 4294967296) :
    Calls Try.prog 50 #[v, .int .i64 z] w fun e w' => e = .returned (.int .i64 ((k + 1 * xs.length : Nat) : Int)) ∧ Out lo hi w w' ∧ Own intF 3 lo hi w' v (intMarks k xs.length) := by
  subst hz
  exact markIntS_any xs v lo hi k w h hh hl h1 h2

set_option maxHeartbeats 1000000 in
set_option maxRecDepth 100000 in
theorem heldIntS_any (v : Value) (lo hi k n : Nat) (w : World) (hr : Rd intF.shape lo hi w v (intMarks k n)) (hh : hi ≤ w.heap.size) (hl : n ≤ 2097152) (h1 : 1 ≤ k) (h2 : k ≤ 4294967296) :
    Calls Try.prog 51 #[v, .int .i64 k] w fun e w' => e = .returned (.int .i64 ((k + 1 * n : Nat) : Int)) ∧ Below w.heap.size w w' := by
  have HX := Lib.hid (intMarks_len k n)
  obtain ⟨a, c, rfl, h3, h4, _, h5⟩ := hr.intF
  rw [HX.out] at h3 ⊢
  unfold maxLen at h4
  go_enter Try.func51, Try.ntmps51
  go_wp2
  go_loopw [1, 5] (fun z i wr => ∃ (q m : Nat), q ≤ n ∧ i = .int .i64 q ∧ z = .int .i64 m ∧ m ≤ k + 1 * q ∧ k ≤ m ∧ Hid (m = k + 1 * q) ∧ Below w.heap.size w wr) (fun _ i _ => n - (intOf i).toNat)
  case atStart => exact ⟨0, k, Nat.zero_le _, rfl, rfl, by omega, by omega, rfl, Below.refl _ _⟩
  case round =>
    obtain ⟨q, m, hq, rfl, rfl, hm1, hm2, HM, hb⟩ := hrel
    by_cases hlt : q < n
    · obtain ⟨b, off, rfl, hlo, hhi, c0⟩ := h5 q (by rw [HX.out]; exact hlt)
      rw [intMarks_at, ← HM.out] at c0
      have hqi : (q : Int) < (n : Int) := by omega
      have d0 : wr.cell? ⟨b, off + q, none⟩ = some (.int .i64 (((m : Nat) : Int))) := (hb.cell (p := ⟨b, _, none⟩) (by show b < _; omega)).trans c0
      clear c0
      go_wp2
      go_roundw
      case rel => exact ⟨q + 1, m + 1, by omega, by go_num, by go_num, by omega, by omega, (by have := HM.out; unfold Hid; omega), hb⟩
      case measure => simp [intOf]; omega
    · have HK := Lib.hid (show q = n by omega)
      go_wp2
      go_ret
      exact ⟨ret_int (by rw [HM.out, HK.out]), hb⟩
theorem heldIntS_z {v : Value} {lo hi : Nat} (k n : Nat) {z : Int} {w : World} (hz : z = (k : Nat)) (hr : Rd intF.shape lo hi w v (intMarks k n)) (hh : hi ≤ w.heap.size) (hl : n ≤ 2097152) (h1 : 1 ≤ k) (h2 : k ≤ 4294967296) :
    Calls Try.prog 51 #[v, .int .i64 z] w fun e w' => e = .returned (.int .i64 ((k + 1 * n : Nat) : Int)) ∧ Below w.heap.size w w' := by
  subst hz
  exact heldIntS_any v lo hi k n w hr hh hl h1 h2
end Go.Proofs.Ytllpgomloblfjaa
