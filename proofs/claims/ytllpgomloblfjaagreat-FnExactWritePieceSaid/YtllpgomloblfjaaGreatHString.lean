/- String: how it lies in memory; the law's helpers for it. By gen.py. -/
import Derived.Test.YtllpgomloblfjaaGreatMark
namespace Go.Proofs.YtllpgomloblfjaaGreat
open Go.RowKit
theorem Rd.strF {lo hi : Nat} {w : World} {v : Value} {xs : List ByteArray} (h : Rd strF.shape lo hi w v xs) :
    ∃ a c, v = .slice a xs.length c ∧ xs.length ≤ c ∧ c ≤ maxLen ∧ (a = none → c = 0) ∧
      ∀ k (h : k < xs.length), ∃ b off, a = some ⟨b, off, none⟩ ∧ lo ≤ b ∧ b < hi ∧ w.cell? ⟨b, off + k, none⟩ = some (.string xs[k]) := by
  obtain ⟨a, c, h1, h2, h3, h4, h5⟩ := h
  refine ⟨a, c, h1, h2, h3, h4, fun k hk => ?_⟩
  obtain ⟨b, off, cs, e1, e2, e3, rfl, e5⟩ := h5 k hk
  have e : w.cell? ⟨b, off + k * 1 + 0, none⟩ = some (.string xs[k]) := e5 0 _ rfl
  rw [Nat.mul_one] at e
  exact ⟨b, off, e1, e2, e3, e⟩
def strWts (xs : List ByteArray) : Nat := xs.length + sumOf (fun x : ByteArray => x.size) xs
theorem strWts_ge (xs : List ByteArray) : xs.length ≤ strWts xs := Nat.le_add_right _ _

set_option maxHeartbeats 400000 in
set_option maxRecDepth 100000 in
theorem eqStringS_any (xs : List ByteArray) (v u : Value) (lo hi lo' hi' : Nat) (w : World) (hr : Rd strF.shape lo hi w v xs) (hh : hi ≤ w.heap.size) (hr' : Rd strF.shape lo' hi' w u xs) (hh' : hi' ≤ w.heap.size) :
    Calls Tryz.prog 29 #[v, u] w fun e w' => e = .returned (.bool true) ∧ Below w.heap.size w w' := by
  have hl := hr.len_le
  obtain ⟨a, c, rfl, h2, h3, h4, h5⟩ := hr.strF
  obtain ⟨a', c', rfl, h2', h3', h4', h5'⟩ := hr'.strF
  unfold maxLen at h3 h3'
  go_enter Tryz.func29, Tryz.ntmps29
  go_wp2
  go_loopw [5] (fun i wr => ∃ k : Nat, k ≤ xs.length ∧ i = .int .i64 k ∧ Below w.heap.size w wr) (fun i _ => xs.length - (intOf i).toNat)
  case atStart => exact ⟨0, Nat.zero_le _, rfl, Below.refl _ _⟩
  case round =>
    obtain ⟨k, hk, rfl, hb⟩ := hrel
    by_cases hlt : k < xs.length
    · obtain ⟨b, off, rfl, hlo, hhi, c0⟩ := h5 k hlt
      obtain ⟨b', off', rfl, hlo', hhi', q0⟩ := h5' k hlt
      have d0 := (hb.cell (p := ⟨b, _, none⟩) (by show b < _; omega)).trans c0
      have r0 := (hb.cell (p := ⟨b', _, none⟩) (by show b' < _; omega)).trans q0
      clear c0 q0
      have hki : (k : Int) < (xs.length : Int) := by omega
      generalize xs[k] = x at *
      go_wp2_with fail
      go_quiet (fail)
      go_wp2
      go_roundw
      case rel => exact ⟨k + 1, by omega, by go_num, blw_drewN hb _⟩
      case measure => simp [intOf]; omega
    · go_wp2
      go_ret
      exact ⟨rfl, hb⟩

def strMarks (k n : Nat) : List ByteArray := (List.range n).map fun i => mt (k + 1 * i)
theorem strMarks_len (k n : Nat) : (strMarks k n).length = n := by simp [strMarks]
theorem strMarks_at (k n i : Nat) (h : i < (strMarks k n).length) : (strMarks k n)[i] = mt (k + 1 * i) := by simp [strMarks]

set_option maxHeartbeats 1000000 in
set_option maxRecDepth 100000 in
theorem markStringS_any (xs : List ByteArray) (v : Value) (lo hi k : Nat) (w : World) (h : Own strF 9 lo hi w v xs) (hh : hi ≤ w.heap.size) (hl : xs.length ≤ 2097152) (h1 : 1 ≤ k) (h2 : k ≤ 4294967296) :
    Calls Tryz.prog 38 #[v, .int .i64 k] w fun e w' => e = .returned (.int .i64 ((k + 1 * xs.length : Nat) : Int)) ∧ Out lo hi w w' ∧ Own strF 9 lo hi w' v (strMarks k xs.length) := by
  obtain ⟨a, c, rfl, h3, h4, h5⟩ := h.form
  unfold maxLen at h4
  go_enter Tryz.func38, Tryz.ntmps38
  go_wp2
  go_loopw [1, 5] (fun z i wr => ∃ (q m : Nat) (ys : List ByteArray), q ≤ xs.length ∧ i = .int .i64 q ∧ z = .int .i64 m ∧ m ≤ k + 1 * q ∧ k ≤ m ∧ Hid (m = k + 1 * q) ∧ Hid (ys.length = xs.length) ∧ Hid (ys.take q = (strMarks k xs.length).take q) ∧ Out lo hi w wr ∧ Own strF 9 lo hi wr (.slice a xs.length c) ys) (fun _ i _ => xs.length - (intOf i).toNat)
  case atStart => exact ⟨0, k, xs, Nat.zero_le _, rfl, rfl, by omega, by omega, rfl, rfl, rfl, Out.refl _ _ _, h⟩
  case round =>
    obtain ⟨q, m, ys, hq, rfl, rfl, hm1, hm2, HM, HL, HT, ho, hO⟩ := hrel
    by_cases hlt : q < xs.length
    · obtain ⟨g, rfl, hlo, hhi⟩ := h5 (by omega)
      have HY := Lib.hid (take_set_self (k := q) (xs := strMarks k xs.length) (ys := ys) (by rw [strMarks_len]; exact hlt) (by rw [strMarks_len]; exact HL.out) HT.out)
      have HA := Lib.hid (strMarks_at k xs.length q (by rw [strMarks_len]; exact hlt))
      have hqy : q < ys.length := by have := HL.out; omega
      have hsz := ho.size
      go_wp2_with fail
      refine (markText_z _ m (by omega) _ (by omega) (by omega)).mono ?_
      rintro e w1 ⟨rfl, hb1⟩
      have Z1 := hb1.size
      have Q1 := hO.below hb1 (Nat.le_trans hh ho.size)
      have R1 := ho.trans (Out.of_below hb1)
      obtain ⟨u0, f0⟩ : ∃ u, w1.cell? ⟨g, q, none⟩ = some u := ⟨_, (congrArg (fun z => w1.cell? ⟨g, z, none⟩) (Nat.mul_one q).symm).trans ((Q1.cell (j := 0) HL.out.symm hqy (by decide)).trans rfl)⟩
      have g0 : w1.frozen? ⟨g, q, none⟩ = false := Q1.frozen HL.out.symm _
      go_wp2
      have EF := R1.setCell (p := ⟨g, q, none⟩) hlo hhi (.string (mt m))
      have OF := Q1.set (k := q) (j := 0) (u := .string (mt m)) (x := mt m) HL.out.symm hqy (by decide) rfl
      rw [show q * strF.size + 0 = q from Nat.mul_one q] at OF
      go_roundw
      case rel => exact ⟨q + 1, m + 1, _, by omega, by go_num, by go_num, by omega, by omega, (by have := HM.out; unfold Hid; omega), (by rw [List.length_set]; exact HL.out), (by rw [← HY.out, HA.out, ← HM.out]; rfl), EF, OF⟩
      case measure => simp [intOf]; omega
    · have HK := Lib.hid (show q = xs.length by omega)
      go_wp2
      go_ret
      have e1 := HT.out
      rw [HK.out, List.take_of_length_le (by rw [HL.out]; exact Nat.le_refl _), List.take_of_length_le (by rw [strMarks_len]; exact Nat.le_refl _)] at e1
      subst e1
      exact ⟨ret_int (by rw [HM.out, HK.out]), ho, hO⟩
theorem markStringS_z {xs : List ByteArray} {v : Value} {lo hi : Nat} (k : Nat) {z : Int} {w : World} (hz : z = (k : Nat)) (h : Own strF 9 lo hi w v xs) (hh : hi ≤ w.heap.size) (hl : xs.length ≤ 2097152) (h1 : 1 ≤ k) (h2 : k ≤ 4294967296) :
    Calls Tryz.prog 38 #[v, .int .i64 z] w fun e w' => e = .returned (.int .i64 ((k + 1 * xs.length : Nat) : Int)) ∧ Out lo hi w w' ∧ Own strF 9 lo hi w' v (strMarks k xs.length) := by
  subst hz
  exact markStringS_any xs v lo hi k w h hh hl h1 h2

set_option maxHeartbeats 1000000 in
set_option maxRecDepth 100000 in
theorem heldStringS_any (v : Value) (lo hi k n : Nat) (w : World) (hr : Rd strF.shape lo hi w v (strMarks k n)) (hh : hi ≤ w.heap.size) (hl : n ≤ 2097152) (h1 : 1 ≤ k) (h2 : k ≤ 4294967296) :
    Calls Tryz.prog 39 #[v, .int .i64 k] w fun e w' => e = .returned (.int .i64 ((k + 1 * n : Nat) : Int)) ∧ Below w.heap.size w w' := by
  have HX := Lib.hid (strMarks_len k n)
  obtain ⟨a, c, rfl, h3, h4, _, h5⟩ := hr.strF
  rw [HX.out] at h3 ⊢
  unfold maxLen at h4
  go_enter Tryz.func39, Tryz.ntmps39
  go_wp2
  go_loopw [1, 5] (fun z i wr => ∃ (q m : Nat), q ≤ n ∧ i = .int .i64 q ∧ z = .int .i64 m ∧ m ≤ k + 1 * q ∧ k ≤ m ∧ Hid (m = k + 1 * q) ∧ Below w.heap.size w wr) (fun _ i _ => n - (intOf i).toNat)
  case atStart => exact ⟨0, k, Nat.zero_le _, rfl, rfl, by omega, by omega, rfl, Below.refl _ _⟩
  case round =>
    obtain ⟨q, m, hq, rfl, rfl, hm1, hm2, HM, hb⟩ := hrel
    by_cases hlt : q < n
    · obtain ⟨b, off, rfl, hlo, hhi, c0⟩ := h5 q (by rw [HX.out]; exact hlt)
      rw [strMarks_at, ← HM.out] at c0
      have hqi : (q : Int) < (n : Int) := by omega
      have d0 : wr.cell? ⟨b, off + q, none⟩ = some (.string (mt m)) := (hb.cell (p := ⟨b, _, none⟩) (by show b < _; omega)).trans c0
      clear c0
      go_wp2_with fail
      go_region_held3 (fun w' => w'.cell? ⟨b, off + q, none⟩ = some (.string (mt m)) ∧ Below w.heap.size w w')
        (first | exact ⟨d0, hb⟩ | exact ⟨d0, hb.drew⟩ | exact keep1 (by assumption) hb' | go_keep)
        ((go_at_call 75; refine (markText_z _ m (by omega) _ (by omega) (by omega)).mono ?_; rintro e w' ⟨rfl, hb'⟩))
      clear d0
      rename_i hG1
      go_wp2
      go_roundw
      case rel => exact ⟨q + 1, m + 1, by omega, by go_num, by go_num, by omega, by omega, (by have := HM.out; unfold Hid; omega), hG1.2⟩
      case measure => simp [intOf]; omega
    · have HK := Lib.hid (show q = n by omega)
      go_wp2
      go_ret
      exact ⟨ret_int (by rw [HM.out, HK.out]), hb⟩
theorem heldStringS_z {v : Value} {lo hi : Nat} (k n : Nat) {z : Int} {w : World} (hz : z = (k : Nat)) (hr : Rd strF.shape lo hi w v (strMarks k n)) (hh : hi ≤ w.heap.size) (hl : n ≤ 2097152) (h1 : 1 ≤ k) (h2 : k ≤ 4294967296) :
    Calls Tryz.prog 39 #[v, .int .i64 z] w fun e w' => e = .returned (.int .i64 ((k + 1 * n : Nat) : Int)) ∧ Below w.heap.size w w' := by
  subst hz
  exact heldStringS_any v lo hi k n w hr hh hl h1 h2
end Go.Proofs.YtllpgomloblfjaaGreat
