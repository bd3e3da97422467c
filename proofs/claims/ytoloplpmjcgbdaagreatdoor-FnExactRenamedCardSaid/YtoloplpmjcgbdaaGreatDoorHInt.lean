/- Int: how it lies in memory; the law's helpers for it. By gen.py. -/
import Derived.Test.YtoloplpmjcgbdaaGreatDoorMark
namespace Go.Proofs.YtoloplpmjcgbdaaGreatDoor
open Go.RowKit
theorem Rd.intF {lo hi : Nat} {w : World} {v : Value} {xs : List Int} (h : Rd intF.shape lo hi w v xs) :
    ∃ a c, v = .slice a xs.length c ∧ xs.length ≤ c ∧ c ≤ maxLen ∧ (a = none → c = 0) ∧
      ∀ k (h : k < xs.length), ∃ b off, a = some ⟨b, off, none⟩ ∧ lo ≤ b ∧ b < hi ∧ w.cell? ⟨b, off + k, none⟩ = some (.int .i64 xs[k]) := by
  obtain ⟨a, c, h1, h2, h3, h4, h5⟩ := h
  refine ⟨a, c, h1, h2, h3, h4, fun k hk => ?_⟩
  obtain ⟨b, off, cs, e1, e2, e3, rfl, e5⟩ := h5 k hk
  have e : w.cell? ⟨b, off + k * 1 + 0, none⟩ = some (.int .i64 xs[k]) := e5 0 _ rfl
  rw [Nat.mul_one] at e
  exact ⟨b, off, e1, e2, e3, e⟩
def intWts (xs : List Int) : Nat := xs.length
theorem intWts_ge (xs : List Int) : xs.length ≤ intWts xs := Nat.le_refl _
set_option maxHeartbeats 400000 in
theorem szIntS_any (xs : List Int) (v : Value) (lo hi : Nat) (left : Int) (w : World) (hr : Rd intF.shape lo hi w v xs) (_hh : hi ≤ w.heap.size) (h0 : 0 ≤ left) (h1 : left ≤ 1048576) :
    Calls Tryz.prog 39 #[v, .int .i64 left] w fun e w' => e = .returned (.int .i64 (szR left (intWts xs))) ∧ Below w.heap.size w w' := by
  have hl := hr.len_le
  obtain ⟨a, c, rfl, h2, h3, h4, h5⟩ := hr.intF
  unfold maxLen at h3
  unfold intWts
  by_cases hc : left - (xs.length : Int) < 0
  · go_enter Tryz.func39, Tryz.ntmps39
    go_wp2
    go_ret
    exact ⟨ret_int (szR_no (by omega)), (Below.refl _ _)⟩
  · go_enter Tryz.func39, Tryz.ntmps39
    go_wp2
    go_ret
    exact ⟨ret_int (szR_yes (by omega)), (Below.refl _ _)⟩

theorem Tryz.infoInt : (Tryz.prog.info? 3).map (fun i => (i.zero, i.size, i.bytes)) = some (some (.int .i64 0), 1, 8) := by kernel_rfl
set_option maxHeartbeats 400000 in
set_option maxRecDepth 100000 in
theorem toIntS_any (xs : List Int) (v : Value) (lo hi : Nat) (w : World) (hr : Rd intF.shape lo hi w v xs) (hh : hi ≤ w.heap.size) (hl : xs.length ≤ 1048576) :
    Calls Tryz.prog 48 #[v] w fun e w' => ∃ u, e = .returned u ∧ Below w.heap.size w w' ∧ Own intF 3 w.heap.size w'.heap.size w' u xs := by
  obtain ⟨a, c, rfl, h2, h3, h4, h5⟩ := hr.intF
  unfold maxLen at h3
  obtain ⟨i0, hi0, hz0, hz1, hz2⟩ := info_parts Tryz.infoInt
  go_enter Tryz.func48, Tryz.ntmps48
  go_wp2_with (at_make; refine wpList_make_full _ rfl _ _ 34 rfl w.heap.size 3 i0 _ 1 Tryz.underlying34 hi0 hz0 hz1 _ _ _ _ xs.length rfl rfl rfl rfl ?b1 ?b2 ?b3 ?_)
  case b1 => rw [hz2]; omega
  case b2 => unfold maxLen; omega
  case b3 => exact Nat.le_refl _
  intro w1 hown hg
  have hb1 : Below w.heap.size w w1 := (Below.refl _ _).grown hg (Nat.le_refl _) (fun k hk => by cases hk)
  have hO : Own intF 3 w.heap.size w1.heap.size w1 (.slice (some ⟨w.heap.size, 0, none⟩) xs.length xs.length) (List.replicate xs.length 0) :=
    Own.of_row hown (by simp) (by have h := made_cells intF (by decide) 0 #[.int .i64 0] rfl xs.length; rw [show xs.length * intF.size = xs.length from Nat.mul_one _] at h; exact h) (Nat.le_refl _)
  clear hown hg
  generalize hB : w.heap.size = B at *
  go_wp2
  go_loopw [4] (fun i wr => ∃ (k : Nat) (ys : List Int), k ≤ xs.length ∧ i = .int .i64 k ∧ ys.length = xs.length ∧ ys.take k = xs.take k ∧ Below B w wr ∧ Own intF 3 B wr.heap.size wr (.slice (some ⟨B, 0, none⟩) xs.length xs.length) ys) (fun i _ => xs.length - (intOf i).toNat)
  case atStart => exact ⟨0, List.replicate xs.length 0, Nat.zero_le _, rfl, by simp, by simp, hb1, hO⟩
  case round =>
    obtain ⟨k, ys, hk, rfl, hyl, hyt, hb, hO⟩ := hrel
    by_cases hlt : k < xs.length
    · obtain ⟨b, off, rfl, hlo, hhi, c0⟩ := h5 k hlt
      have d0 := (hb.cell (p := ⟨b, _, none⟩) (by show b < _; omega)).trans c0
      have hy := Lib.hid (take_set_self hlt hyl hyt)
      have hyl' := Lib.hid hyl
      obtain ⟨u0, f0⟩ : ∃ u, wr.cell? ⟨B, k, none⟩ = some u := ⟨_, (congrArg (fun q => wr.cell? ⟨B, q, none⟩) (Nat.mul_one k).symm).trans ((hO.cell (j := 0) hyl.symm (by omega) (by decide)).trans rfl)⟩
      have g0 : wr.frozen? ⟨B, k, none⟩ = false := hO.frozen hyl.symm _
      clear c0 hyt hyl
      go_wp2
      have hb3 : Below B w (wr.setCell ⟨B, k, none⟩ (.int .i64 xs[k])) := hb.setCell (p := ⟨B, k, none⟩) (Nat.le_refl _) _
      have hO3 : Own intF 3 B (wr.setCell ⟨B, k, none⟩ (.int .i64 xs[k])).heap.size (wr.setCell ⟨B, k, none⟩ (.int .i64 xs[k])) (.slice (some ⟨B, 0, none⟩) xs.length xs.length) (ys.set k xs[k]) := by
        have h := hO.set (k := k) (j := 0) (u := .int .i64 xs[k]) (x := xs[k]) hyl'.out.symm (by rw [hyl'.out]; omega) (by decide) rfl
        rw [show k * intF.size + 0 = k from Nat.mul_one k] at h
        exact h.wide (Nat.le_refl _) (by simp [World.setCell])
      go_roundw
      case rel => exact ⟨k + 1, _, by omega, by go_num, by simpa using hyl'.out, hy.out, hb3, hO3⟩
      case measure => simp [intOf]; omega
    · have hkk : k = xs.length := by omega
      have HK := Lib.hid hkk
      clear hkk
      go_wp2
      go_ret
      have e := HK.out
      subst e
      rw [List.take_length, List.take_of_length_le (by omega)] at hyt
      subst hyt
      subst hB
      exact ⟨_, rfl, hb, hO⟩

set_option maxHeartbeats 400000 in
set_option maxRecDepth 100000 in
theorem eqIntS_any (xs : List Int) (v u : Value) (lo hi lo' hi' : Nat) (w : World) (hr : Rd intF.shape lo hi w v xs) (hh : hi ≤ w.heap.size) (hr' : Rd intF.shape lo' hi' w u xs) (hh' : hi' ≤ w.heap.size) :
    Calls Tryz.prog 53 #[v, u] w fun e w' => e = .returned (.bool true) ∧ Below w.heap.size w w' := by
  have hl := hr.len_le
  obtain ⟨a, c, rfl, h2, h3, h4, h5⟩ := hr.intF
  obtain ⟨a', c', rfl, h2', h3', h4', h5'⟩ := hr'.intF
  unfold maxLen at h3 h3'
  go_enter Tryz.func53, Tryz.ntmps53
  go_wp2
  go_loopw [5] (fun i wr => ∃ k : Nat, k ≤ xs.length ∧ i = .int .i64 k ∧ Below w.heap.size w wr) (fun i _ => xs.length - (intOf i).toNat)
  case atStart => exact ⟨0, Nat.zero_le _, rfl, Below.refl _ _⟩
  case round =>
    obtain ⟨k, hk, rfl, hb⟩ := hrel
    by_cases hlt : k < xs.length
    · obtain ⟨b, off, rfl, hlo, hhi, c0⟩ := h5 k hlt
      obtain ⟨b', off', rfl, hlo', hhi', q0⟩ := h5' k hlt
      have d0 := (hb.cell (p := ⟨b, _, none⟩) (by show b < _; omega)).trans c0
      have r0 := (hb.cell (p := ⟨b', _, none⟩) (by show b' < _; omega)).trans q0
      clear c0 q0
      have hki : (k : Int) < (xs.length : Int) := by omega
      generalize xs[k] = x at *
      go_wp2_with fail
      go_quiet (fail)
      go_wp2
      go_roundw
      case rel => exact ⟨k + 1, by omega, by go_num, blw_drewN hb _⟩
      case measure => simp [intOf]; omega
    · go_wp2
      go_ret
      exact ⟨rfl, hb⟩

def intMarks (k n : Nat) : List Int := (List.range n).map fun i => ((k + 1 * i : Nat) : Int)
theorem intMarks_len (k n : Nat) : (intMarks k n).length = n := by simp [intMarks]
theorem intMarks_at (k n i : Nat) (h : i < (intMarks k n).length) : (intMarks k n)[i] = ((k + 1 * i : Nat) : Int) := by simp [intMarks]

set_option maxHeartbeats 1000000 in
set_option maxRecDepth 100000 in
theorem markIntS_any (xs : List Int) (v : Value) (lo hi k : Nat) (w : World) (h : Own intF 3 lo hi w v xs) (_hh : hi ≤ w.heap.size) (hl : xs.length ≤ 2097152) (h1 : 1 ≤ k) (h2 : k ≤ 4294967296) :
    Calls Tryz.prog 37 #[v, .int .i64 k] w fun e w' => e = .returned (.int .i64 ((k + 1 * xs.length : Nat) : Int)) ∧ Out lo hi w w' ∧ Own intF 3 lo hi w' v (intMarks k xs.length) := by
  obtain ⟨a, c, rfl, h3, h4, h5⟩ := h.form
  unfold maxLen at h4
  go_enter Tryz.func37, Tryz.ntmps37
  go_wp2
  go_loopw [1, 5] (fun z i wr => ∃ (q m : Nat) (ys : List Int), q ≤ xs.length ∧ i = .int .i64 q ∧ z = .int .i64 m ∧ m ≤ k + 1 * q ∧ k ≤ m ∧ Hid (m = k + 1 * q) ∧ Hid (ys.length = xs.length) ∧ Hid (ys.take q = (intMarks k xs.length).take q) ∧ Out lo hi w wr ∧ Own intF 3 lo hi wr (.slice a xs.length c) ys) (fun _ i _ => xs.length - (intOf i).toNat)
  case atStart => exact ⟨0, k, xs, Nat.zero_le _, rfl, rfl, by omega, by omega, rfl, rfl, rfl, Out.refl _ _ _, h⟩
  case round =>
    obtain ⟨q, m, ys, hq, rfl, rfl, hm1, hm2, HM, HL, HT, ho, hO⟩ := hrel
    by_cases hlt : q < xs.length
    · obtain ⟨g, rfl, hlo, hhi⟩ := h5 (by omega)
      have HY := Lib.hid (take_set_self (k := q) (xs := intMarks k xs.length) (ys := ys) (by rw [intMarks_len]; exact hlt) (by rw [intMarks_len]; exact HL.out) HT.out)
      have HA := Lib.hid (intMarks_at k xs.length q (by rw [intMarks_len]; exact hlt))
      have hqy : q < ys.length := by have := HL.out; omega
      have hsz := ho.size
      obtain ⟨u0, f0⟩ : ∃ u, wr.cell? ⟨g, q, none⟩ = some u := ⟨_, (congrArg (fun z => wr.cell? ⟨g, z, none⟩) (Nat.mul_one q).symm).trans ((hO.cell (j := 0) HL.out.symm hqy (by decide)).trans rfl)⟩
      have g0 : wr.frozen? ⟨g, q, none⟩ = false := hO.frozen HL.out.symm _
      go_wp2
      have EF := ho.setCell (p := ⟨g, q, none⟩) hlo hhi (.int .i64 (((m : Nat) : Int)))
      have OF := hO.set (k := q) (j := 0) (u := .int .i64 (((m : Nat) : Int))) (x := ((m : Nat) : Int)) HL.out.symm hqy (by decide) rfl
      rw [show q * intF.size + 0 = q from Nat.mul_one q] at OF
      go_roundw
      case rel => exact ⟨q + 1, m + 1, _, by omega, by go_num, by go_num, by omega, by omega, (by have := HM.out; unfold Hid; omega), (by rw [List.length_set]; exact HL.out), (by rw [← HY.out, HA.out, ← HM.out]; rfl), EF, OF⟩
      case measure => simp [intOf]; omega
    · have HK := Lib.hid (show q = xs.length by omega)
      go_wp2
      go_ret
      have e1 := HT.out
      rw [HK.out, List.take_of_length_le (by rw [HL.out]; exact Nat.le_refl _), List.take_of_length_le (by rw [intMarks_len]; exact Nat.le_refl _)] at e1
      subst e1
      exact ⟨ret_int (by rw [HM.out, HK.out]), ho, hO⟩
theorem markIntS_z {xs : List Int} {v : Value} {lo hi : Nat} (k : Nat) {z : Int} {w : World} (hz : z = (k : Nat)) (h : Own intF 3 lo hi w v xs) (hh : hi ≤ w.heap.size) (hl : xs.length ≤ 2097152) (h1 : 1 ≤ k) (h2 : k ≤ 4294967296) :
    Calls Tryz.prog 37 #[v, .int .i64 z] w fun e w' => e = .returned (.int .i64 ((k + 1 * xs.length : Nat) : Int)) ∧ Out lo hi w w' ∧ Own intF 3 lo hi w' v (intMarks k xs.length) := by
  subst hz
  exact markIntS_any xs v lo hi k w h hh hl h1 h2

set_option maxHeartbeats 1000000 in
set_option maxRecDepth 100000 in
theorem heldIntS_any (v : Value) (lo hi k n : Nat) (w : World) (hr : Rd intF.shape lo hi w v (intMarks k n)) (hh : hi ≤ w.heap.size) (hl : n ≤ 2097152) (h1 : 1 ≤ k) (h2 : k ≤ 4294967296) :
    Calls Tryz.prog 38 #[v, .int .i64 k] w fun e w' => e = .returned (.int .i64 ((k + 1 * n : Nat) : Int)) ∧ Below w.heap.size w w' := by
  have HX := Lib.hid (intMarks_len k n)
  obtain ⟨a, c, rfl, h3, h4, _, h5⟩ := hr.intF
  rw [HX.out] at h3 ⊢
  unfold maxLen at h4
  go_enter Tryz.func38, Tryz.ntmps38
  go_wp2
  go_loopw [1, 5] (fun z i wr => ∃ (q m : Nat), q ≤ n ∧ i = .int .i64 q ∧ z = .int .i64 m ∧ m ≤ k + 1 * q ∧ k ≤ m ∧ Hid (m = k + 1 * q) ∧ Below w.heap.size w wr) (fun _ i _ => n - (intOf i).toNat)
  case atStart => exact ⟨0, k, Nat.zero_le _, rfl, rfl, by omega, by omega, rfl, Below.refl _ _⟩
  case round =>
    obtain ⟨q, m, hq, rfl, rfl, hm1, hm2, HM, hb⟩ := hrel
    by_cases hlt : q < n
    · obtain ⟨b, off, rfl, hlo, hhi, c0⟩ := h5 q (by rw [HX.out]; exact hlt)
      rw [intMarks_at, ← HM.out] at c0
      have hqi : (q : Int) < (n : Int) := by omega
      have d0 : wr.cell? ⟨b, off + q, none⟩ = some (.int .i64 (((m : Nat) : Int))) := (hb.cell (p := ⟨b, _, none⟩) (by show b < _; omega)).trans c0
      clear c0
      go_wp2
      go_roundw
      case rel => exact ⟨q + 1, m + 1, by omega, by go_num, by go_num, by omega, by omega, (by have := HM.out; unfold Hid; omega), hb⟩
      case measure => simp [intOf]; omega
    · have HK := Lib.hid (show q = n by omega)
      go_wp2
      go_ret
      exact ⟨ret_int (by rw [HM.out, HK.out]), hb⟩
theorem heldIntS_z {v : Value} {lo hi : Nat} (k n : Nat) {z : Int} {w : World} (hz : z = (k : Nat)) (hr : Rd intF.shape lo hi w v (intMarks k n)) (hh : hi ≤ w.heap.size) (hl : n ≤ 2097152) (h1 : 1 ≤ k) (h2 : k ≤ 4294967296) :
    Calls Tryz.prog 38 #[v, .int .i64 z] w fun e w' => e = .returned (.int .i64 ((k + 1 * n : Nat) : Int)) ∧ Below w.heap.size w w' := by
  subst hz
  exact heldIntS_any v lo hi k n w hr hh hl h1 h2
end Go.Proofs.YtoloplpmjcgbdaaGreatDoor
