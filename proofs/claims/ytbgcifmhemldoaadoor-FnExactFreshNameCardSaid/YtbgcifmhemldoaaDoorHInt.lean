/- Int: how it lies in memory; the law's helpers for it. By gen.py. -/
import Derived.Test.YtbgcifmhemldoaaDoorMark
namespace Go.Proofs.YtbgcifmhemldoaaDoor
open Go.RowKit
theorem Rd.intF {lo hi : Nat} {w : World} {v : Value} {xs : List Int} (h : Rd intF.shape lo hi w v xs) :
    ∃ a c, v = .slice a xs.length c ∧ xs.length ≤ c ∧ c ≤ maxLen ∧ (a = none → c = 0) ∧
      ∀ k (h : k < xs.length), ∃ b off, a = some ⟨b, off, none⟩ ∧ lo ≤ b ∧ b < hi ∧ w.cell? ⟨b, off + k, none⟩ = some (.int .i64 xs[k]) := by
  obtain ⟨a, c, h1, h2, h3, h4, h5⟩ := h
  refine ⟨a, c, h1, h2, h3, h4, fun k hk => ?_⟩
  obtain ⟨b, off, cs, e1, e2, e3, rfl, e5⟩ := h5 k hk
  have e : w.cell? ⟨b, off + k * 1 + 0, none⟩ = some (.int .i64 xs[k]) := e5 0 _ rfl
  rw [Nat.mul_one] at e
  exact ⟨b, off, e1, e2, e3, e⟩
def intWts (xs : List Int) : Nat := xs.length
theorem intWts_ge (xs : List Int) : xs.length ≤ intWts xs := Nat.le_refl _
set_option maxHeartbeats 400000 in
theorem szIntS_any (xs : List Int) (v : Value) (lo hi : Nat) (left : Int) (w : World) (hr : Rd intF.shape lo hi w v xs) (_hh : hi ≤ w.heap.size) (h0 : 0 ≤ left) (h1 : left ≤ 1048576) :
    Calls Tryd.prog 36 #[v, .int .i64 left] w fun e w' => e = .returned (.int .i64 (szR left (intWts xs))) ∧ Below w.heap.size w w' := by
  have hl := hr.len_le
  obtain ⟨a, c, rfl, h2, h3, h4, h5⟩ := hr.intF
  unfold maxLen at h3
  unfold intWts
  by_cases hc : left - (xs.length : Int) < 0
  · go_enter Tryd.func36, Tryd.ntmps36
    go_wp2
    go_ret
    exact ⟨ret_int (szR_no (by omega)), (Below.refl _ _)⟩
  · go_enter Tryd.func36, Tryd.ntmps36
    go_wp2
    go_ret
    exact ⟨ret_int (szR_yes (by omega)), (Below.refl _ _)⟩

theorem Tryd.infoInt : (Tryd.prog.info? 3).map (fun i => (i.zero, i.size, i.bytes)) = some (some (.int .i64 0), 1, 8) := by kernel_rfl
set_option maxHeartbeats 400000 in
set_option maxRecDepth 100000 in
theorem toIntS_any (xs : List Int) (v : Value) (lo hi : Nat) (w : World) (hr : Rd intF.shape lo hi w v xs) (hh : hi ≤ w.heap.size) (hl : xs.length ≤ 1048576) :
    Calls Tryd.prog 41 #[v] w fun e w' => ∃ u, e = .returned u ∧ Below w.heap.size w w' ∧ Own intF 3 w.heap.size w'.heap.size w' u xs := by
  obtain ⟨a, c, rfl, h2, h3, h4, h5⟩ := hr.intF
  unfold maxLen at h3
  obtain ⟨i0, hi0, hz0, hz1, hz2⟩ := info_parts Tryd.infoInt
  go_enter Tryd.func41, Tryd.ntmps41
  go_wp2_with (at_make; refine wpList_make_full _ rfl _ _ 35 rfl w.heap.size 3 i0 _ 1 Tryd.underlying35 hi0 hz0 hz1 _ _ _ _ xs.length rfl rfl rfl rfl ?b1 ?b2 ?b3 ?_)
  case b1 => rw [hz2]; omega
  case b2 => unfold maxLen; omega
  case b3 => exact Nat.le_refl _
  intro w1 hown hg
  have hb1 : Below w.heap.size w w1 := (Below.refl _ _).grown hg (Nat.le_refl _) (fun k hk => by cases hk)
  have hO : Own intF 3 w.heap.size w1.heap.size w1 (.slice (some ⟨w.heap.size, 0, none⟩) xs.length xs.length) (List.replicate xs.length 0) :=
    Own.of_row hown (by simp) (by have h := made_cells intF (by decide) 0 #[.int .i64 0] rfl xs.length; rw [show xs.length * intF.size = xs.length from Nat.mul_one _] at h; exact h) (Nat.le_refl _)
  clear hown hg
  generalize hB : w.heap.size = B at *
  go_wp2
  go_loopw [4] (fun i wr => ∃ (k : Nat) (ys : List Int), k ≤ xs.length ∧ i = .int .i64 k ∧ ys.length = xs.length ∧ ys.take k = xs.take k ∧ Below B w wr ∧ Own intF 3 B wr.heap.size wr (.slice (some ⟨B, 0, none⟩) xs.length xs.length) ys) (fun i _ => xs.length - (intOf i).toNat)
  case atStart => exact ⟨0, List.replicate xs.length 0, Nat.zero_le _, rfl, by simp, by simp, hb1, hO⟩
  case round =>
    obtain ⟨k, ys, hk, rfl, hyl, hyt, hb, hO⟩ := hrel
    by_cases hlt : k < xs.length
    · obtain ⟨b, off, rfl, hlo, hhi, c0⟩ := h5 k hlt
      have d0 := (hb.cell (p := ⟨b, _, none⟩) (by show b < _; omega)).trans c0
      have hy := Lib.hid (take_set_self hlt hyl hyt)
      have hyl' := Lib.hid hyl
      obtain ⟨u0, f0⟩ : ∃ u, wr.cell? ⟨B, k, none⟩ = some u := ⟨_, (congrArg (fun q => wr.cell? ⟨B, q, none⟩) (Nat.mul_one k).symm).trans ((hO.cell (j := 0) hyl.symm (by omega) (by decide)).trans rfl)⟩
      have g0 : wr.frozen? ⟨B, k, none⟩ = false := hO.frozen hyl.symm _
      clear c0 hyt hyl
      go_wp2
      have hb3 : Below B w (wr.setCell ⟨B, k, none⟩ (.int .i64 xs[k])) := hb.setCell (p := ⟨B, k, none⟩) (Nat.le_refl _) _
      have hO3 : Own intF 3 B (wr.setCell ⟨B, k, none⟩ (.int .i64 xs[k])).heap.size (wr.setCell ⟨B, k, none⟩ (.int .i64 xs[k])) (.slice (some ⟨B, 0, none⟩) xs.length xs.length) (ys.set k xs[k]) := by
        have h := hO.set (k := k) (j := 0) (u := .int .i64 xs[k]) (x := xs[k]) hyl'.out.symm (by rw [hyl'.out]; omega) (by decide) rfl
        rw [show k * intF.size + 0 = k from Nat.mul_one k] at h
        exact h.wide (Nat.le_refl _) (by simp [World.setCell])
      go_roundw
      case rel => exact ⟨k + 1, _, by omega, by go_num, by simpa using hyl'.out, hy.out, hb3, hO3⟩
      case measure => simp [intOf]; omega
    · have hkk : k = xs.length := by omega
      have HK := Lib.hid hkk
      clear hkk
      go_wp2
      go_ret
      have e := HK.out
      subst e
      rw [List.take_length, List.take_of_length_le (by omega)] at hyt
      subst hyt
      subst hB
      exact ⟨_, rfl, hb, hO⟩

set_option maxHeartbeats 400000 in
set_option maxRecDepth 100000 in
theorem eqIntS_any (xs : List Int) (v u : Value) (lo hi lo' hi' : Nat) (w : World) (hr : Rd intF.shape lo hi w v xs) (hh : hi ≤ w.heap.size) (hr' : Rd intF.shape lo' hi' w u xs) (hh' : hi' ≤ w.heap.size) :
    Calls Tryd.prog 45 #[v, u] w fun e w' => e = .returned (.bool true) ∧ Below w.heap.size w w' := by
  have hl := hr.len_le
  obtain ⟨a, c, rfl, h2, h3, h4, h5⟩ := hr.intF
  obtain ⟨a', c', rfl, h2', h3', h4', h5'⟩ := hr'.intF
  unfold maxLen at h3 h3'
  go_enter Tryd.func45, Tryd.ntmps45
  go_wp2
  go_loopw [5] (fun i wr => ∃ k : Nat, k ≤ xs.length ∧ i = .int .i64 k ∧ Below w.heap.size w wr) (fun i _ => xs.length - (intOf i).toNat)
  case atStart => exact ⟨0, Nat.zero_le _, rfl, Below.refl _ _⟩
  case round =>
    obtain ⟨k, hk, rfl, hb⟩ := hrel
    by_cases hlt : k < xs.length
    · obtain ⟨b, off, rfl, hlo, hhi, c0⟩ := h5 k hlt
      obtain ⟨b', off', rfl, hlo', hhi', q0⟩ := h5' k hlt
      have d0 := (hb.cell (p := ⟨b, _, none⟩) (by show b < _; omega)).trans c0
      have r0 := (hb.cell (p := ⟨b', _, none⟩) (by show b' < _; omega)).trans q0
      clear c0 q0
      have hki : (k : Int) < (xs.length : Int) := by omega
      generalize xs[k] = x at *
      go_wp2_with fail
      go_quiet (fail)
      go_wp2
      go_roundw
      case rel => exact ⟨k + 1, by omega, by go_num, blw_drewN hb _⟩
      case measure => simp [intOf]; omega
    · go_wp2
      go_ret
      exact ⟨rfl, hb⟩
end Go.Proofs.YtbgcifmhemldoaaDoor
