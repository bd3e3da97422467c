/- BackOf of the program and of the reference: what was added is dropped, and back. -/
import Derived.Test.YthfeochekadhcaaHEdit
import Derived.Test.YthfeochekadhcaaApp
namespace Go.Proofs.Ythfeochekadhcaa
open Go.RowKit

def Edit.swap (x : Edit) : Edit := if x.kind = 2 then ⟨3, x.line⟩ else if x.kind = 3 then ⟨2, x.line⟩ else x
set_option maxHeartbeats 1000000 in
set_option maxRecDepth 100000 in
theorem backOf_impl {xs : List Edit} {v : Value} {lo hi : Nat} {w : World} (hr : Rd editF.shape lo hi w v xs) (hh : hi ≤ w.heap.size) (hl : xs.length ≤ 1048576) :
    Calls Try.prog 41 #[v] w fun e w' => ∃ u, e = .returned u ∧ Below w.heap.size w w' ∧ Own editF 91 w.heap.size w'.heap.size w' u (xs.map Edit.swap) := by
  obtain ⟨a, c, rfl, h2, h3, h4, h5⟩ := hr.editF
  unfold maxLen at h3
  obtain ⟨i0, hi0, hz0, hz1, hz2⟩ := info_parts Try.infoEdit
  obtain ⟨B, HB⟩ : ∃ B, Hid (B = w.heap.size) := ⟨_, rfl⟩
  have hBw : B ≤ w.heap.size := Nat.le_of_eq HB.out
  have hBw' : w.heap.size ≤ B := Nat.le_of_eq HB.out.symm
  go_enter Try.func41, Try.ntmps41
  go_wp2
  go_loopw [3, 8] (fun out i wr => ∃ k : Nat, k ≤ xs.length ∧ i = .int .i64 k ∧ Below B w wr ∧ Own editF 91 B wr.heap.size wr out ((xs.take k).map Edit.swap)) (fun _ i _ => xs.length - (intOf i).toNat)
  case atStart => exact ⟨0, Nat.zero_le _, rfl, Below.refl _ _, Own.nil _ _ _ _ _⟩
  case round =>
    obtain ⟨k, hk, rfl, hb, hO⟩ := hrel
    by_cases hlt : k < xs.length
    · obtain ⟨b, off, rfl, hlo, hhi, c0, c1⟩ := h5 k hlt
      have d0 := (hb.cell (p := ⟨b, _, none⟩) (by show b < _; omega)).trans c0
      have d1 := (hb.cell (p := ⟨b, _, none⟩) (by show b < _; omega)).trans c1
      have HS := Lib.hid (map_take_succ Edit.swap hlt)
      have hsz := hb.size
      have hml : ((xs.take k).map Edit.swap).length ≤ 1048576 := by rw [List.length_map]; exact Nat.le_trans (List.length_take_le _ _) (by omega)
      clear c0 c1
      generalize xs[k] = x at *
      obtain ⟨kd, ln⟩ := x
      simp only at d0 d1
      have fin : ∀ (y : Edit) (K : Value → World → Prop) , True := fun _ _ => trivial
      clear fin
      by_cases e2 : kd = 2
      · have HY : Hid (Edit.swap ⟨kd, ln⟩ = ⟨3, ln⟩) := by rw [e2]; rfl
        have t2 : (kd == 2) = true := by rw [e2]; rfl
        clear e2
        go_wp2_with (at_builtin; refine wp_app1 (F := editF) (P := Try.prog) (y := ⟨3, ln⟩) rfl (.tmp 20) (.tmp 22) 35 rfl Try.underlying35 hi0 hz0 hz1 hz2 rfl (by decide) rfl ((hO.alloc _).alloc _) (wr.heap.size + 1) rfl (heap_alloc2_new _ _ _) rfl (by omega) (by omega) (by simp; omega) ?_; intro v' w' hO' hb')
        go_roundw
        case rel => exact ⟨k + 1, by omega, by go_num, hb.trans (blw_al2 hb' (by omega)), (by rw [HS.out, HY.out]; exact hO')⟩
        case measure => simp [intOf]; omega
      · have t2 : (kd == 2) = false := beq_eq_false_iff_ne.2 e2
        by_cases e3 : kd = 3
        · have HY : Hid (Edit.swap ⟨kd, ln⟩ = ⟨2, ln⟩) := by rw [e3]; rfl
          have t3 : (kd == 3) = true := by rw [e3]; rfl
          clear e2 e3
          go_wp2_with (at_builtin; refine wp_app1 (F := editF) (P := Try.prog) (y := ⟨2, ln⟩) rfl (.tmp 20) (.tmp 22) 35 rfl Try.underlying35 hi0 hz0 hz1 hz2 rfl (by decide) rfl ((hO.alloc _).alloc _) (wr.heap.size + 1) rfl (heap_alloc2_new _ _ _) rfl (by omega) (by omega) (by simp; omega) ?_; intro v' w' hO' hb')
          go_roundw
          case rel => exact ⟨k + 1, by omega, by go_num, hb.trans (blw_al2 hb' (by omega)), (by rw [HS.out, HY.out]; exact hO')⟩
          case measure => simp [intOf]; omega
        · have HY : Hid (Edit.swap ⟨kd, ln⟩ = ⟨kd, ln⟩) := by simp [Edit.swap, e2, e3, Hid]
          have t3 : (kd == 3) = false := beq_eq_false_iff_ne.2 e3
          clear e2 e3
          go_wp2_with (at_builtin; refine wp_app1 (F := editF) (P := Try.prog) (y := ⟨kd, ln⟩) rfl (.tmp 20) (.tmp 22) 35 rfl Try.underlying35 hi0 hz0 hz1 hz2 rfl (by decide) rfl ((hO.alloc _).alloc _) (wr.heap.size + 1) rfl (heap_alloc2_new _ _ _) rfl (by omega) (by omega) (by simp; omega) ?_; intro v' w' hO' hb')
          go_roundw
          case rel => exact ⟨k + 1, by omega, by go_num, hb.trans (blw_al2 hb' (by omega)), (by rw [HS.out, HY.out]; exact hO')⟩
          case measure => simp [intOf]; omega
    · have HK := Lib.hid (show xs.take k = xs from List.take_of_length_le (by omega))
      go_wp2
      go_ret
      rw [HK.out] at hO
      have e := HB.out
      subst e
      exact ⟨_, rfl, hb, hO⟩
set_option maxHeartbeats 1000000 in
set_option maxRecDepth 100000 in
theorem backOf_spec {xs : List Edit} {v : Value} {lo hi : Nat} {w : World} (hr : Rd editF.shape lo hi w v xs) (hh : hi ≤ w.heap.size) (hl : xs.length ≤ 1048576) :
    Calls Try.prog 50 #[v] w fun e w' => ∃ u, e = .returned u ∧ Below w.heap.size w w' ∧ Own editF 91 w.heap.size w'.heap.size w' u (xs.map Edit.swap) := by
  obtain ⟨a, c, rfl, h2, h3, h4, h5⟩ := hr.editF
  unfold maxLen at h3
  obtain ⟨i0, hi0, hz0, hz1, hz2⟩ := info_parts Try.infoEdit
  obtain ⟨B, HB⟩ : ∃ B, Hid (B = w.heap.size) := ⟨_, rfl⟩
  have hBw : B ≤ w.heap.size := Nat.le_of_eq HB.out
  have hBw' : w.heap.size ≤ B := Nat.le_of_eq HB.out.symm
  go_enter Try.func50, Try.ntmps50
  go_wp2
  go_loopw [3, 4] (fun out i wr => ∃ k : Nat, k ≤ xs.length ∧ i = .int .i64 k ∧ Below B w wr ∧ Own editF 91 B wr.heap.size wr out ((xs.take k).map Edit.swap)) (fun _ i _ => xs.length - (intOf i).toNat)
  case atStart => exact ⟨0, Nat.zero_le _, rfl, (Below.refl _ _).alloc hBw _, Own.empty _ _ _ _ hBw⟩
  case round =>
    obtain ⟨k, hk, rfl, hb, hO⟩ := hrel
    by_cases hlt : k < xs.length
    · obtain ⟨b, off, rfl, hlo, hhi, c0, c1⟩ := h5 k hlt
      have d0 := (hb.cell (p := ⟨b, _, none⟩) (by show b < _; omega)).trans c0
      have d1 := (hb.cell (p := ⟨b, _, none⟩) (by show b < _; omega)).trans c1
      have HS := Lib.hid (map_take_succ Edit.swap hlt)
      have hsz := hb.size
      have hml : ((xs.take k).map Edit.swap).length ≤ 1048576 := by rw [List.length_map]; exact Nat.le_trans (List.length_take_le _ _) (by omega)
      clear c0 c1
      generalize xs[k] = x at *
      obtain ⟨kd, ln⟩ := x
      simp only at d0 d1
      have fin : ∀ (y : Edit) (K : Value → World → Prop) , True := fun _ _ => trivial
      clear fin
      by_cases e2 : kd = 2
      · have HY : Hid (Edit.swap ⟨kd, ln⟩ = ⟨3, ln⟩) := by rw [e2]; rfl
        have t2 : (kd == 2) = true := by rw [e2]; rfl
        clear e2
        go_wp2_with (at_builtin; refine wp_app1 (F := editF) (P := Try.prog) (y := ⟨3, ln⟩) rfl (.tmp 25) (.tmp 27) 35 rfl Try.underlying35 hi0 hz0 hz1 hz2 rfl (by decide) rfl ((hO.alloc _).alloc _) (wr.heap.size + 1) rfl (heap_alloc2_new _ _ _) rfl (by omega) (by omega) (by simp; omega) ?_; intro v' w' hO' hb')
        go_roundw
        case rel => exact ⟨k + 1, by omega, by go_num, hb.trans (blw_al2 hb' (by omega)), (by rw [HS.out, HY.out]; exact hO')⟩
        case measure => simp [intOf]; omega
      · have t2 : (kd == 2) = false := beq_eq_false_iff_ne.2 e2
        by_cases e3 : kd = 3
        · have HY : Hid (Edit.swap ⟨kd, ln⟩ = ⟨2, ln⟩) := by rw [e3]; rfl
          have t3 : (kd == 3) = true := by rw [e3]; rfl
          clear e2 e3
          go_wp2_with (at_builtin; refine wp_app1 (F := editF) (P := Try.prog) (y := ⟨2, ln⟩) rfl (.tmp 25) (.tmp 27) 35 rfl Try.underlying35 hi0 hz0 hz1 hz2 rfl (by decide) rfl ((hO.alloc _).alloc _) (wr.heap.size + 1) rfl (heap_alloc2_new _ _ _) rfl (by omega) (by omega) (by simp; omega) ?_; intro v' w' hO' hb')
          go_roundw
          case rel => exact ⟨k + 1, by omega, by go_num, hb.trans (blw_al2 hb' (by omega)), (by rw [HS.out, HY.out]; exact hO')⟩
          case measure => simp [intOf]; omega
        · have HY : Hid (Edit.swap ⟨kd, ln⟩ = ⟨kd, ln⟩) := by simp [Edit.swap, e2, e3, Hid]
          have t3 : (kd == 3) = false := beq_eq_false_iff_ne.2 e3
          clear e2 e3
          go_wp2_with (at_builtin; refine wp_app1 (F := editF) (P := Try.prog) (y := ⟨kd, ln⟩) rfl (.tmp 25) (.tmp 27) 35 rfl Try.underlying35 hi0 hz0 hz1 hz2 rfl (by decide) rfl ((hO.alloc _).alloc _) (wr.heap.size + 1) rfl (heap_alloc2_new _ _ _) rfl (by omega) (by omega) (by simp; omega) ?_; intro v' w' hO' hb')
          go_roundw
          case rel => exact ⟨k + 1, by omega, by go_num, hb.trans (blw_al2 hb' (by omega)), (by rw [HS.out, HY.out]; exact hO')⟩
          case measure => simp [intOf]; omega
    · have HK := Lib.hid (show xs.take k = xs from List.take_of_length_le (by omega))
      go_wp2
      go_ret
      rw [HK.out] at hO
      have e := HB.out
      subst e
      exact ⟨_, rfl, hb, hO⟩
end Go.Proofs.Ythfeochekadhcaa
