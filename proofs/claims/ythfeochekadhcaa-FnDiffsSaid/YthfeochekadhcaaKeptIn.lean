/- KeptIn of the program and of the reference: both count the edits of kind 1. -/
import Derived.Test.YthfeochekadhcaaHEdit
namespace Go.Proofs.Ythfeochekadhcaa
open Go.RowKit

def isKept (x : Edit) : Bool := x.kind == 1
set_option maxHeartbeats 400000 in
theorem keptIn_impl (xs : List Edit) (v : Value) (lo hi : Nat) (w : World) (hr : Rd editF.shape lo hi w v xs) (hh : hi ≤ w.heap.size) :
    Calls Try.prog 25 #[v] w fun e w' => e = .returned (.int .i64 (cnt isKept xs)) ∧ Below w.heap.size w w' := by
  have hl := hr.len_le
  obtain ⟨a, c, rfl, h2, h3, h4, h5⟩ := hr.editF
  unfold maxLen at h3
  go_enter Try.func25, Try.ntmps25
  go_wp2
  go_loopw [3, 8] (fun n i wr => ∃ k : Nat, k ≤ xs.length ∧ i = .int .i64 k ∧ n = .int .i64 (cnt isKept (xs.take k)) ∧ Below w.heap.size w wr) (fun _ i _ => xs.length - (intOf i).toNat)
  case atStart => exact ⟨0, Nat.zero_le _, rfl, rfl, Below.refl _ _⟩
  case round =>
    obtain ⟨k, hk, rfl, rfl, hb⟩ := hrel
    have hc := cnt_le isKept xs k
    by_cases hlt : k < xs.length
    · obtain ⟨b, off, rfl, hlo, hhi, c0, c1⟩ := h5 k hlt
      have d0 := (hb.cell (p := ⟨b, _, none⟩) (by show b < _; omega)).trans c0
      have d1 := (hb.cell (p := ⟨b, _, none⟩) (by show b < _; omega)).trans c1
      clear c0 c1
      have HY := Lib.hid (@cnt_yes _ isKept xs k hlt)
      have HN := Lib.hid (@cnt_no _ isKept xs k hlt)
      go_wp2
      · go_roundw
        case rel => exact ⟨k + 1, by omega, by go_num, int_eq (by rw [HY.out (by assumption)]; rfl), hb.alloc hb.size _⟩
        case measure => simp [intOf]; omega
      · go_roundw
        case rel => exact ⟨k + 1, by omega, by go_num, int_eq (by rw [HN.out (by assumption)]), hb.alloc hb.size _⟩
        case measure => simp [intOf]; omega
    · have HK := Lib.hid (show xs.take k = xs from List.take_of_length_le (by omega))
      go_wp2
      go_ret
      exact ⟨ret_int (by rw [HK.out]), hb⟩
set_option maxHeartbeats 400000 in
theorem keptIn_spec (xs : List Edit) (v : Value) (lo hi : Nat) (w : World) (hr : Rd editF.shape lo hi w v xs) (hh : hi ≤ w.heap.size) :
    Calls Try.prog 23 #[v] w fun e w' => e = .returned (.int .i64 (cnt isKept xs)) ∧ Below w.heap.size w w' := by
  have hl := hr.len_le
  obtain ⟨a, c, rfl, h2, h3, h4, h5⟩ := hr.editF
  unfold maxLen at h3
  go_enter Try.func23, Try.ntmps23
  go_wp2
  go_loopw [3, 4] (fun n i wr => ∃ k : Nat, k ≤ xs.length ∧ i = .int .i64 k ∧ n = .int .i64 (cnt isKept (xs.take k)) ∧ Below w.heap.size w wr) (fun _ i _ => xs.length - (intOf i).toNat)
  case atStart => exact ⟨0, Nat.zero_le _, rfl, rfl, Below.refl _ _⟩
  case round =>
    obtain ⟨k, hk, rfl, rfl, hb⟩ := hrel
    have hc := cnt_le isKept xs k
    by_cases hlt : k < xs.length
    · obtain ⟨b, off, rfl, hlo, hhi, c0, c1⟩ := h5 k hlt
      have d0 := (hb.cell (p := ⟨b, _, none⟩) (by show b < _; omega)).trans c0
      clear c0 c1
      have HY := Lib.hid (@cnt_yes _ isKept xs k hlt)
      have HN := Lib.hid (@cnt_no _ isKept xs k hlt)
      go_wp2
      · go_roundw
        case rel => exact ⟨k + 1, by omega, by go_num, int_eq (by rw [HY.out (by assumption)]; rfl), hb⟩
        case measure => simp [intOf]; omega
      · go_roundw
        case rel => exact ⟨k + 1, by omega, by go_num, int_eq (by rw [HN.out (by assumption)]), hb⟩
        case measure => simp [intOf]; omega
    · have HK := Lib.hid (show xs.take k = xs from List.take_of_length_le (by omega))
      go_wp2
      go_ret
      exact ⟨ret_int (by rw [HK.out]), hb⟩
end Go.Proofs.Ythfeochekadhcaa
