/- ParsIn of the program and of the reference: both count the nodes of kind 11. -/
import Derived.Test.YthfeochekadhcaaHNodeC
namespace Go.Proofs.Ythfeochekadhcaa
open Go.RowKit

def isPar (x : Node) : Bool := x.kind == 11
set_option maxHeartbeats 400000 in
theorem parsIn_impl (xs : List Node) (v : Value) (lo hi : Nat) (w : World) (hr : Rd nodeS lo hi w v xs) (hh : hi ≤ w.heap.size) :
    Calls Try.prog 58 #[v] w fun e w' => e = .returned (.int .i64 (cnt isPar xs)) ∧ Below w.heap.size w w' := by
  have hl := hr.len_le
  obtain ⟨a, c, rfl, h2, h3, h4, h5⟩ := hr.nodeS
  unfold maxLen at h3
  go_enter Try.func58, Try.ntmps58
  go_wp2
  go_loopw [3, 8] (fun n i wr => ∃ k : Nat, k ≤ xs.length ∧ i = .int .i64 k ∧ n = .int .i64 (cnt isPar (xs.take k)) ∧ Below w.heap.size w wr) (fun _ i _ => xs.length - (intOf i).toNat)
  case atStart => exact ⟨0, Nat.zero_le _, rfl, rfl, Below.refl _ _⟩
  case round =>
    obtain ⟨k, hk, rfl, rfl, hb⟩ := hrel
    have hc := cnt_le isPar xs k
    by_cases hlt : k < xs.length
    · obtain ⟨b, off, ka, kc, rfl, hlo, hhi, c0, c1, c2, c3, _⟩ := h5 k hlt
      have d0 := (hb.cell (p := ⟨b, _, none⟩) (by show b < _; omega)).trans c0
      have d1 := (hb.cell (p := ⟨b, _, none⟩) (by show b < _; omega)).trans c1
      have d2 := (hb.cell (p := ⟨b, _, none⟩) (by show b < _; omega)).trans c2
      have d3 := (hb.cell (p := ⟨b, _, none⟩) (by show b < _; omega)).trans c3
      clear c0 c1 c2 c3
      have HY := Lib.hid (@cnt_yes _ isPar xs k hlt)
      have HN := Lib.hid (@cnt_no _ isPar xs k hlt)
      go_wp2
      · go_roundw
        case rel => exact ⟨k + 1, by omega, by go_num, int_eq (by rw [HY.out (by assumption)]; rfl), hb.alloc hb.size _⟩
        case measure => simp [intOf]; omega
      · go_roundw
        case rel => exact ⟨k + 1, by omega, by go_num, int_eq (by rw [HN.out (by assumption)]), hb.alloc hb.size _⟩
        case measure => simp [intOf]; omega
    · have HK := Lib.hid (show xs.take k = xs from List.take_of_length_le (by omega))
      go_wp2
      go_ret
      exact ⟨ret_int (by rw [HK.out]), hb⟩
set_option maxHeartbeats 400000 in
theorem parsIn_spec (xs : List Node) (v : Value) (lo hi : Nat) (w : World) (hr : Rd nodeS lo hi w v xs) (hh : hi ≤ w.heap.size) :
    Calls Try.prog 56 #[v] w fun e w' => e = .returned (.int .i64 (cnt isPar xs)) ∧ Below w.heap.size w w' := by
  have hl := hr.len_le
  obtain ⟨a, c, rfl, h2, h3, h4, h5⟩ := hr.nodeS
  unfold maxLen at h3
  go_enter Try.func56, Try.ntmps56
  go_wp2
  go_loopw [3, 4] (fun n i wr => ∃ k : Nat, k ≤ xs.length ∧ i = .int .i64 k ∧ n = .int .i64 (cnt isPar (xs.take k)) ∧ Below w.heap.size w wr) (fun _ i _ => xs.length - (intOf i).toNat)
  case atStart => exact ⟨0, Nat.zero_le _, rfl, rfl, Below.refl _ _⟩
  case round =>
    obtain ⟨k, hk, rfl, rfl, hb⟩ := hrel
    have hc := cnt_le isPar xs k
    by_cases hlt : k < xs.length
    · obtain ⟨b, off, ka, kc, rfl, hlo, hhi, c0, c1, c2, c3, _⟩ := h5 k hlt
      have d0 := (hb.cell (p := ⟨b, _, none⟩) (by show b < _; omega)).trans c0
      clear c0 c1 c2 c3
      have HY := Lib.hid (@cnt_yes _ isPar xs k hlt)
      have HN := Lib.hid (@cnt_no _ isPar xs k hlt)
      go_wp2
      · go_roundw
        case rel => exact ⟨k + 1, by omega, by go_num, int_eq (by rw [HY.out (by assumption)]; rfl), hb⟩
        case measure => simp [intOf]; omega
      · go_roundw
        case rel => exact ⟨k + 1, by omega, by go_num, int_eq (by rw [HN.out (by assumption)]), hb⟩
        case measure => simp [intOf]; omega
    · have HK := Lib.hid (show xs.take k = xs from List.take_of_length_le (by omega))
      go_wp2
      go_ret
      exact ⟨ret_int (by rw [HK.out]), hb⟩
end Go.Proofs.Ythfeochekadhcaa
