/- CellNum of the program and of the reference: the number of the first cell of that name. -/
import Derived.Test.YthfeochekadhcaaHCell
namespace Go.Proofs.Ythfeochekadhcaa
open Go.RowKit

def cellNumOf (nm : ByteArray) : List Cell → Int
  | [] => 0
  | x :: xs => if (x.name.toList == nm.toList) = true then x.num else cellNumOf nm xs
def cellHas (nm : ByteArray) : List Cell → Bool
  | [] => false
  | x :: xs => if (x.name.toList == nm.toList) = true then true else cellHas nm xs
theorem cellNum_yes {nm : ByteArray} {x : Cell} {xs : List Cell} (h : x.name = nm) : cellNumOf nm (x :: xs) = x.num := by rw [cellNumOf, if_pos (str_yes h)]
theorem cellNum_no {nm : ByteArray} {x : Cell} {xs : List Cell} (h : ¬ x.name = nm) : cellNumOf nm (x :: xs) = cellNumOf nm xs := by rw [cellNumOf, if_neg (by rw [str_no h]; decide)]
theorem cellHas_yes {nm : ByteArray} {x : Cell} {xs : List Cell} (h : x.name = nm) : cellHas nm (x :: xs) = true := by rw [cellHas, if_pos (str_yes h)]
theorem cellHas_no {nm : ByteArray} {x : Cell} {xs : List Cell} (h : ¬ x.name = nm) : cellHas nm (x :: xs) = cellHas nm xs := by rw [cellHas, if_neg (by rw [str_no h]; decide)]
set_option maxHeartbeats 400000 in
theorem cellNum_impl (xs : List Cell) (v : Value) (lo hi : Nat) (nm : ByteArray) (w : World) (hr : Rd cellF.shape lo hi w v xs) (hh : hi ≤ w.heap.size) :
    Calls Try.prog 20 #[v, .string nm] w fun e w' => e = .returned (.tuple #[.int .i64 (cellNumOf nm xs), .bool (cellHas nm xs)]) ∧ Below w.heap.size w w' := by
  have hl := hr.len_le
  obtain ⟨a, c, rfl, h2, h3, h4, h5⟩ := hr.cellF
  unfold maxLen at h3
  go_enter Try.func20, Try.ntmps20
  go_wp2
  go_loopw [10] (fun i wr => ∃ k : Nat, k ≤ xs.length ∧ i = .int .i64 k ∧ Hid (cellNumOf nm xs = cellNumOf nm (xs.drop k)) ∧ Hid (cellHas nm xs = cellHas nm (xs.drop k)) ∧ Below w.heap.size w wr) (fun i _ => xs.length - (intOf i).toNat)
  case atStart => exact ⟨0, Nat.zero_le _, rfl, rfl, rfl, Below.refl _ _⟩
  case round =>
    obtain ⟨k, hk, rfl, g1, g2, hb⟩ := hrel
    by_cases hlt : k < xs.length
    · have HD := Lib.hid (drop_at hlt)
      obtain ⟨b, off, rfl, hlo, hhi, c0, c1⟩ := h5 k hlt
      have d0 := (hb.cell (p := ⟨b, _, none⟩) (by show b < _; omega)).trans c0
      have d1 := (hb.cell (p := ⟨b, _, none⟩) (by show b < _; omega)).trans c1
      clear c0 c1
      generalize xs[k] = x at *
      by_cases hx : x.name = nm
      · have ht := str_yes hx
        have HX := Lib.hid hx
        clear hx
        go_wp2
        go_ret2
        refine ⟨?_, hb.alloc hb.size _⟩
        rw [g1.out, g2.out, HD.out, cellNum_yes HX.out, cellHas_yes HX.out]
        rfl
      · have ht := str_no hx
        go_wp2
        go_roundw
        case rel => exact ⟨k + 1, by omega, by go_num, g1.out.trans (by rw [HD.out, cellNum_no hx]), g2.out.trans (by rw [HD.out, cellHas_no hx]), hb.alloc hb.size _⟩
        case measure => simp [intOf]; omega
    · have HD := Lib.hid (show xs.drop k = [] from List.drop_eq_nil_of_le (by omega))
      go_wp2
      go_ret2
      refine ⟨?_, hb⟩
      rw [g1.out, g2.out, HD.out]
      rfl
set_option maxHeartbeats 400000 in
theorem cellNum_spec (xs : List Cell) (v : Value) (lo hi : Nat) (nm : ByteArray) (w : World) (hr : Rd cellF.shape lo hi w v xs) (hh : hi ≤ w.heap.size) :
    Calls Try.prog 18 #[v, .string nm] w fun e w' => e = .returned (.tuple #[.int .i64 (cellNumOf nm xs), .bool (cellHas nm xs)]) ∧ Below w.heap.size w w' := by
  have hl := hr.len_le
  obtain ⟨a, c, rfl, h2, h3, h4, h5⟩ := hr.cellF
  unfold maxLen at h3
  go_enter Try.func18, Try.ntmps18
  go_wp2
  go_loopw [6] (fun i wr => ∃ k : Nat, k ≤ xs.length ∧ i = .int .i64 k ∧ Hid (cellNumOf nm xs = cellNumOf nm (xs.drop k)) ∧ Hid (cellHas nm xs = cellHas nm (xs.drop k)) ∧ Below w.heap.size w wr) (fun i _ => xs.length - (intOf i).toNat)
  case atStart => exact ⟨0, Nat.zero_le _, rfl, rfl, rfl, Below.refl _ _⟩
  case round =>
    obtain ⟨k, hk, rfl, g1, g2, hb⟩ := hrel
    by_cases hlt : k < xs.length
    · have HD := Lib.hid (drop_at hlt)
      obtain ⟨b, off, rfl, hlo, hhi, c0, c1⟩ := h5 k hlt
      have d0 := (hb.cell (p := ⟨b, _, none⟩) (by show b < _; omega)).trans c0
      have d1 := (hb.cell (p := ⟨b, _, none⟩) (by show b < _; omega)).trans c1
      clear c0 c1
      generalize xs[k] = x at *
      by_cases hx : x.name = nm
      · have ht := str_yes hx
        have HX := Lib.hid hx
        clear hx
        go_wp2
        go_ret2
        refine ⟨?_, hb⟩
        rw [g1.out, g2.out, HD.out, cellNum_yes HX.out, cellHas_yes HX.out]
        rfl
      · have ht := str_no hx
        go_wp2
        go_roundw
        case rel => exact ⟨k + 1, by omega, by go_num, g1.out.trans (by rw [HD.out, cellNum_no hx]), g2.out.trans (by rw [HD.out, cellHas_no hx]), hb⟩
        case measure => simp [intOf]; omega
    · have HD := Lib.hid (show xs.drop k = [] from List.drop_eq_nil_of_le (by omega))
      go_wp2
      go_ret2
      refine ⟨?_, hb⟩
      rw [g1.out, g2.out, HD.out]
      rfl
end Go.Proofs.Ythfeochekadhcaa
