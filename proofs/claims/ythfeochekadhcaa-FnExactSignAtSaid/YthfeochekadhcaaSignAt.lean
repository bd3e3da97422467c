/- SignAt of the program and of the reference: the last sign that does not stand behind a place. -/
import Derived.Test.YthfeochekadhcaaHSign
namespace Go.Proofs.Ythfeochekadhcaa
open Go.RowKit

def lastAt (a : Int) (xs : List Sign) : Nat → Int
  | 0 => -1
  | k + 1 => match xs[k]? with
    | some x => if x.pos ≤ a then k else lastAt a xs k
    | none => lastAt a xs k
theorem lastAt_yes {a : Int} {xs : List Sign} {k : Nat} (h : k < xs.length) (hx : xs[k].pos ≤ a) : lastAt a xs (k + 1) = k := by simp [lastAt, h, hx]
theorem lastAt_no {a : Int} {xs : List Sign} {k : Nat} (h : k < xs.length) (hx : ¬ xs[k].pos ≤ a) : lastAt a xs (k + 1) = lastAt a xs k := by simp [lastAt, h, hx]
set_option maxHeartbeats 400000 in
theorem signAt_spec (xs : List Sign) (v : Value) (lo hi : Nat) (at_ : Int) (w : World) (hr : Rd signF.shape lo hi w v xs) (hh : hi ≤ w.heap.size) :
    Calls Try.prog 28 #[v, .int .i64 at_] w fun e w' => e = .returned (.int .i64 (lastAt at_ xs xs.length)) ∧ Below w.heap.size w w' := by
  have hl := hr.len_le
  obtain ⟨a, c, rfl, h2, h3, h4, h5⟩ := hr.signF
  unfold maxLen at h3
  go_enter Try.func28, Try.ntmps28
  go_wp2
  go_loopw [5, 6] (fun n i wr => ∃ k : Nat, k ≤ xs.length ∧ i = .int .i64 k ∧ n = .int .i64 (lastAt at_ xs k) ∧ Below w.heap.size w wr) (fun _ i _ => xs.length - (intOf i).toNat)
  case atStart => exact ⟨0, Nat.zero_le _, rfl, rfl, Below.refl _ _⟩
  case round =>
    obtain ⟨k, hk, rfl, rfl, hb⟩ := hrel
    by_cases hlt : k < xs.length
    · have HY := Lib.hid (@lastAt_yes at_ xs k hlt)
      have HN := Lib.hid (@lastAt_no at_ xs k hlt)
      obtain ⟨b, off, rfl, hlo, hhi, c0, c1, c2, c3⟩ := h5 k hlt
      have d2 := (hb.cell (p := ⟨b, _, none⟩) (by show b < _; omega)).trans c2
      clear c0 c1 c2 c3
      by_cases hx : xs[k].pos ≤ at_
      · have HX := Lib.hid hx
        go_wp2
        go_roundw
        case rel => exact ⟨k + 1, by omega, by go_num, int_eq (by rw [HY.out HX.out]), hb⟩
        case measure => simp [intOf]; omega
      · have HX := Lib.hid hx
        go_wp2
        go_roundw
        case rel => exact ⟨k + 1, by omega, by go_num, int_eq (by rw [HN.out HX.out]), hb⟩
        case measure => simp [intOf]; omega
    · have HK := Lib.hid (show k = xs.length by omega)
      go_wp2
      go_ret
      exact ⟨ret_int (by rw [HK.out]), hb⟩
set_option maxHeartbeats 400000 in
theorem signAt_impl (xs : List Sign) (v : Value) (lo hi : Nat) (at_ : Int) (w : World) (hr : Rd signF.shape lo hi w v xs) (hh : hi ≤ w.heap.size) :
    Calls Try.prog 30 #[v, .int .i64 at_] w fun e w' => e = .returned (.int .i64 (lastAt at_ xs xs.length)) ∧ Below w.heap.size w w' := by
  have hl := hr.len_le
  obtain ⟨a, c, rfl, h2, h3, h4, h5⟩ := hr.signF
  unfold maxLen at h3
  go_enter Try.func30, Try.ntmps30
  go_wp2
  go_loopw [5] (fun i wr => ∃ k : Nat, k ≤ xs.length ∧ i = .int .i64 ((k : Int) - 1) ∧ Hid (lastAt at_ xs xs.length = lastAt at_ xs k) ∧ Below w.heap.size w wr) (fun i _ => (intOf i + 1).toNat)
  case atStart => exact ⟨xs.length, Nat.le_refl _, rfl, rfl, Below.refl _ _⟩
  case round =>
    obtain ⟨k, hk, rfl, hg, hb⟩ := hrel
    by_cases hlt : 0 < k
    · obtain ⟨m, rfl⟩ : ∃ m, k = m + 1 := ⟨k - 1, by omega⟩
      have hm : m < xs.length := by omega
      have e1 : ((m + 1 : Nat) : Int) - 1 = (m : Int) := by omega
      rw [e1]
      clear e1
      have HY := Lib.hid (@lastAt_yes at_ xs m hm)
      have HN := Lib.hid (@lastAt_no at_ xs m hm)
      obtain ⟨b, off, rfl, hlo, hhi, c0, c1, c2, c3⟩ := h5 m hm
      have d2 := (hb.cell (p := ⟨b, _, none⟩) (by show b < _; omega)).trans c2
      clear c0 c1 c2 c3
      by_cases hx : xs[m].pos ≤ at_
      · have HX := Lib.hid hx
        go_wp2
        go_ret
        exact ⟨ret_int (by rw [hg.out, HY.out HX.out]), hb⟩
      · have HX := Lib.hid hx
        go_wp2
        go_roundw
        case rel => exact ⟨m, by omega, rfl, hg.out.trans (HN.out HX.out), hb⟩
        case measure => simp [intOf]
    · obtain rfl : k = 0 := by omega
      go_wp2
      go_ret
      exact ⟨ret_int hg.out.symm, hb⟩
end Go.Proofs.Ythfeochekadhcaa
