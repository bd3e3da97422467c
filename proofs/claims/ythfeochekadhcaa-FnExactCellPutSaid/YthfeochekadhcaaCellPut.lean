/- CellPut of the program and of the reference: the first cell of that name gets the number; where there is none, a new one comes behind. -/
import Derived.Test.YthfeochekadhcaaHCell
import Derived.Test.YthfeochekadhcaaApp
import Derived.Test.YthfeochekadhcaaCellNum
namespace Go.Proofs.Ythfeochekadhcaa
open Go.RowKit

set_option maxHeartbeats 400000 in
theorem cloneCell_any {xs : List Cell} {v : Value} {lo hi : Nat} {w : World} (hr : Rd cellF.shape lo hi w v xs) (hh : hi ≤ w.heap.size) (hl : xs.length ≤ 1048576) :
    Calls Try.prog 95 #[v] w fun e w' => ∃ u, e = .returned u ∧ Below w.heap.size w w' ∧ Own cellF 85 w.heap.size w'.heap.size w' u xs := by
  obtain ⟨i0, hi0, hz0, hz1, hz2⟩ := info_parts Try.infoCell
  obtain ⟨a, c, rfl, h2, h3, h4, h5⟩ := id hr
  have hne := fun (w : World) (a : Option Addr) (n c : Nat) => Lib.run_eql_slice_nil (P := Try.prog) w 28 85 a n c 0 0 Try.underlying28
  cases a with
  | none =>
    obtain rfl := h4 rfl
    have hx : xs = [] := List.eq_nil_of_length_eq_zero (by omega)
    subst hx
    go_enter Try.func95, Try.ntmps95
    go_wp2
    go_ret
    exact ⟨_, rfl, Below.refl _ _, Own.nil _ _ _ _ _⟩
  | some ad =>
    go_enter Try.func95, Try.ntmps95
    go_wp2_with (at_builtin; refine wp_appAll (F := cellF) (P := Try.prog) (ys := xs) (lo' := lo) (hi' := hi) rfl (.tmp 5) (.tmp 6) 28 rfl Try.underlying28 hi0 hz0 hz1 hz2 rfl (by decide) rfl (Own.empty cellF 85 w.heap.size w (Nat.le_refl _)) rfl (hr.below ((Below.refl w.heap.size w).alloc (Nat.le_refl _) _) hh) (by simp; omega) (by simp; omega) (by simp) ?_; intro v' w' hO' hb')
    go_ret
    exact ⟨_, rfl, blw_al1 hb' (Nat.le_refl _), hO'⟩

def cellPut (nm : ByteArray) (num : Int) : List Cell → List Cell
  | [] => [⟨nm, num⟩]
  | x :: xs => if (x.name.toList == nm.toList) = true then ⟨x.name, num⟩ :: xs else x :: cellPut nm num xs
theorem cellPut_yes {nm : ByteArray} {num : Int} {x : Cell} {xs : List Cell} (h : x.name = nm) : cellPut nm num (x :: xs) = ⟨x.name, num⟩ :: xs := by rw [cellPut, if_pos (str_yes h)]
theorem cellPut_no {nm : ByteArray} {num : Int} {x : Cell} {xs : List Cell} (h : ¬ x.name = nm) : cellPut nm num (x :: xs) = x :: cellPut nm num xs := by rw [cellPut, if_neg (by rw [str_no h]; decide)]
theorem cellPut_len (nm : ByteArray) (num : Int) (xs : List Cell) : (cellPut nm num xs).length ≤ xs.length + 1 := by
  induction xs with
  | nil => exact Nat.le_refl _
  | cons x xs ih =>
    rw [cellPut]
    split
    · simp
    · simp; omega
theorem take_at {α : Type} {xs : List α} {k : Nat} (h : k < xs.length) : xs.take (k + 1) = xs.take k ++ [xs[k]] := List.take_succ_eq_append_getElem h
theorem set_at {α : Type} {xs : List α} {k : Nat} {y : α} (h : k < xs.length) : xs.set k y = xs.take k ++ y :: xs.drop (k + 1) := by
  rw [List.set_eq_take_append_cons_drop, if_pos h]

set_option maxHeartbeats 1000000 in
set_option maxRecDepth 100000 in
theorem cellPut_impl {xs : List Cell} {v : Value} {lo hi : Nat} {w : World} (nm : ByteArray) (num : Int) (hr : Rd cellF.shape lo hi w v xs) (hh : hi ≤ w.heap.size) (hl : xs.length ≤ 1048576) :
    Calls Try.prog 63 #[v, .string nm, .int .i64 num] w fun e w' => ∃ u, e = .returned u ∧ Below w.heap.size w w' ∧ Own cellF 85 w.heap.size w'.heap.size w' u (cellPut nm num xs) := by
  obtain ⟨i0, hi0, hz0, hz1, hz2⟩ := info_parts Try.infoCell
  obtain ⟨B, HB⟩ : ∃ B, Hid (B = w.heap.size) := ⟨_, rfl⟩
  have hBw : B ≤ w.heap.size := Nat.le_of_eq HB.out
  have hBw' : w.heap.size ≤ B := Nat.le_of_eq HB.out.symm
  go_enter Try.func63, Try.ntmps63
  go_wp2_with fail
  refine (cloneCell_any hr hh hl).mono ?_
  rintro e w1 ⟨u, rfl, hb0, hO0⟩
  have hb1 : Below B w w1 := hb0.mono hBw
  have hO1 : Own cellF 85 B w1.heap.size w1 u xs := hO0.wide hBw (Nat.le_refl _)
  clear hb0 hO0
  obtain ⟨a, c, rfl, h3, h4, h5⟩ := hO1.form
  unfold maxLen at h4
  go_wp2
  go_loopw [14] (fun i wr => ∃ k : Nat, k ≤ xs.length ∧ i = .int .i64 k ∧ Hid (cellPut nm num xs = xs.take k ++ cellPut nm num (xs.drop k)) ∧ Below B w wr ∧ Own cellF 85 B wr.heap.size wr (.slice a xs.length c) xs) (fun i _ => xs.length - (intOf i).toNat)
  case atStart => exact ⟨0, Nat.zero_le _, rfl, rfl, hb1, hO1⟩
  case round =>
    obtain ⟨k, hk, rfl, HP, hb, hO⟩ := hrel
    have hsz := hb.size
    by_cases hlt : k < xs.length
    · obtain ⟨g, rfl, hlo, hhi⟩ := h5 (by omega)
      have HD := Lib.hid (drop_at hlt)
      have HT := Lib.hid (take_at hlt)
      have HE := Lib.hid (set_at (xs := xs) (y := (⟨xs[k].name, num⟩ : Cell)) hlt)
      have d0 : wr.cell? ⟨g, k * 2, none⟩ = some (.string xs[k].name) := (hO.cell (j := 0) rfl hlt (by decide)).trans rfl
      have d1 : wr.cell? ⟨g, k * 2 + 1, none⟩ = some (.int .i64 xs[k].num) := (hO.cell (j := 1) rfl hlt (by decide)).trans rfl
      have g1 : wr.frozen? ⟨g, k * 2 + 1, none⟩ = false := hO.frozen rfl _
      have hgl : g < wr.heap.size := (hO.below_heap g rfl).2.2
      have HO2 := fun (w' : World) (h : Own cellF 85 B wr.heap.size w' (.slice (some ⟨g, 0, none⟩) xs.length c) xs) => h.set (k := k) (j := 1) (u := .int .i64 num) (x := ⟨xs[k].name, num⟩) rfl hlt (by decide) rfl
      generalize xs[k] = x at *
      by_cases hx : x.name = nm
      · have ht := str_yes hx
        have HX := Lib.hid (cellPut_yes (num := num) (xs := xs.drop (k + 1)) hx)
        clear hx
        go_wp2
        go_ret
        have e := HB.out
        subst e
        refine ⟨_, rfl, ?_, ?_⟩
        · exact (hb.setCell (p := ⟨g, k * 2 + 1, none⟩) hlo _).alloc (by simp [World.setCell]; omega) _
        · have h := (HO2 _ hO).alloc (.cells #[.string x.name, .int .i64 x.num] 85)
          rw [HP.out, HD.out, HX.out, ← HE.out]
          exact h.up
      · have ht := str_no hx
        have HX := Lib.hid (cellPut_no (num := num) (xs := xs.drop (k + 1)) hx)
        clear hx HO2
        go_wp2
        go_roundw
        case rel => exact ⟨k + 1, by omega, by go_num, (by unfold Hid; rw [HP.out, HD.out, HX.out, HT.out, List.append_assoc]; rfl), hb.alloc (by omega) _, (hO.alloc _).up⟩
        case measure => simp [intOf]; omega
    · have HD := Lib.hid (show xs.drop k = [] from List.drop_eq_nil_of_le (by omega))
      have HT := Lib.hid (show xs.take k = xs from List.take_of_length_le (by omega))
      go_wp2_with (at_builtin; refine wp_app1 (F := cellF) (P := Try.prog) (y := ⟨nm, num⟩) rfl (.tmp 30) (.tmp 34) 28 rfl Try.underlying28 hi0 hz0 hz1 hz2 rfl (by decide) rfl (hO.alloc _) wr.heap.size rfl (heap_alloc_new _ _) rfl (by omega) (by omega) (by simp; omega) ?_; intro v' w' hO' hb')
      go_ret
      have e := HB.out
      subst e
      refine ⟨_, rfl, hb.trans (blw_al1 hb' hsz), ?_⟩
      rw [HP.out, HD.out, HT.out]
      exact hO'

set_option maxHeartbeats 1000000 in
set_option maxRecDepth 100000 in
theorem cellPut_spec {xs : List Cell} {v : Value} {lo hi : Nat} {w : World} (nm : ByteArray) (num : Int) (hr : Rd cellF.shape lo hi w v xs) (hh : hi ≤ w.heap.size) (hl : xs.length ≤ 1048576) :
    Calls Try.prog 62 #[v, .string nm, .int .i64 num] w fun e w' => ∃ u, e = .returned u ∧ Below w.heap.size w w' ∧ Own cellF 85 w.heap.size w'.heap.size w' u (cellPut nm num xs) := by
  obtain ⟨i0, hi0, hz0, hz1, hz2⟩ := info_parts Try.infoCell
  obtain ⟨B, HB⟩ : ∃ B, Hid (B = w.heap.size) := ⟨_, rfl⟩
  have hBw : B ≤ w.heap.size := Nat.le_of_eq HB.out
  have hBw' : w.heap.size ≤ B := Nat.le_of_eq HB.out.symm
  go_enter Try.func62, Try.ntmps62
  go_wp2_with (at_builtin; refine wp_appAll (F := cellF) (P := Try.prog) (ys := xs) (lo' := lo) (hi' := hi) rfl (.tmp 9) (.tmp 10) 28 rfl Try.underlying28 hi0 hz0 hz1 hz2 rfl (by decide) rfl (Own.empty cellF 85 B w hBw) rfl (hr.below ((Below.refl B w).alloc hBw _) (by omega)) (by simp; omega) (by simp; omega) (by simp; omega) ?_; intro u w1 hO1 hb0)
  have hb1 : Below B w w1 := blw_al1 hb0 hBw
  rw [List.nil_append] at hO1
  clear hb0
  obtain ⟨a, c, rfl, h3, h4, h5⟩ := hO1.form
  unfold maxLen at h4
  go_wp2
  go_loopw [8] (fun i wr => ∃ k : Nat, k ≤ xs.length ∧ i = .int .i64 k ∧ Hid (cellPut nm num xs = xs.take k ++ cellPut nm num (xs.drop k)) ∧ Below B w wr ∧ Own cellF 85 B wr.heap.size wr (.slice a xs.length c) xs) (fun i _ => xs.length - (intOf i).toNat)
  case atStart => exact ⟨0, Nat.zero_le _, rfl, rfl, hb1, hO1⟩
  case round =>
    obtain ⟨k, hk, rfl, HP, hb, hO⟩ := hrel
    have hsz := hb.size
    by_cases hlt : k < xs.length
    · obtain ⟨g, rfl, hlo, hhi⟩ := h5 (by omega)
      have HD := Lib.hid (drop_at hlt)
      have HT := Lib.hid (take_at hlt)
      have HE := Lib.hid (set_at (xs := xs) (y := (⟨xs[k].name, num⟩ : Cell)) hlt)
      have d0 : wr.cell? ⟨g, k * 2, none⟩ = some (.string xs[k].name) := (hO.cell (j := 0) rfl hlt (by decide)).trans rfl
      have d1 : wr.cell? ⟨g, k * 2 + 1, none⟩ = some (.int .i64 xs[k].num) := (hO.cell (j := 1) rfl hlt (by decide)).trans rfl
      have g1 : wr.frozen? ⟨g, k * 2 + 1, none⟩ = false := hO.frozen rfl _
      have hgl : g < wr.heap.size := (hO.below_heap g rfl).2.2
      have HO2 := fun (w' : World) (h : Own cellF 85 B wr.heap.size w' (.slice (some ⟨g, 0, none⟩) xs.length c) xs) => h.set (k := k) (j := 1) (u := .int .i64 num) (x := ⟨xs[k].name, num⟩) rfl hlt (by decide) rfl
      generalize xs[k] = x at *
      by_cases hx : x.name = nm
      · have ht := str_yes hx
        have HX := Lib.hid (cellPut_yes (num := num) (xs := xs.drop (k + 1)) hx)
        clear hx
        go_wp2
        go_ret
        have e := HB.out
        subst e
        refine ⟨_, rfl, ?_, ?_⟩
        · exact (hb).setCell (p := ⟨g, k * 2 + 1, none⟩) hlo _
        · have h := HO2 _ (hO)
          rw [HP.out, HD.out, HX.out, ← HE.out]
          exact h.up
      · have ht := str_no hx
        have HX := Lib.hid (cellPut_no (num := num) (xs := xs.drop (k + 1)) hx)
        clear hx HO2
        go_wp2
        go_roundw
        case rel => exact ⟨k + 1, by omega, by go_num, (by unfold Hid; rw [HP.out, HD.out, HX.out, HT.out, List.append_assoc]; rfl), hb, (hO).up⟩
        case measure => simp [intOf]; omega
    · have HD := Lib.hid (show xs.drop k = [] from List.drop_eq_nil_of_le (by omega))
      have HT := Lib.hid (show xs.take k = xs from List.take_of_length_le (by omega))
      go_wp2_with (at_builtin; refine wp_app1 (F := cellF) (P := Try.prog) (y := ⟨nm, num⟩) rfl (.tmp 31) (.tmp 35) 28 rfl Try.underlying28 hi0 hz0 hz1 hz2 rfl (by decide) rfl (hO.alloc _) wr.heap.size rfl (heap_alloc_new _ _) rfl (by omega) (by omega) (by simp; omega) ?_; intro v' w' hO' hb')
      go_ret
      have e := HB.out
      subst e
      refine ⟨_, rfl, hb.trans (blw_al1 hb' hsz), ?_⟩
      rw [HP.out, HD.out, HT.out]
      exact hO'
end Go.Proofs.Ythfeochekadhcaa
