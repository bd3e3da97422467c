/- What is drawn for the law on heaps; lists of integers and of states compared. -/
import Derived.Test.YtjaginciejljkaaHeapL
import Derived.Test.YtjaginciejljkaaDrawP
import Derived.BigQuiet
namespace Go.Proofs.Ytjaginciejljkaa
open Go.RowKit

theorem drawHeap_any {lo hi : Nat} {xs : List Int} {w : World} {v : Value} (hr : Rd bytS lo hi w v xs) (hh : hi ≤ w.heap.size) (hx : ∀ x ∈ xs, U8 x) (hl : xs.length ≤ 1048576) :
    Calls Try.prog 5 #[v] w fun e w' => ∃ u ys, e = .returned u ∧ SmallH ys ∧ HeapI ys ∧ HOwn w.heap.size w'.heap.size w' u ys ∧ Below w.heap.size w w' := by
  go_enter Try.func5, Try.ntmps5
  go_wp2_with fail
  refine (l01New_any hr hh hx hl).mono ?_
  rintro e w1 ⟨rfl, hb1, hc1, hs1⟩
  go_wp2_with fail
  refine (l11Heap_any hc1).mono ?_
  rintro e w2 ⟨u, ys, rfl, h1, h2, h3, hO, ho, -⟩
  have HF : Hid (SmallH ys) := ⟨by omega, h2⟩
  have h4 := hO.wide (lo' := w.heap.size) (by omega) (Nat.le_refl _)
  have h5 := blw_out hb1 ho (Nat.le_refl _) (by omega)
  clear hs1 h2
  go_wp2
  go_ret
  exact ⟨_, _, rfl, HF.out, h3, h4, h5⟩
theorem drawPopped_any {lo hi : Nat} {xs : List Int} {w : World} {v : Value} (hr : Rd bytS lo hi w v xs) (hh : hi ≤ w.heap.size) (hx : ∀ x ∈ xs, U8 x) (hl : xs.length ≤ 1048576) :
    Calls Try.prog 11 #[v] w fun e w' => ∃ u ys, e = .returned u ∧ SmallH ys ∧ HOwn w.heap.size w'.heap.size w' u ys ∧ Below w.heap.size w w' := by
  go_enter Try.func11, Try.ntmps11
  go_wp2_with fail
  refine (l01New_any hr hh hx hl).mono ?_
  rintro e w1 ⟨rfl, hb1, hc1, hs1⟩
  go_wp2_with fail
  refine (l11Any_any hc1).mono ?_
  rintro e w2 ⟨u, ys, rfl, h1, hO, ho, -⟩
  have h4 := hO.wide (lo' := w.heap.size) (by omega) (Nat.le_refl _)
  have h5 := blw_out hb1 ho (Nat.le_refl _) (by omega)
  clear hs1
  go_wp2
  go_ret
  exact ⟨_, _, rfl, h1, h4, h5⟩
set_option maxHeartbeats 4000000 in
set_option maxRecDepth 100000 in
theorem drawTwo_any {lo hi : Nat} {xs : List Int} {w : World} {v : Value} (hr : Rd bytS lo hi w v xs) (hh : hi ≤ w.heap.size) (hx : ∀ x ∈ xs, U8 x) (hl : xs.length ≤ 1048576) :
    Calls Try.prog 13 #[v] w fun e w' => ∃ a1 n1 c1 a2 n2 c2 x1 x2, e = .returned (.tuple #[.agg #[.slice a1 n1 c1, .int .i64 (x1 : StL).sum], .agg #[.slice a2 n2 c2, .int .i64 (x2 : StL).sum]]) ∧ SmallS x1 ∧ SmallS x2 ∧ Rd intS w.heap.size w'.heap.size w' (.slice a1 n1 c1) x1.vals ∧ Rd intS w.heap.size w'.heap.size w' (.slice a2 n2 c2) x2.vals ∧ Below w.heap.size w w' := by
  go_enter Try.func13, Try.ntmps13
  go_upto_region 1 with fail
  obtain ⟨hA, hB⟩ := heap_two w (.cells #[.slice none 0 0, .int .i64 0] 28) (.cells #[.slice none 0 0, .int .i64 0] 28)
  have hbA : Below w.heap.size w ((w.alloc (.cells #[.slice none 0 0, .int .i64 0] 28)).alloc (.cells #[.slice none 0 0, .int .i64 0] 28)) := ((Below.refl _ _).alloc (Nat.le_refl _) _).alloc (by simp) _
  have hsA : w.heap.size + 1 < ((w.alloc (.cells #[.slice none 0 0, .int .i64 0] 28)).alloc (.cells #[.slice none 0 0, .int .i64 0] 28)).heap.size := by simp
  generalize (w.alloc (.cells #[.slice none 0 0, .int .i64 0] 28)).alloc (.cells #[.slice none 0 0, .int .i64 0] 28) = wA at *
  have z0 : wA.cell? ⟨w.heap.size, 0, none⟩ = some (.slice none 0 0) := cell_heap0 hA rfl
  have z1 : wA.cell? ⟨w.heap.size, 1, none⟩ = some (.int .i64 0) := cell_heap0 hA rfl
  have g0 : wA.frozen? ⟨w.heap.size, 0, none⟩ = false := frozen_heap0 hA
  have g1 : wA.frozen? ⟨w.heap.size, 1, none⟩ = false := frozen_heap0 hA
  have y0 : wA.cell? ⟨w.heap.size + 1, 0, none⟩ = some (.slice none 0 0) := cell_heap0 hB rfl
  have y1 : wA.cell? ⟨w.heap.size + 1, 1, none⟩ = some (.int .i64 0) := cell_heap0 hB rfl
  have h0 : wA.frozen? ⟨w.heap.size + 1, 0, none⟩ = false := frozen_heap0 hB
  have h1 : wA.frozen? ⟨w.heap.size + 1, 1, none⟩ = false := frozen_heap0 hB
  have hrA := hr.below hbA hh
  have hhA : hi ≤ wA.heap.size := by omega
  clear hA hB
  go_wp2_with fail
  refine (l01New_any hrA hhA hx hl).mono ?_
  rintro e w1 ⟨rfl, hb1, hc1, hs1⟩
  obtain ⟨g, hg⟩ : ∃ g, Hid (wA.heap.size = g) := ⟨_, rfl⟩
  have hgw : w.heap.size + 2 ≤ g := by have := hg.out; omega
  have hg1 : g < w1.heap.size := by have := hg.out; omega
  go_wp2_with fail
  refine (l11State_any hc1).mono ?_
  rw [hg.out]
  rintro e w2 ⟨a1, n1, c1, x1, rfl, hx1, hO1, ho2, hc2⟩
  have hs2 := ho2.size
  rw [hg.out] at hb1
  have hb2 := blw_out (hbA.trans (hb1.mono (show w.heap.size ≤ g by omega))) ho2 (by omega) (by omega)
  have hSA : Same 0 g wA w2 := (Same.of_below hb1 (Nat.le_refl _)).trans (ho2.same (by omega) (.inl (Nat.le_refl _)))
  replace z0 := (cells_same hSA (by omega) (by omega)).trans z0
  replace z1 := (cells_same hSA (by omega) (by omega)).trans z1
  replace y0 := (cells_same hSA (by omega) (by omega)).trans y0
  replace y1 := (cells_same hSA (by omega) (by omega)).trans y1
  replace g0 := (frz_same hSA (by omega) (by omega)).trans g0
  replace g1 := (frz_same hSA (by omega) (by omega)).trans g1
  replace h0 := (frz_same hSA (by omega) (by omega)).trans h0
  replace h1 := (frz_same hSA (by omega) (by omega)).trans h1
  clear hSA hb1 hc1 hs1 ho2 hbA hrA hr hsA hhA hg
  go_upto_region 3 with fail
  have hX := heap_alloc_new w2 (.cells #[.slice a1 n1 c1, .int .i64 x1.sum] 28)
  have hbX : Below w2.heap.size w2 (w2.alloc (.cells #[.slice a1 n1 c1, .int .i64 x1.sum] 28)) := (Below.refl _ _).alloc (Nat.le_refl _) _
  have hsX : w2.heap.size < (w2.alloc (.cells #[.slice a1 n1 c1, .int .i64 x1.sum] 28)).heap.size := by simp
  generalize w2.alloc (.cells #[.slice a1 n1 c1, .int .i64 x1.sum] 28) = w3 at *
  have s0 : w3.drew.cell? ⟨w2.heap.size, 0, none⟩ = some (.slice a1 n1 c1) := cell_heap0 hX rfl
  have s1 : w3.drew.cell? ⟨w2.heap.size, 1, none⟩ = some (.int .i64 x1.sum) := cell_heap0 hX rfl
  have hSA : Same 0 w2.heap.size w2 w3.drew := Same.of_below hbX.drew (Nat.le_refl _)
  replace z0 := (cells_same hSA (Nat.zero_le _) (by omega)).trans z0
  replace z1 := (cells_same hSA (Nat.zero_le _) (by omega)).trans z1
  replace y0 := (cells_same hSA (Nat.zero_le _) (by omega)).trans y0
  replace y1 := (cells_same hSA (Nat.zero_le _) (by omega)).trans y1
  replace g0 := (frz_same hSA (Nat.zero_le _) (by omega)).trans g0
  replace g1 := (frz_same hSA (Nat.zero_le _) (by omega)).trans g1
  replace h0 := (frz_same hSA (Nat.zero_le _) (by omega)).trans h0
  replace h1 := (frz_same hSA (Nat.zero_le _) (by omega)).trans h1
  have hc3 := hc2.below hbX.drew (by omega)
  have hb3 := hb2.trans (hbX.drew.mono (show w.heap.size ≤ w2.heap.size by omega))
  replace hO1 := (hO1.same (hSA.narrow (Nat.zero_le _) (Nat.le_refl _))).wide (lo' := g + 1) (hi' := w3.drew.heap.size) (by omega) (show w2.heap.size ≤ w3.heap.size by omega)
  replace hsX : w2.heap.size < w3.drew.heap.size := hsX
  clear hX hbX hSA hc2 hb2
  go_wp2_with fail
  refine wp_region_held_drew (S := fun w' => w'.cell? ⟨w2.heap.size, 0, none⟩ = some (.slice a1 n1 c1) ∧ w'.cell? ⟨w2.heap.size, 1, none⟩ = some (.int .i64 x1.sum)) (by kernel_rfl) ?_ (fun hHeld => ?_)
  · exact ⟨s0, s1⟩
  generalize w3.drew = wD at *
  refine wpAnyH_take (i := 0) (v := ?v1) (at_op rfl) (by kernel_rfl) (by kernel_rfl) (by kernel_rfl) (fun _ _ _ h => h) (Or.inl ⟨by rfl, ?y1⟩) (by assumption) ?r1
  case y1 =>
    intro wx hSx
    go_simp
    try with_reducible rfl
  try simp only [Act.put, List.setIfInBounds_toArray, List.set_cons_zero, List.set_cons_succ]
  refine wpAnyH_take (i := 1) (v := ?v2) (at_op rfl) (by kernel_rfl) (by kernel_rfl) (by kernel_rfl) (fun _ _ _ h => h) (Or.inl ⟨by rfl, ?y2⟩) (by assumption) ?r2
  case y2 =>
    intro wx hSx
    go_simp
    try with_reducible rfl
  try simp only [Act.put, List.setIfInBounds_toArray, List.set_cons_zero, List.set_cons_succ]
  refine wpAnyH_ready (rs := [2]) (by kernel_rfl) (by simp) ?_
  refine AllReadyH.cons (at_op rfl) (fun K hK => ?_) AllReadyH.nil
  go_simp
  refine (l11State_any hc3).mono ?_
  rintro e w4 ⟨a2, n2, c2, x2, rfl, hx2, hO4, ho4, hc4⟩
  have hSX : Same (g + 1) wD.heap.size wD w4 := ho4.same (Nat.le_refl _) (.inr (Nat.le_refl _))
  have hs4 := ho4.size
  have k4 : w4.cell? ⟨w2.heap.size, 0, none⟩ = some (.slice a1 n1 c1) ∧ w4.cell? ⟨w2.heap.size, 1, none⟩ = some (.int .i64 x1.sum) := ⟨(cells_same hSX (by omega) (by omega)).trans s0, (cells_same hSX (by omega) (by omega)).trans s1⟩
  have hSR : Same w.heap.size (w.heap.size + 2) wD w4 := ho4.same (by omega) (.inl (by omega))
  replace z0 := (cells_same hSR (by omega) (by omega)).trans z0
  replace z1 := (cells_same hSR (by omega) (by omega)).trans z1
  replace y0 := (cells_same hSR (by omega) (by omega)).trans y0
  replace y1 := (cells_same hSR (by omega) (by omega)).trans y1
  replace g0 := (frz_same hSR (by omega) (by omega)).trans g0
  replace g1 := (frz_same hSR (by omega) (by omega)).trans g1
  replace h0 := (frz_same hSR (by omega) (by omega)).trans h0
  replace h1 := (frz_same hSR (by omega) (by omega)).trans h1
  have hO1' := (hO1.same (hSX.narrow (by omega) (Nat.le_refl _))).wide (lo' := w.heap.size + 2) (hi' := w4.heap.size) (by omega) hs4
  have hO2' := hO4.wide (lo' := w.heap.size + 2) (hi' := w4.heap.size) (by omega) (Nat.le_refl _)
  have hb4 := blw_out hb3 ho4 (by omega) (by omega)
  clear hO1 hO4 hSX hSR ho4 hc3 hc4 s0 s1
  go_wp2_with fail
  refine hK.out _ _ k4 (fun _ => ?_)
  clear hK K
  try simp only [Act.put, List.setIfInBounds_toArray, List.set_cons_zero, List.set_cons_succ]
  refine wpAnyH_ready (rs := [3]) (by kernel_rfl) (by simp) ?_
  refine AllReadyH.cons (at_op rfl) (fun K hK => ?_) AllReadyH.nil
  go_wp2_with fail
  have k5 := keepG (v0 := .slice a1 n1 c1) (v1 := .int .i64 x1.sum) k4 (show w.heap.size < w2.heap.size by omega)
  refine hK.out _ _ k5 (fun _ => ?_)
  clear hK K
  try simp only [Act.put, List.setIfInBounds_toArray, List.set_cons_zero, List.set_cons_succ]
  have j0 : ((w4.setCell ⟨w.heap.size, 0, none⟩ (.slice a1 n1 c1)).setCell ⟨w.heap.size, 1, none⟩ (.int .i64 x1.sum)).cell? ⟨w.heap.size + 1, 0, none⟩ = some (.slice none 0 0) := (World.cell?_setCell_other _ _ _ _ (fun c => by injection c with c _ _; omega)).trans ((World.cell?_setCell_other _ _ _ _ (fun c => by injection c with c _ _; omega)).trans y0)
  have j1 : ((w4.setCell ⟨w.heap.size, 0, none⟩ (.slice a1 n1 c1)).setCell ⟨w.heap.size, 1, none⟩ (.int .i64 x1.sum)).cell? ⟨w.heap.size + 1, 1, none⟩ = some (.int .i64 0) := (World.cell?_setCell_other _ _ _ _ (fun c => by injection c with c _ _; omega)).trans ((World.cell?_setCell_other _ _ _ _ (fun c => by injection c with c _ _; omega)).trans y1)
  refine wpAnyH_ready (rs := [4]) (by kernel_rfl) (by simp) ?_
  refine AllReadyH.cons (at_op rfl) (fun K hK => ?_) AllReadyH.nil
  go_wp2_with fail
  refine hK.out _ _ (keepG k5 (by omega)) (fun _ => ?_)
  clear hK K
  try simp only [Act.put, List.setIfInBounds_toArray, List.set_cons_zero, List.set_cons_succ]
  refine wpAnyH_done (by kernel_rfl) ?_ _
  have r0 : ((((w4.setCell ⟨w.heap.size, 0, none⟩ (.slice a1 n1 c1)).setCell ⟨w.heap.size, 1, none⟩ (.int .i64 x1.sum)).setCell ⟨w.heap.size + 1, 0, none⟩ (.slice a2 n2 c2)).setCell ⟨w.heap.size + 1, 1, none⟩ (.int .i64 x2.sum)).cell? ⟨w.heap.size, 0, none⟩ = some (.slice a1 n1 c1) := (World.cell?_setCell_other _ _ _ _ (fun c => by injection c with c _ _; omega)).trans ((World.cell?_setCell_other _ _ _ _ (fun c => by injection c with c _ _; omega)).trans ((World.cell?_setCell_other _ _ _ _ (fun c => by injection c with _ c _; omega)).trans (World.cell?_setCell_same (w := w4) (a := ⟨w.heap.size, 0, none⟩) (v := .slice a1 n1 c1) z0)))
  have r1 : ((((w4.setCell ⟨w.heap.size, 0, none⟩ (.slice a1 n1 c1)).setCell ⟨w.heap.size, 1, none⟩ (.int .i64 x1.sum)).setCell ⟨w.heap.size + 1, 0, none⟩ (.slice a2 n2 c2)).setCell ⟨w.heap.size + 1, 1, none⟩ (.int .i64 x2.sum)).cell? ⟨w.heap.size, 1, none⟩ = some (.int .i64 x1.sum) := (World.cell?_setCell_other _ _ _ _ (fun c => by injection c with c _ _; omega)).trans ((World.cell?_setCell_other _ _ _ _ (fun c => by injection c with c _ _; omega)).trans (World.cell?_setCell_same (w := w4.setCell ⟨w.heap.size, 0, none⟩ (.slice a1 n1 c1)) (a := ⟨w.heap.size, 1, none⟩) (v := .int .i64 x1.sum) ((World.cell?_setCell_other _ _ _ _ (fun c => by injection c with _ c _; omega)).trans z1)))
  have r2 : ((((w4.setCell ⟨w.heap.size, 0, none⟩ (.slice a1 n1 c1)).setCell ⟨w.heap.size, 1, none⟩ (.int .i64 x1.sum)).setCell ⟨w.heap.size + 1, 0, none⟩ (.slice a2 n2 c2)).setCell ⟨w.heap.size + 1, 1, none⟩ (.int .i64 x2.sum)).cell? ⟨w.heap.size + 1, 0, none⟩ = some (.slice a2 n2 c2) := (World.cell?_setCell_other _ _ _ _ (fun c => by injection c with _ c _; omega)).trans (World.cell?_setCell_same (w := ((w4.setCell ⟨w.heap.size, 0, none⟩ (.slice a1 n1 c1)).setCell ⟨w.heap.size, 1, none⟩ (.int .i64 x1.sum))) (a := ⟨w.heap.size + 1, 0, none⟩) (v := .slice a2 n2 c2) j0)
  have r3 : ((((w4.setCell ⟨w.heap.size, 0, none⟩ (.slice a1 n1 c1)).setCell ⟨w.heap.size, 1, none⟩ (.int .i64 x1.sum)).setCell ⟨w.heap.size + 1, 0, none⟩ (.slice a2 n2 c2)).setCell ⟨w.heap.size + 1, 1, none⟩ (.int .i64 x2.sum)).cell? ⟨w.heap.size + 1, 1, none⟩ = some (.int .i64 x2.sum) := World.cell?_setCell_same (w := ((w4.setCell ⟨w.heap.size, 0, none⟩ (.slice a1 n1 c1)).setCell ⟨w.heap.size, 1, none⟩ (.int .i64 x1.sum)).setCell ⟨w.heap.size + 1, 0, none⟩ (.slice a2 n2 c2)) (a := ⟨w.heap.size + 1, 1, none⟩) (v := .int .i64 x2.sum) ((World.cell?_setCell_other _ _ _ _ (fun c => by injection c with _ c _; omega)).trans j1)
  have HSm : Hid (Same (w.heap.size + 2) w4.heap.size w4 ((((w4.setCell ⟨w.heap.size, 0, none⟩ (.slice a1 n1 c1)).setCell ⟨w.heap.size, 1, none⟩ (.int .i64 x1.sum)).setCell ⟨w.heap.size + 1, 0, none⟩ (.slice a2 n2 c2)).setCell ⟨w.heap.size + 1, 1, none⟩ (.int .i64 x2.sum))) := (same_storeAll (g := w.heap.size) (.inl (by omega)) [.slice a1 n1 c1, .int .i64 x1.sum] 0 w4).trans (same_storeAll (g := w.heap.size + 1) (.inl (by omega)) [.slice a2 n2 c2, .int .i64 x2.sum] 0 ((w4.setCell ⟨w.heap.size, 0, none⟩ (.slice a1 n1 c1)).setCell ⟨w.heap.size, 1, none⟩ (.int .i64 x1.sum)))
  have HBB : Hid (Below w.heap.size w ((((w4.setCell ⟨w.heap.size, 0, none⟩ (.slice a1 n1 c1)).setCell ⟨w.heap.size, 1, none⟩ (.int .i64 x1.sum)).setCell ⟨w.heap.size + 1, 0, none⟩ (.slice a2 n2 c2)).setCell ⟨w.heap.size + 1, 1, none⟩ (.int .i64 x2.sum))) := ((((hb4.setCell (p := ⟨w.heap.size, 0, none⟩) (Nat.le_refl _) _).setCell (p := ⟨w.heap.size, 1, none⟩) (Nat.le_refl _) _).setCell (p := ⟨w.heap.size + 1, 0, none⟩) (Nat.le_succ _) _).setCell (p := ⟨w.heap.size + 1, 1, none⟩) (Nat.le_succ _) _)
  have HHI : Hid (w4.heap.size ≤ ((((w4.setCell ⟨w.heap.size, 0, none⟩ (.slice a1 n1 c1)).setCell ⟨w.heap.size, 1, none⟩ (.int .i64 x1.sum)).setCell ⟨w.heap.size + 1, 0, none⟩ (.slice a2 n2 c2)).setCell ⟨w.heap.size + 1, 1, none⟩ (.int .i64 x2.sum)).heap.size) := by show _ ≤ _; simp [World.setCell]
  clear z0 z1 y0 y1 j0 j1 k4 k5
  go_wp2
  refine bodyPost_ret (v := .tuple #[.agg #[.slice a1 n1 c1, .int .i64 x1.sum], .agg #[.slice a2 n2 c2, .int .i64 x2.sum]]) (by simp [results, Try.results13, go_sem, r0, r1, r2, r3]) rfl ?_
  exact ⟨_, _, _, _, _, _, _, _, rfl, hx1, hx2, ((hO1'.same HSm.out).wide (by omega) HHI.out).rd, ((hO2'.same HSm.out).wide (by omega) HHI.out).rd, HBB.out⟩
set_option maxHeartbeats 4000000 in
set_option maxRecDepth 100000 in
theorem drawPushed_any {lo hi : Nat} {xs : List Int} {w : World} {v : Value} (hr : Rd bytS lo hi w v xs) (hh : hi ≤ w.heap.size) (hx : ∀ x ∈ xs, U8 x) (hl : xs.length ≤ 1048576) :
    Calls Try.prog 6 #[v] w fun e w' => ∃ u a1 n1 c1 ys x1, e = .returned (.tuple #[u, .agg #[.slice a1 n1 c1, .int .i64 (x1 : StL).sum]]) ∧ SmallH ys ∧ SmallS x1 ∧ HOwn w.heap.size w'.heap.size w' u ys ∧ Rd intS w.heap.size w'.heap.size w' (.slice a1 n1 c1) x1.vals ∧ Below w.heap.size w w' := by
  go_enter Try.func6, Try.ntmps6
  go_upto_region 1 with fail
  have hA := heap_alloc_new w (.cells #[.slice none 0 0, .int .i64 0] 28)
  have hbA : Below w.heap.size w (w.alloc (.cells #[.slice none 0 0, .int .i64 0] 28)) := (Below.refl _ _).alloc (Nat.le_refl _) _
  have hsA : w.heap.size < (w.alloc (.cells #[.slice none 0 0, .int .i64 0] 28)).heap.size := by simp
  generalize w.alloc (.cells #[.slice none 0 0, .int .i64 0] 28) = wA at *
  have z0 : wA.cell? ⟨w.heap.size, 0, none⟩ = some (.slice none 0 0) := cell_heap0 hA rfl
  have z1 : wA.cell? ⟨w.heap.size, 1, none⟩ = some (.int .i64 0) := cell_heap0 hA rfl
  have g0 : wA.frozen? ⟨w.heap.size, 0, none⟩ = false := frozen_heap0 hA
  have g1 : wA.frozen? ⟨w.heap.size, 1, none⟩ = false := frozen_heap0 hA
  have hrA := hr.below hbA hh
  have hhA : hi ≤ wA.heap.size := by omega
  clear hA
  go_wp2_with fail
  refine (l01New_any hrA hhA hx hl).mono ?_
  rintro e w1 ⟨rfl, hb1, hc1, hs1⟩
  obtain ⟨g, hg⟩ : ∃ g, Hid (wA.heap.size = g) := ⟨_, rfl⟩
  have hgw : w.heap.size + 1 ≤ g := by have := hg.out; omega
  have hg1 : g < w1.heap.size := by have := hg.out; omega
  go_wp2_with fail
  refine (l11State_any hc1).mono ?_
  rw [hg.out]
  rintro e w2 ⟨a1, n1, c1, x1, rfl, hx1, hO1, ho2, hc2⟩
  have hs2 := ho2.size
  rw [hg.out] at hb1
  have hb2 := blw_out (hbA.trans (hb1.mono (show w.heap.size ≤ g by omega))) ho2 (by omega) (by omega)
  have hSA : Same 0 g wA w2 := (Same.of_below hb1 (Nat.le_refl _)).trans (ho2.same (by omega) (.inl (Nat.le_refl _)))
  replace z0 := (cells_same hSA (by omega) (by omega)).trans z0
  replace z1 := (cells_same hSA (by omega) (by omega)).trans z1
  replace g0 := (frz_same hSA (by omega) (by omega)).trans g0
  replace g1 := (frz_same hSA (by omega) (by omega)).trans g1
  clear hSA hb1 hc1 hs1 ho2 hbA hrA hr hsA hhA hg
  go_upto_region 3 with fail
  have hX := heap_alloc_new w2 (.cells #[.slice a1 n1 c1, .int .i64 x1.sum] 28)
  have hbX : Below w2.heap.size w2 (w2.alloc (.cells #[.slice a1 n1 c1, .int .i64 x1.sum] 28)) := (Below.refl _ _).alloc (Nat.le_refl _) _
  have hsX : w2.heap.size < (w2.alloc (.cells #[.slice a1 n1 c1, .int .i64 x1.sum] 28)).heap.size := by simp
  generalize w2.alloc (.cells #[.slice a1 n1 c1, .int .i64 x1.sum] 28) = w3 at *
  have s0 : w3.drew.cell? ⟨w2.heap.size, 0, none⟩ = some (.slice a1 n1 c1) := cell_heap0 hX rfl
  have s1 : w3.drew.cell? ⟨w2.heap.size, 1, none⟩ = some (.int .i64 x1.sum) := cell_heap0 hX rfl
  have hSA : Same 0 w2.heap.size w2 w3.drew := Same.of_below hbX.drew (Nat.le_refl _)
  replace z0 := (cells_same hSA (Nat.zero_le _) (by omega)).trans z0
  replace z1 := (cells_same hSA (Nat.zero_le _) (by omega)).trans z1
  replace g0 := (frz_same hSA (Nat.zero_le _) (by omega)).trans g0
  replace g1 := (frz_same hSA (Nat.zero_le _) (by omega)).trans g1
  have hc3 := hc2.below hbX.drew (by omega)
  have hb3 := hb2.trans (hbX.drew.mono (show w.heap.size ≤ w2.heap.size by omega))
  replace hO1 := (hO1.same (hSA.narrow (Nat.zero_le _) (Nat.le_refl _))).wide (lo' := g + 1) (hi' := w3.drew.heap.size) (by omega) (show w2.heap.size ≤ w3.heap.size by omega)
  replace hsX : w2.heap.size < w3.drew.heap.size := hsX
  clear hX hbX hSA hc2 hb2
  go_wp2_with fail
  refine wp_region_held_drew (S := fun w' => w'.cell? ⟨w2.heap.size, 0, none⟩ = some (.slice a1 n1 c1) ∧ w'.cell? ⟨w2.heap.size, 1, none⟩ = some (.int .i64 x1.sum)) (by kernel_rfl) ?_ (fun hHeld => ?_)
  · exact ⟨s0, s1⟩
  generalize w3.drew = wD at *
  refine wpAnyH_take (i := 0) (v := ?v3) (at_op rfl) (by kernel_rfl) (by kernel_rfl) (by kernel_rfl) (fun _ _ _ h => h) (Or.inl ⟨by rfl, ?y3⟩) (by assumption) ?r3
  case y3 =>
    intro wx hSx
    go_simp
    try with_reducible rfl
  try simp only [Act.put, List.setIfInBounds_toArray, List.set_cons_zero, List.set_cons_succ]
  refine wpAnyH_take (i := 2) (v := ?v4) (at_op rfl) (by kernel_rfl) (by kernel_rfl) (by kernel_rfl) (fun _ _ _ h => h) (Or.inl ⟨by rfl, ?y4⟩) (by assumption) ?r4
  case y4 =>
    intro wx hSx
    go_simp
    try with_reducible rfl
  try simp only [Act.put, List.setIfInBounds_toArray, List.set_cons_zero, List.set_cons_succ]
  refine wpAnyH_ready (rs := [1]) (by kernel_rfl) (by simp) ?_
  refine AllReadyH.cons (at_op rfl) (fun K hK => ?_) AllReadyH.nil
  go_simp
  refine (l11Any_any hc3).mono ?_
  rintro e w4 ⟨u2, ys, rfl, hys, hO4, ho4, hc4⟩
  have hSX : Same (g + 1) wD.heap.size wD w4 := ho4.same (Nat.le_refl _) (.inr (Nat.le_refl _))
  have hs4 := ho4.size
  have k4 : w4.cell? ⟨w2.heap.size, 0, none⟩ = some (.slice a1 n1 c1) ∧ w4.cell? ⟨w2.heap.size, 1, none⟩ = some (.int .i64 x1.sum) := ⟨(cells_same hSX (by omega) (by omega)).trans s0, (cells_same hSX (by omega) (by omega)).trans s1⟩
  have hSR : Same w.heap.size (w.heap.size + 1) wD w4 := ho4.same (by omega) (.inl (by omega))
  replace z0 := (cells_same hSR (by omega) (by omega)).trans z0
  replace z1 := (cells_same hSR (by omega) (by omega)).trans z1
  replace g0 := (frz_same hSR (by omega) (by omega)).trans g0
  replace g1 := (frz_same hSR (by omega) (by omega)).trans g1
  have hO1' := (hO1.same (hSX.narrow (by omega) (Nat.le_refl _))).wide (lo' := w.heap.size + 1) (hi' := w4.heap.size) (by omega) hs4
  have hO2' := hO4.wide (lo' := w.heap.size + 1) (hi' := w4.heap.size) (by omega) (Nat.le_refl _)
  have hb4 := blw_out hb3 ho4 (by omega) (by omega)
  clear hO1 hO4 hSX hSR ho4 hc3 hc4 s0 s1
  go_wp2_with fail
  refine hK.out _ _ k4 (fun _ => ?_)
  clear hK K
  try simp only [Act.put, List.setIfInBounds_toArray, List.set_cons_zero, List.set_cons_succ]
  refine wpAnyH_take (i := 3) (v := ?v5) (at_op rfl) (by kernel_rfl) (by kernel_rfl) (by kernel_rfl) (fun _ _ _ h => h) (Or.inl ⟨by rfl, ?y5⟩) (by assumption) ?r5
  case y5 =>
    intro wx hSx
    go_simp
    try with_reducible rfl
  try simp only [Act.put, List.setIfInBounds_toArray, List.set_cons_zero, List.set_cons_succ]
  refine wpAnyH_ready (rs := [4]) (by kernel_rfl) (by simp) ?_
  refine AllReadyH.cons (at_op rfl) (fun K hK => ?_) AllReadyH.nil
  go_wp2_with fail
  have k5 := keepG (v0 := .slice a1 n1 c1) (v1 := .int .i64 x1.sum) k4 (show w.heap.size < w2.heap.size by omega)
  refine hK.out _ _ k5 (fun _ => ?_)
  clear hK K
  try simp only [Act.put, List.setIfInBounds_toArray, List.set_cons_zero, List.set_cons_succ]
  refine wpAnyH_done (by kernel_rfl) ?_ _
  have r0 : ((w4.setCell ⟨w.heap.size, 0, none⟩ (.slice a1 n1 c1)).setCell ⟨w.heap.size, 1, none⟩ (.int .i64 x1.sum)).cell? ⟨w.heap.size, 0, none⟩ = some (.slice a1 n1 c1) := (World.cell?_setCell_other _ _ _ _ (fun c => by injection c with _ c _; omega)).trans (World.cell?_setCell_same (w := w4) (a := ⟨w.heap.size, 0, none⟩) (v := .slice a1 n1 c1) z0)
  have r1 : ((w4.setCell ⟨w.heap.size, 0, none⟩ (.slice a1 n1 c1)).setCell ⟨w.heap.size, 1, none⟩ (.int .i64 x1.sum)).cell? ⟨w.heap.size, 1, none⟩ = some (.int .i64 x1.sum) := World.cell?_setCell_same (w := w4.setCell ⟨w.heap.size, 0, none⟩ (.slice a1 n1 c1)) (a := ⟨w.heap.size, 1, none⟩) (v := .int .i64 x1.sum) ((World.cell?_setCell_other _ _ _ _ (fun c => by injection c with _ c _; omega)).trans z1)
  have HSm : Hid (Same (w.heap.size + 1) w4.heap.size w4 ((w4.setCell ⟨w.heap.size, 0, none⟩ (.slice a1 n1 c1)).setCell ⟨w.heap.size, 1, none⟩ (.int .i64 x1.sum))) := same_storeAll (g := w.heap.size) (.inl (by omega)) [.slice a1 n1 c1, .int .i64 x1.sum] 0 w4
  have HBB : Hid (Below w.heap.size w ((w4.setCell ⟨w.heap.size, 0, none⟩ (.slice a1 n1 c1)).setCell ⟨w.heap.size, 1, none⟩ (.int .i64 x1.sum))) := (hb4.setCell (p := ⟨w.heap.size, 0, none⟩) (Nat.le_refl _) _).setCell (p := ⟨w.heap.size, 1, none⟩) (Nat.le_refl _) _
  have HHI : Hid (w4.heap.size ≤ ((w4.setCell ⟨w.heap.size, 0, none⟩ (.slice a1 n1 c1)).setCell ⟨w.heap.size, 1, none⟩ (.int .i64 x1.sum)).heap.size) := by show _ ≤ _; simp [World.setCell]
  clear z0 z1 k4 k5
  go_wp2
  refine bodyPost_ret (v := .tuple #[u2, .agg #[.slice a1 n1 c1, .int .i64 x1.sum]]) (by simp [results, Try.results6, go_sem, r0, r1]) rfl ?_
  exact ⟨_, _, _, _, _, _, rfl, hys, hx1, (hO2'.same HSm.out).wide (by omega) HHI.out, ((hO1'.same HSm.out).wide (by omega) HHI.out).rd, HBB.out⟩
set_option maxHeartbeats 400000 in
set_option maxRecDepth 100000 in
theorem sameIn_any (xs : List Int) (v u : Value) (lo hi lo' hi' : Nat) (w : World) (hr : Rd intS lo hi w v xs) (hh : hi ≤ w.heap.size) (hr' : Rd intS lo' hi' w u xs) (hh' : hi' ≤ w.heap.size) :
    Calls Try.prog 17 #[v, u] w fun e w' => e = .returned (.bool true) ∧ Below w.heap.size w w' := by
  have hl := hr.len_le
  obtain ⟨a, c, rfl⟩ := hr.sl
  obtain ⟨a', c', rfl⟩ := hr'.sl
  go_enter Try.func17, Try.ntmps17
  go_wp2
  go_loopw [5] (fun i wr => ∃ k : Nat, k ≤ xs.length ∧ i = .int .i64 k ∧ Below w.heap.size w wr) (fun i _ => xs.length - (intOf i).toNat)
  case atStart => exact ⟨0, Nat.zero_le _, rfl, Below.refl _ _⟩
  case round =>
    obtain ⟨k, hk, rfl, hb⟩ := hrel
    by_cases hlt : k < xs.length
    · obtain ⟨b, off, rfl, hlo, hhi, c0⟩ := (hr.below hb hh).intAt hlt
      obtain ⟨b', off', rfl, hlo', hhi', q0⟩ := (hr'.below hb hh').intAt hlt
      have hki : (k : Int) < (xs.length : Int) := by omega
      generalize xs.getD k 0 = x at *
      clear hr hr'
      go_wp2_with fail
      go_quiet (fail)
      go_wp2
      go_roundw
      case rel => exact ⟨k + 1, by omega, by go_num, blw_drewN hb _⟩
      case measure => simp [intOf]; omega
    · go_wp2
      go_ret
      exact ⟨rfl, hb⟩
set_option maxHeartbeats 2000000 in
set_option maxRecDepth 100000 in
theorem sameSt_any (xs : List StL) (v u : Value) (lo hi lo' hi' : Nat) (w : World) (hr : HOwn lo hi w v xs) (hh : hi ≤ w.heap.size) (hr' : HOwn lo' hi' w u xs) (hh' : hi' ≤ w.heap.size) (hl : xs.length ≤ 1048576) :
    Calls Try.prog 15 #[v, u] w fun e w' => e = .returned (.bool true) ∧ Below w.heap.size w w' := by
  obtain ⟨a, c, rfl, _, _⟩ := hr.form
  obtain ⟨a', c', rfl, _, _⟩ := hr'.form
  have HR := Lib.hid (fun w4 (h4 : Below w.heap.size w w4) => hr.below h4 hh)
  have HR' := Lib.hid (fun w4 (h4 : Below w.heap.size w w4) => hr'.below h4 hh')
  go_enter Try.func15, Try.ntmps15
  go_wp2
  go_loopw [5] (fun i wr => ∃ k : Nat, k ≤ xs.length ∧ i = .int .i64 k ∧ Below w.heap.size w wr) (fun i _ => xs.length - (intOf i).toNat)
  case atStart => exact ⟨0, Nat.zero_le _, rfl, Below.refl _ _⟩
  case round =>
    obtain ⟨k, hk, rfl, hb⟩ := hrel
    have hsz := hb.size
    by_cases hlt : k < xs.length
    · obtain ⟨G, u, rfl, hlo, hhi, -, c0, c1, hru⟩ := (HR.out wr hb).at hlt
      obtain ⟨G', u', rfl, hlo', hhi', -, d0, d1, hru'⟩ := (HR'.out wr hb).at hlt
      have hki : (k : Int) < (xs.length : Int) := by omega
      have hkz : (0 : Int) ≤ (k : Int) := by omega
      generalize stA xs k = x at *
      have HSI := Lib.hid (sameIn_any x.vals u u' lo hi lo' hi' wr.drew hru (show hi ≤ wr.heap.size by omega) hru' (show hi' ≤ wr.heap.size by omega))
      clear hru hru' hr hr'
      go_wp2_with fail
      refine wp_region_held_drew (S := fun w' => w'.cell? ⟨G, k * 2, none⟩ = some u ∧ w'.cell? ⟨G, k * 2 + 1, none⟩ = some (.int .i64 x.sum) ∧ w'.cell? ⟨G', k * 2, none⟩ = some u' ∧ w'.cell? ⟨G', k * 2 + 1, none⟩ = some (.int .i64 x.sum) ∧ Below w.heap.size w w') (by kernel_rfl) ?_ (fun hHeld => ?_)
      · exact ⟨c0, c1, d0, d1, hb.drew⟩
      refine wpAnyH_take (i := 0) (v := ?v6) (at_op rfl) (by kernel_rfl) (by kernel_rfl) (by kernel_rfl) (fun _ _ _ h => h) (Or.inl ⟨by rfl, ?y6⟩) (by assumption) ?r6
      case y6 =>
        intro wx hSx
        go_simp
        try with_reducible rfl
      try simp only [Act.put, List.setIfInBounds_toArray, List.set_cons_zero, List.set_cons_succ]
      refine wpAnyH_take (i := 1) (v := ?v7) (at_op rfl) (by kernel_rfl) (by kernel_rfl) (by kernel_rfl) (fun _ _ _ h => h) (Or.inl ⟨by rfl, ?y7⟩) (by assumption) ?r7
      case y7 =>
        intro wx hSx
        go_simp
        try with_reducible rfl
      try simp only [Act.put, List.setIfInBounds_toArray, List.set_cons_zero, List.set_cons_succ]
      refine wpAnyH_take (i := 2) (v := ?v8) (at_op rfl) (by kernel_rfl) (by kernel_rfl) (by kernel_rfl) (fun _ _ _ h => h) (Or.inl ⟨by rfl, ?y8⟩) (by assumption) ?r8
      case y8 =>
        intro wx hSx
        go_simp
        try with_reducible rfl
      try simp only [Act.put, List.setIfInBounds_toArray, List.set_cons_zero, List.set_cons_succ]
      refine wpAnyH_take (i := 3) (v := ?v9) (at_op rfl) (by kernel_rfl) (by kernel_rfl) (by kernel_rfl) (fun _ _ _ h => h) (Or.inl ⟨by rfl, ?y9⟩) (by assumption) ?r9
      case y9 =>
        intro wx hSx
        go_simp
        try with_reducible rfl
      try simp only [Act.put, List.setIfInBounds_toArray, List.set_cons_zero, List.set_cons_succ]
      refine wpAnyH_take (i := 4) (v := ?v10) (at_op rfl) (by kernel_rfl) (by kernel_rfl) (by kernel_rfl) (fun _ _ _ h => h) (Or.inl ⟨by rfl, ?y10⟩) (by assumption) ?r10
      case y10 =>
        intro wx hSx
        go_simp
        try with_reducible rfl
      try simp only [Act.put, List.setIfInBounds_toArray, List.set_cons_zero, List.set_cons_succ]
      refine wpAnyH_take (i := 5) (v := ?v11) (at_op rfl) (by kernel_rfl) (by kernel_rfl) (by kernel_rfl) (fun _ _ _ h => h) (Or.inl ⟨by rfl, ?y11⟩) (by assumption) ?r11
      case y11 =>
        intro wx hSx
        go_simp
        try with_reducible rfl
      try simp only [Act.put, List.setIfInBounds_toArray, List.set_cons_zero, List.set_cons_succ]
      refine wpAnyH_take (i := 6) (v := ?v12) (at_op rfl) (by kernel_rfl) (by kernel_rfl) (by kernel_rfl) (fun _ _ _ h => h) (Or.inl ⟨by rfl, ?y12⟩) (by assumption) ?r12
      case y12 =>
        intro wx hSx
        go_simp
        try with_reducible rfl
      try simp only [Act.put, List.setIfInBounds_toArray, List.set_cons_zero, List.set_cons_succ]
      refine wpAnyH_take (i := 7) (v := ?v13) (at_op rfl) (by kernel_rfl) (by kernel_rfl) (by kernel_rfl) (fun _ _ _ h => h) (Or.inl ⟨by rfl, ?y13⟩) (by assumption) ?r13
      case y13 =>
        intro wx hSx
        go_simp
        try with_reducible rfl
      try simp only [Act.put, List.setIfInBounds_toArray, List.set_cons_zero, List.set_cons_succ]
      refine wpAnyH_take (i := 8) (v := ?v14) (at_op rfl) (by kernel_rfl) (by kernel_rfl) (by kernel_rfl) (fun _ _ _ h => h) (Or.inl ⟨by rfl, ?y14⟩) (by assumption) ?r14
      case y14 =>
        intro wx hSx
        go_simp
        try with_reducible rfl
      try simp only [Act.put, List.setIfInBounds_toArray, List.set_cons_zero, List.set_cons_succ]
      refine wpAnyH_take (i := 9) (v := ?v15) (at_op rfl) (by kernel_rfl) (by kernel_rfl) (by kernel_rfl) (fun _ _ _ h => h) (Or.inl ⟨by rfl, ?y15⟩) (by assumption) ?r15
      case y15 =>
        intro wx hSx
        go_simp
        try with_reducible rfl
      try simp only [Act.put, List.setIfInBounds_toArray, List.set_cons_zero, List.set_cons_succ]
      refine wpAnyH_take (i := 10) (v := ?v16) (at_op rfl) (by kernel_rfl) (by kernel_rfl) (by kernel_rfl) (fun _ _ _ h => h) (Or.inl ⟨by rfl, ?y16⟩) (by assumption) ?r16
      case y16 =>
        intro wx hSx
        go_simp
        try with_reducible rfl
      try simp only [Act.put, List.setIfInBounds_toArray, List.set_cons_zero, List.set_cons_succ]
      refine wpAnyH_take (i := 11) (v := ?v17) (at_op rfl) (by kernel_rfl) (by kernel_rfl) (by kernel_rfl) (fun _ _ _ h => h) (Or.inl ⟨by rfl, ?y17⟩) (by assumption) ?r17
      case y17 =>
        intro wx hSx
        go_simp
        try with_reducible rfl
      try simp only [Act.put, List.setIfInBounds_toArray, List.set_cons_zero, List.set_cons_succ]
      refine wpAnyH_take (i := 12) (v := ?v18) (at_op rfl) (by kernel_rfl) (by kernel_rfl) (by kernel_rfl) (fun _ _ _ h => h) (Or.inl ⟨by rfl, ?y18⟩) (by assumption) ?r18
      case y18 =>
        intro wx hSx
        go_simp
        try with_reducible rfl
      try simp only [Act.put, List.setIfInBounds_toArray, List.set_cons_zero, List.set_cons_succ]
      refine wpAnyH_take (i := 13) (v := ?v19) (at_op rfl) (by kernel_rfl) (by kernel_rfl) (by kernel_rfl) (fun _ _ _ h => h) (Or.inl ⟨by rfl, ?y19⟩) (by assumption) ?r19
      case y19 =>
        intro wx hSx
        go_simp
        try with_reducible rfl
      try simp only [Act.put, List.setIfInBounds_toArray, List.set_cons_zero, List.set_cons_succ]
      refine wpAnyH_take (i := 14) (v := ?v20) (at_op rfl) (by kernel_rfl) (by kernel_rfl) (by kernel_rfl) (fun _ _ _ h => h) (Or.inl ⟨by rfl, ?y20⟩) (by assumption) ?r20
      case y20 =>
        intro wx hSx
        go_simp
        try with_reducible rfl
      try simp only [Act.put, List.setIfInBounds_toArray, List.set_cons_zero, List.set_cons_succ]
      refine wpAnyH_take (i := 15) (v := ?v21) (at_op rfl) (by kernel_rfl) (by kernel_rfl) (by kernel_rfl) (fun _ _ _ h => h) (Or.inl ⟨by rfl, ?y21⟩) (by assumption) ?r21
      case y21 =>
        intro wx hSx
        go_simp
        try with_reducible rfl
      try simp only [Act.put, List.setIfInBounds_toArray, List.set_cons_zero, List.set_cons_succ]
      refine wpAnyH_take (i := 16) (v := ?v22) (at_op rfl) (by kernel_rfl) (by kernel_rfl) (by kernel_rfl) (fun _ _ _ h => h) (Or.inl ⟨by rfl, ?y22⟩) (by assumption) ?r22
      case y22 =>
        intro wx hSx
        go_simp
        try with_reducible rfl
      try simp only [Act.put, List.setIfInBounds_toArray, List.set_cons_zero, List.set_cons_succ]
      refine wpAnyH_take (i := 17) (v := ?v23) (at_op rfl) (by kernel_rfl) (by kernel_rfl) (by kernel_rfl) (fun _ _ _ h => h) (Or.inl ⟨by rfl, ?y23⟩) (by assumption) ?r23
      case y23 =>
        intro wx hSx
        go_simp
        try with_reducible rfl
      try simp only [Act.put, List.setIfInBounds_toArray, List.set_cons_zero, List.set_cons_succ]
      refine wpAnyH_take (i := 18) (v := ?v24) (at_op rfl) (by kernel_rfl) (by kernel_rfl) (by kernel_rfl) (fun _ _ _ h => h) (Or.inl ⟨by rfl, ?y24⟩) (by assumption) ?r24
      case y24 =>
        intro wx hSx
        go_simp
        try with_reducible rfl
      try simp only [Act.put, List.setIfInBounds_toArray, List.set_cons_zero, List.set_cons_succ]
      refine wpAnyH_take (i := 19) (v := ?v25) (at_op rfl) (by kernel_rfl) (by kernel_rfl) (by kernel_rfl) (fun _ _ _ h => h) (Or.inl ⟨by rfl, ?y25⟩) (by assumption) ?r25
      case y25 =>
        intro wx hSx
        go_simp
        try with_reducible rfl
      try simp only [Act.put, List.setIfInBounds_toArray, List.set_cons_zero, List.set_cons_succ]
      refine wpAnyH_take (i := 20) (v := ?v26) (at_op rfl) (by kernel_rfl) (by kernel_rfl) (by kernel_rfl) (fun _ _ _ h => h) (Or.inl ⟨by rfl, ?y26⟩) (by assumption) ?r26
      case y26 =>
        intro wx hSx
        go_simp
        try with_reducible rfl
      try simp only [Act.put, List.setIfInBounds_toArray, List.set_cons_zero, List.set_cons_succ]
      refine wpAnyH_take (i := 21) (v := ?v27) (at_op rfl) (by kernel_rfl) (by kernel_rfl) (by kernel_rfl) (fun _ _ _ h => h) (Or.inl ⟨by rfl, ?y27⟩) (by assumption) ?r27
      case y27 =>
        intro wx hSx
        go_simp
        try with_reducible rfl
      try simp only [Act.put, List.setIfInBounds_toArray, List.set_cons_zero, List.set_cons_succ]
      refine wpAnyH_ready (rs := [22]) (by kernel_rfl) (by simp) ?_
      refine AllReadyH.cons (at_op rfl) (fun K hK => ?_) AllReadyH.nil
      go_simp
      refine HSI.out.mono ?_
      rintro e w5 ⟨rfl, hb5⟩
      go_wp2_with fail
      refine hK.out _ _ (keep4 hHeld hb5) (fun _ => ?_)
      clear hK K
      try simp only [Act.put, List.setIfInBounds_toArray, List.set_cons_zero, List.set_cons_succ]
      refine wpAnyH_take (i := 23) (v := ?v28) (at_op rfl) (by kernel_rfl) (by kernel_rfl) (by kernel_rfl) (fun _ _ _ h => h) (Or.inl ⟨by rfl, ?y28⟩) (by assumption) ?r28
      case y28 =>
        intro wx hSx
        go_simp
        try with_reducible rfl
      try simp only [Act.put, List.setIfInBounds_toArray, List.set_cons_zero, List.set_cons_succ]
      refine wpAnyH_take (i := 24) (v := ?v29) (at_op rfl) (by kernel_rfl) (by kernel_rfl) (by kernel_rfl) (fun _ _ _ h => h) (Or.inl ⟨by rfl, ?y29⟩) (by assumption) ?r29
      case y29 =>
        intro wx hSx
        go_simp
        try with_reducible rfl
      try simp only [Act.put, List.setIfInBounds_toArray, List.set_cons_zero, List.set_cons_succ]
      refine wpAnyH_done (by kernel_rfl) ?_ _
      have hb9 : Below w.heap.size w w5 := (hb.drew).trans (hb5.mono hsz)
      go_wp2
      go_roundw
      case rel => exact ⟨k + 1, by omega, by go_num, hb9⟩
      case measure => simp [intOf]; omega
    · go_wp2
      go_ret
      exact ⟨rfl, hb⟩
end Go.Proofs.Ytjaginciejljkaa
