/- Popped. -/
import Derived.Test.YtjaginciejljkaaHeapI
namespace Go.Proofs.Ytjaginciejljkaa
open Go.RowKit

/-- what Popped answers -/
def PopPost (w : World) (xs : List StL) (e : Ending) (w' : World) : Prop :=
  ∃ u a n c, e = .returned (.tuple #[u, .agg #[.slice a n c, .int .i64 (stA xs 0).sum], .bool (decide (0 < xs.length))]) ∧ HOwn w.heap.size w'.heap.size w' u (popL xs) ∧ Rd intS w.heap.size w'.heap.size w' (.slice a n c) (stA xs 0).vals ∧ Below w.heap.size w w'
theorem HOwn.nil {lo hi : Nat} {w : World} : HOwn lo hi w (.slice none 0 0) [] := ⟨[], .nil, rfl⟩
theorem stA_map0 (ps : List (StL × SV)) {xs : List StL} (h : ps.map (·.1) = xs) (hp : 0 < xs.length) : 0 < ps.length := by rw [← h, List.length_map] at hp; exact hp
set_option maxHeartbeats 4000000 in
set_option maxRecDepth 100000 in
theorem popped_impl (xs : List StL) (v : Value) (lo hi : Nat) (w : World) (hr : HOwn lo hi w v xs) (hh : hi ≤ w.heap.size) (hl : xs.length ≤ 1048576) (hz : ∀ x ∈ xs, x.vals.length ≤ 1048576) :
    Calls Try.prog 9 #[v] w (PopPost w xs) := by
  obtain ⟨a, c, rfl, h2, h3⟩ := hr.form
  unfold maxLen at h3
  go_enter Try.func9, Try.ntmps9
  go_upto_region 1 with fail
  have hA := heap_alloc_new w (.cells #[.slice none 0 0, .int .i64 0] 28)
  have hbA : Below w.heap.size w (w.alloc (.cells #[.slice none 0 0, .int .i64 0] 28)) := (Below.refl _ _).alloc (Nat.le_refl _) _
  have hsA : w.heap.size < (w.alloc (.cells #[.slice none 0 0, .int .i64 0] 28)).heap.size := by simp
  generalize w.alloc (.cells #[.slice none 0 0, .int .i64 0] 28) = wA at *
  have z0 : wA.cell? ⟨w.heap.size, 0, none⟩ = some (.slice none 0 0) := cell_heap0 hA rfl
  have z1 : wA.cell? ⟨w.heap.size, 1, none⟩ = some (.int .i64 0) := cell_heap0 hA rfl
  have g0 : wA.frozen? ⟨w.heap.size, 0, none⟩ = false := frozen_heap0 hA
  have g1 : wA.frozen? ⟨w.heap.size, 1, none⟩ = false := frozen_heap0 hA
  have HCS := Lib.hid (copyStates_impl xs _ lo hi wA (hr.below hbA hh) (by omega) hl hz)
  clear hA
  by_cases h0 : xs.length = 0
  · have hx : xs = [] := List.eq_nil_of_length_eq_zero h0
    subst hx
    clear HCS hz hr
    have r0 : ((wA.setCell ⟨w.heap.size, 0, none⟩ (.slice none 0 0)).setCell ⟨w.heap.size, 1, none⟩ (.int .i64 0)).cell? ⟨w.heap.size, 0, none⟩ = some (.slice none 0 0) :=
      (World.cell?_setCell_other _ _ _ _ (fun c => by injection c with _ c _; omega)).trans (World.cell?_setCell_same (w := wA) (a := ⟨w.heap.size, 0, none⟩) (v := .slice none 0 0) z0)
    have r1 : ((wA.setCell ⟨w.heap.size, 0, none⟩ (.slice none 0 0)).setCell ⟨w.heap.size, 1, none⟩ (.int .i64 0)).cell? ⟨w.heap.size, 1, none⟩ = some (.int .i64 0) :=
      World.cell?_setCell_same (w := wA.setCell ⟨w.heap.size, 0, none⟩ (.slice none 0 0)) (a := ⟨w.heap.size, 1, none⟩) (v := .int .i64 0) ((World.cell?_setCell_other _ _ _ _ (fun c => by injection c with _ c _; omega)).trans z1)
    go_wp2_with fail
    refine bodyPost_ret (v := .tuple #[.slice none 0 0, .agg #[.slice none 0 0, .int .i64 0], .bool false]) (by simp [results, Try.results9, go_sem, r0, r1]) rfl ?_
    exact ⟨_, _, _, _, rfl, HOwn.nil, Rd.nil _ _ _ _, (hbA.setCell (p := ⟨w.heap.size, 0, none⟩) (Nat.le_refl _) _).setCell (p := ⟨w.heap.size, 1, none⟩) (Nat.le_refl _) _⟩
  · have h0i : ¬ (xs.length : Int) = 0 := by omega
    have hdp : decide (0 < xs.length) = true := decide_eq_true (by omega)
    go_wp2_with fail
    refine HCS.out.mono ?_
    rintro e w2 ⟨u2, rfl, ⟨qs, hS2, hq2⟩, hb2⟩
    have hql : qs.length = xs.length := by rw [← hq2, List.length_map]
    have HP := Lib.hid (pop_impl qs u2 wA.heap.size w2.heap.size w2 hS2 (by omega) hb2.size (Nat.le_refl _) (by omega))
    rw [hq2] at HP
    obtain ⟨x0, hx0⟩ : ∃ x0, Hid (stA xs 0 = x0) := ⟨_, rfl⟩
    obtain ⟨xp, hxp⟩ : ∃ xp, Hid (popL xs = xp) := ⟨_, rfl⟩
    rw [hx0.out, hxp.out] at HP
    clear hS2 hq2 HCS
    go_wp2_with fail
    refine HP.out.mono ?_
    rintro e w3 ⟨u3, a3, n3, c3, rfl, hH3, hr3, hb3⟩
    go_wp2_with fail
    have hb4 : Below w.heap.size w w3 := (hbA.trans (hb2.mono (by omega))).trans (hb3.mono (by omega))
    have hb5 : Below wA.heap.size wA w3 := hb2.trans hb3
    have hs5 := hb5.size
    have hB := heap_alloc_new w3 (.cells #[.slice a3 n3 c3, .int .i64 x0.sum] 28)
    have hbB : Below w3.heap.size w3 (w3.alloc (.cells #[.slice a3 n3 c3, .int .i64 x0.sum] 28)) := (Below.refl _ _).alloc (Nat.le_refl _) _
    generalize w3.alloc (.cells #[.slice a3 n3 c3, .int .i64 x0.sum] 28) = w4 at *
    have hbC := hb5.trans (hbB.mono hs5)
    have s0 : w4.cell? ⟨w3.heap.size, 0, none⟩ = some (.slice a3 n3 c3) := cell_heap0 hB rfl
    have s1 : w4.cell? ⟨w3.heap.size, 1, none⟩ = some (.int .i64 x0.sum) := cell_heap0 hB rfl
    replace z0 := (hbC.cell (p := ⟨w.heap.size, 0, none⟩) hsA).trans z0
    replace z1 := (hbC.cell (p := ⟨w.heap.size, 1, none⟩) hsA).trans z1
    replace g0 := (World.frozen?_of_block (a := ⟨w.heap.size, 0, none⟩) (hbC.block w.heap.size hsA)).trans g0
    replace g1 := (World.frozen?_of_block (a := ⟨w.heap.size, 1, none⟩) (hbC.block w.heap.size hsA)).trans g1
    have hne : w.heap.size < w3.heap.size := by omega
    clear hB
    refine wp_region_held_drew (S := fun w' => w'.cell? ⟨w3.heap.size, 0, none⟩ = some (.slice a3 n3 c3) ∧ w'.cell? ⟨w3.heap.size, 1, none⟩ = some (.int .i64 x0.sum)) (by kernel_rfl) ?_ (fun hHeld => ?_)
    · exact ⟨s0, s1⟩
    replace z0 : w4.drew.cell? ⟨w.heap.size, 0, none⟩ = some (.slice none 0 0) := z0
    replace z1 : w4.drew.cell? ⟨w.heap.size, 1, none⟩ = some (.int .i64 0) := z1
    replace g0 : w4.drew.frozen? ⟨w.heap.size, 0, none⟩ = false := g0
    replace g1 : w4.drew.frozen? ⟨w.heap.size, 1, none⟩ = false := g1
    have hbD := hbB.drew
    clear hbB s0 s1 hbC
    generalize w4.drew = wX at *
    refine wpAnyH_take (i := 0) (v := ?v1) (at_op rfl) (by kernel_rfl) (by kernel_rfl) (by kernel_rfl) (fun _ _ _ h => h) (Or.inl ⟨by rfl, ?y1⟩) (by assumption) ?r1
    case y1 =>
      intro wx hSx
      go_simp
      try with_reducible rfl
    try simp only [Act.put, List.setIfInBounds_toArray, List.set_cons_zero, List.set_cons_succ]
    refine wpAnyH_take (i := 1) (v := ?v2) (at_op rfl) (by kernel_rfl) (by kernel_rfl) (by kernel_rfl) (fun _ _ _ h => h) (Or.inl ⟨by rfl, ?y2⟩) (by assumption) ?r2
    case y2 =>
      intro wx hSx
      go_simp
      try with_reducible rfl
    try simp only [Act.put, List.setIfInBounds_toArray, List.set_cons_zero, List.set_cons_succ]
    refine wpAnyH_take (i := 2) (v := ?v3) (at_op rfl) (by kernel_rfl) (by kernel_rfl) (by kernel_rfl) (fun _ _ _ h => h) (Or.inl ⟨by rfl, ?y3⟩) (by assumption) ?r3
    case y3 =>
      intro wx hSx
      go_simp
      try with_reducible rfl
    try simp only [Act.put, List.setIfInBounds_toArray, List.set_cons_zero, List.set_cons_succ]
    refine wpAnyH_ready (rs := [3]) (by kernel_rfl) (by simp) ?_
    refine AllReadyH.cons (at_op rfl) (fun K hK => ?_) AllReadyH.nil
    go_wp2_with fail
    refine hK.out _ _ (keepG hHeld hne) (fun _ => ?_)
    clear hK K
    try simp only [Act.put, List.setIfInBounds_toArray, List.set_cons_zero, List.set_cons_succ]
    refine wpAnyH_take (i := 4) (v := ?v4) (at_op rfl) (by kernel_rfl) (by kernel_rfl) (by kernel_rfl) (fun _ _ _ h => h) (Or.inl ⟨by rfl, ?y4⟩) (by assumption) ?r4
    case y4 =>
      intro wx hSx
      go_simp
      try with_reducible rfl
    try simp only [Act.put, List.setIfInBounds_toArray, List.set_cons_zero, List.set_cons_succ]
    refine wpAnyH_done (by kernel_rfl) ?_ _
    have r0 : ((wX.setCell ⟨w.heap.size, 0, none⟩ (.slice a3 n3 c3)).setCell ⟨w.heap.size, 1, none⟩ (.int .i64 x0.sum)).cell? ⟨w.heap.size, 0, none⟩ = some (.slice a3 n3 c3) :=
      (World.cell?_setCell_other _ _ _ _ (fun c => by injection c with _ c _; omega)).trans (World.cell?_setCell_same (w := wX) (a := ⟨w.heap.size, 0, none⟩) (v := .slice a3 n3 c3) z0)
    have r1 : ((wX.setCell ⟨w.heap.size, 0, none⟩ (.slice a3 n3 c3)).setCell ⟨w.heap.size, 1, none⟩ (.int .i64 x0.sum)).cell? ⟨w.heap.size, 1, none⟩ = some (.int .i64 x0.sum) :=
      World.cell?_setCell_same (w := wX.setCell ⟨w.heap.size, 0, none⟩ (.slice a3 n3 c3)) (a := ⟨w.heap.size, 1, none⟩) (v := .int .i64 x0.sum) ((World.cell?_setCell_other _ _ _ _ (fun c => by injection c with _ c _; omega)).trans z1)
    have HSm : Hid (Same wA.heap.size w3.heap.size w3 ((wX.setCell ⟨w.heap.size, 0, none⟩ (.slice a3 n3 c3)).setCell ⟨w.heap.size, 1, none⟩ (.int .i64 x0.sum))) := (show Same wA.heap.size w3.heap.size w3 wX from .of_below hbD (Nat.le_refl _)).trans (same_storeAll (g := w.heap.size) (.inl hsA) [.slice a3 n3 c3, .int .i64 x0.sum] 0 wX)
    have HBB : Hid (Below w.heap.size w ((wX.setCell ⟨w.heap.size, 0, none⟩ (.slice a3 n3 c3)).setCell ⟨w.heap.size, 1, none⟩ (.int .i64 x0.sum))) := ((hb4.trans (hbD.mono (by omega))).setCell (p := ⟨w.heap.size, 0, none⟩) (Nat.le_refl _) _).setCell (p := ⟨w.heap.size, 1, none⟩) (Nat.le_refl _) _
    have HHI : Hid (w3.heap.size ≤ ((wX.setCell ⟨w.heap.size, 0, none⟩ (.slice a3 n3 c3)).setCell ⟨w.heap.size, 1, none⟩ (.int .i64 x0.sum)).heap.size) := by show _ ≤ _; have := hbD.size; simpa [World.setCell] using this
    go_wp2
    refine bodyPost_ret (v := .tuple #[u3, .agg #[.slice a3 n3 c3, .int .i64 x0.sum], .bool true]) (by simp [results, Try.results9, go_sem, r0, r1]) rfl ?_
    unfold PopPost
    rw [hx0.out, hxp.out, hdp]
    exact ⟨_, _, _, _, rfl, (hH3.same HSm.out).wide (Nat.le_of_lt hsA) HHI.out, (hr3.same HSm.out).wide (Nat.le_of_lt hsA) HHI.out, HBB.out⟩
set_option maxHeartbeats 4000000 in
set_option maxRecDepth 100000 in
theorem popped_spec (xs : List StL) (v : Value) (lo hi : Nat) (w : World) (hr : HOwn lo hi w v xs) (hh : hi ≤ w.heap.size) (hl : xs.length ≤ 1048576) (hz : ∀ x ∈ xs, x.vals.length ≤ 1048576) :
    Calls Try.prog 12 #[v] w (PopPost w xs) := by
  obtain ⟨a, c, rfl, h2, h3⟩ := hr.form
  unfold maxLen at h3
  go_enter Try.func12, Try.ntmps12
  go_upto_region 1 with fail
  have hA := heap_alloc_new w (.cells #[.slice none 0 0, .int .i64 0] 28)
  have hbA : Below w.heap.size w (w.alloc (.cells #[.slice none 0 0, .int .i64 0] 28)) := (Below.refl _ _).alloc (Nat.le_refl _) _
  have hsA : w.heap.size < (w.alloc (.cells #[.slice none 0 0, .int .i64 0] 28)).heap.size := by simp
  generalize w.alloc (.cells #[.slice none 0 0, .int .i64 0] 28) = wA at *
  have z0 : wA.cell? ⟨w.heap.size, 0, none⟩ = some (.slice none 0 0) := cell_heap0 hA rfl
  have z1 : wA.cell? ⟨w.heap.size, 1, none⟩ = some (.int .i64 0) := cell_heap0 hA rfl
  have g0 : wA.frozen? ⟨w.heap.size, 0, none⟩ = false := frozen_heap0 hA
  have g1 : wA.frozen? ⟨w.heap.size, 1, none⟩ = false := frozen_heap0 hA
  have HCS := Lib.hid (l11Copy_spec xs _ lo hi wA (hr.below hbA hh) (by omega) hl hz)
  clear hA
  go_wp2_with fail
  refine HCS.out.mono ?_
  rintro e w2 ⟨u2, rfl, hH2, hb2⟩
  by_cases h0 : xs.length = 0
  · have hx : xs = [] := List.eq_nil_of_length_eq_zero h0
    subst hx
    clear HCS hz hr
    replace z0 := (hb2.cell (p := ⟨w.heap.size, 0, none⟩) hsA).trans z0
    replace z1 := (hb2.cell (p := ⟨w.heap.size, 1, none⟩) hsA).trans z1
    replace g0 := (World.frozen?_of_block (a := ⟨w.heap.size, 0, none⟩) (hb2.block w.heap.size hsA)).trans g0
    replace g1 := (World.frozen?_of_block (a := ⟨w.heap.size, 1, none⟩) (hb2.block w.heap.size hsA)).trans g1
    have hbW : Below w.heap.size w w2 := hbA.trans (hb2.mono (Nat.le_of_lt hsA))
    have HSm : Hid (Same wA.heap.size w2.heap.size w2 ((w2.setCell ⟨w.heap.size, 0, none⟩ (.slice none 0 0)).setCell ⟨w.heap.size, 1, none⟩ (.int .i64 0))) := same_storeAll (g := w.heap.size) (.inl hsA) [.slice none 0 0, .int .i64 0] 0 w2
    have HHI : Hid (w2.heap.size ≤ ((w2.setCell ⟨w.heap.size, 0, none⟩ (.slice none 0 0)).setCell ⟨w.heap.size, 1, none⟩ (.int .i64 0)).heap.size) := by show _ ≤ _; simp [World.setCell]
    have r0 : ((w2.setCell ⟨w.heap.size, 0, none⟩ (.slice none 0 0)).setCell ⟨w.heap.size, 1, none⟩ (.int .i64 0)).cell? ⟨w.heap.size, 0, none⟩ = some (.slice none 0 0) :=
      (World.cell?_setCell_other _ _ _ _ (fun c => by injection c with _ c _; omega)).trans (World.cell?_setCell_same (w := w2) (a := ⟨w.heap.size, 0, none⟩) (v := .slice none 0 0) z0)
    have r1 : ((w2.setCell ⟨w.heap.size, 0, none⟩ (.slice none 0 0)).setCell ⟨w.heap.size, 1, none⟩ (.int .i64 0)).cell? ⟨w.heap.size, 1, none⟩ = some (.int .i64 0) :=
      World.cell?_setCell_same (w := w2.setCell ⟨w.heap.size, 0, none⟩ (.slice none 0 0)) (a := ⟨w.heap.size, 1, none⟩) (v := .int .i64 0) ((World.cell?_setCell_other _ _ _ _ (fun c => by injection c with _ c _; omega)).trans z1)
    go_wp2_with fail
    refine bodyPost_ret (v := .tuple #[u2, .agg #[.slice none 0 0, .int .i64 0], .bool false]) (by simp [results, Try.results12, go_sem, r0, r1]) rfl ?_
    exact ⟨_, _, _, _, rfl, (hH2.same HSm.out).wide (Nat.le_of_lt hsA) HHI.out, Rd.nil _ _ _ _, (hbW.setCell (p := ⟨w.heap.size, 0, none⟩) (Nat.le_refl _) _).setCell (p := ⟨w.heap.size, 1, none⟩) (Nat.le_refl _) _⟩
  · have h0i : ¬ (xs.length : Int) = 0 := by omega
    have hdp : decide (0 < xs.length) = true := decide_eq_true (by omega)
    obtain ⟨qs, hS2, hq2⟩ := hH2
    have hql : qs.length = xs.length := by rw [← hq2, List.length_map]
    have HP := Lib.hid (pop_spec qs u2 wA.heap.size w2.heap.size w2 hS2 (by omega) hb2.size (Nat.le_refl _) (by omega))
    rw [hq2] at HP
    obtain ⟨x0, hx0⟩ : ∃ x0, Hid (stA xs 0 = x0) := ⟨_, rfl⟩
    obtain ⟨xp, hxp⟩ : ∃ xp, Hid (popL xs = xp) := ⟨_, rfl⟩
    rw [hx0.out, hxp.out] at HP
    clear hS2 hq2 HCS
    go_wp2_with fail
    refine HP.out.mono ?_
    rintro e w3 ⟨u3, a3, n3, c3, rfl, hH3, hr3, hb3⟩
    go_wp2_with fail
    have hb4 : Below w.heap.size w w3 := (hbA.trans (hb2.mono (by omega))).trans (hb3.mono (by omega))
    have hb5 : Below wA.heap.size wA w3 := hb2.trans hb3
    have hs5 := hb5.size
    have hB := heap_alloc_new w3 (.cells #[.slice a3 n3 c3, .int .i64 x0.sum] 28)
    have hbB : Below w3.heap.size w3 (w3.alloc (.cells #[.slice a3 n3 c3, .int .i64 x0.sum] 28)) := (Below.refl _ _).alloc (Nat.le_refl _) _
    generalize w3.alloc (.cells #[.slice a3 n3 c3, .int .i64 x0.sum] 28) = w4 at *
    have hbC := hb5.trans (hbB.mono hs5)
    have s0 : w4.cell? ⟨w3.heap.size, 0, none⟩ = some (.slice a3 n3 c3) := cell_heap0 hB rfl
    have s1 : w4.cell? ⟨w3.heap.size, 1, none⟩ = some (.int .i64 x0.sum) := cell_heap0 hB rfl
    replace z0 := (hbC.cell (p := ⟨w.heap.size, 0, none⟩) hsA).trans z0
    replace z1 := (hbC.cell (p := ⟨w.heap.size, 1, none⟩) hsA).trans z1
    replace g0 := (World.frozen?_of_block (a := ⟨w.heap.size, 0, none⟩) (hbC.block w.heap.size hsA)).trans g0
    replace g1 := (World.frozen?_of_block (a := ⟨w.heap.size, 1, none⟩) (hbC.block w.heap.size hsA)).trans g1
    have hne : w.heap.size < w3.heap.size := by omega
    clear hB
    refine wp_region_held_drew (S := fun w' => w'.cell? ⟨w3.heap.size, 0, none⟩ = some (.slice a3 n3 c3) ∧ w'.cell? ⟨w3.heap.size, 1, none⟩ = some (.int .i64 x0.sum)) (by kernel_rfl) ?_ (fun hHeld => ?_)
    · exact ⟨s0, s1⟩
    replace z0 : w4.drew.cell? ⟨w.heap.size, 0, none⟩ = some (.slice none 0 0) := z0
    replace z1 : w4.drew.cell? ⟨w.heap.size, 1, none⟩ = some (.int .i64 0) := z1
    replace g0 : w4.drew.frozen? ⟨w.heap.size, 0, none⟩ = false := g0
    replace g1 : w4.drew.frozen? ⟨w.heap.size, 1, none⟩ = false := g1
    have hbD := hbB.drew
    clear hbB s0 s1 hbC
    generalize w4.drew = wX at *
    refine wpAnyH_take (i := 0) (v := ?v5) (at_op rfl) (by kernel_rfl) (by kernel_rfl) (by kernel_rfl) (fun _ _ _ h => h) (Or.inl ⟨by rfl, ?y5⟩) (by assumption) ?r5
    case y5 =>
      intro wx hSx
      go_simp
      try with_reducible rfl
    try simp only [Act.put, List.setIfInBounds_toArray, List.set_cons_zero, List.set_cons_succ]
    refine wpAnyH_take (i := 1) (v := ?v6) (at_op rfl) (by kernel_rfl) (by kernel_rfl) (by kernel_rfl) (fun _ _ _ h => h) (Or.inl ⟨by rfl, ?y6⟩) (by assumption) ?r6
    case y6 =>
      intro wx hSx
      go_simp
      try with_reducible rfl
    try simp only [Act.put, List.setIfInBounds_toArray, List.set_cons_zero, List.set_cons_succ]
    refine wpAnyH_take (i := 2) (v := ?v7) (at_op rfl) (by kernel_rfl) (by kernel_rfl) (by kernel_rfl) (fun _ _ _ h => h) (Or.inl ⟨by rfl, ?y7⟩) (by assumption) ?r7
    case y7 =>
      intro wx hSx
      go_simp
      try with_reducible rfl
    try simp only [Act.put, List.setIfInBounds_toArray, List.set_cons_zero, List.set_cons_succ]
    refine wpAnyH_ready (rs := [3]) (by kernel_rfl) (by simp) ?_
    refine AllReadyH.cons (at_op rfl) (fun K hK => ?_) AllReadyH.nil
    go_wp2_with fail
    refine hK.out _ _ (keepG hHeld hne) (fun _ => ?_)
    clear hK K
    try simp only [Act.put, List.setIfInBounds_toArray, List.set_cons_zero, List.set_cons_succ]
    refine wpAnyH_take (i := 4) (v := ?v8) (at_op rfl) (by kernel_rfl) (by kernel_rfl) (by kernel_rfl) (fun _ _ _ h => h) (Or.inl ⟨by rfl, ?y8⟩) (by assumption) ?r8
    case y8 =>
      intro wx hSx
      go_simp
      try with_reducible rfl
    try simp only [Act.put, List.setIfInBounds_toArray, List.set_cons_zero, List.set_cons_succ]
    refine wpAnyH_done (by kernel_rfl) ?_ _
    have r0 : ((wX.setCell ⟨w.heap.size, 0, none⟩ (.slice a3 n3 c3)).setCell ⟨w.heap.size, 1, none⟩ (.int .i64 x0.sum)).cell? ⟨w.heap.size, 0, none⟩ = some (.slice a3 n3 c3) :=
      (World.cell?_setCell_other _ _ _ _ (fun c => by injection c with _ c _; omega)).trans (World.cell?_setCell_same (w := wX) (a := ⟨w.heap.size, 0, none⟩) (v := .slice a3 n3 c3) z0)
    have r1 : ((wX.setCell ⟨w.heap.size, 0, none⟩ (.slice a3 n3 c3)).setCell ⟨w.heap.size, 1, none⟩ (.int .i64 x0.sum)).cell? ⟨w.heap.size, 1, none⟩ = some (.int .i64 x0.sum) :=
      World.cell?_setCell_same (w := wX.setCell ⟨w.heap.size, 0, none⟩ (.slice a3 n3 c3)) (a := ⟨w.heap.size, 1, none⟩) (v := .int .i64 x0.sum) ((World.cell?_setCell_other _ _ _ _ (fun c => by injection c with _ c _; omega)).trans z1)
    have HSm : Hid (Same wA.heap.size w3.heap.size w3 ((wX.setCell ⟨w.heap.size, 0, none⟩ (.slice a3 n3 c3)).setCell ⟨w.heap.size, 1, none⟩ (.int .i64 x0.sum))) := (show Same wA.heap.size w3.heap.size w3 wX from .of_below hbD (Nat.le_refl _)).trans (same_storeAll (g := w.heap.size) (.inl hsA) [.slice a3 n3 c3, .int .i64 x0.sum] 0 wX)
    have HBB : Hid (Below w.heap.size w ((wX.setCell ⟨w.heap.size, 0, none⟩ (.slice a3 n3 c3)).setCell ⟨w.heap.size, 1, none⟩ (.int .i64 x0.sum))) := ((hb4.trans (hbD.mono (by omega))).setCell (p := ⟨w.heap.size, 0, none⟩) (Nat.le_refl _) _).setCell (p := ⟨w.heap.size, 1, none⟩) (Nat.le_refl _) _
    have HHI : Hid (w3.heap.size ≤ ((wX.setCell ⟨w.heap.size, 0, none⟩ (.slice a3 n3 c3)).setCell ⟨w.heap.size, 1, none⟩ (.int .i64 x0.sum)).heap.size) := by show _ ≤ _; have := hbD.size; simpa [World.setCell] using this
    go_wp2
    refine bodyPost_ret (v := .tuple #[u3, .agg #[.slice a3 n3 c3, .int .i64 x0.sum], .bool true]) (by simp [results, Try.results12, go_sem, r0, r1]) rfl ?_
    unfold PopPost
    rw [hx0.out, hxp.out, hdp]
    exact ⟨_, _, _, _, rfl, (hH3.same HSm.out).wide (Nat.le_of_lt hsA) HHI.out, (hr3.same HSm.out).wide (Nat.le_of_lt hsA) HHI.out, HBB.out⟩
end Go.Proofs.Ytjaginciejljkaa
