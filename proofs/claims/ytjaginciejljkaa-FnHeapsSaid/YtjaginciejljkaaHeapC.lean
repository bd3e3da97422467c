/- Rows of states copied, by the program. -/
import Derived.Test.YtjaginciejljkaaHeapV
import Derived.Lib.SlicesS
namespace Go.Proofs.Ytjaginciejljkaa
open Go.RowKit

theorem Try.infoInt1 : (Try.prog.info? 3).map (fun i => (i.zero, i.size, i.bytes)) = some (some (.int .i64 0), 1, 8) := by kernel_rfl
set_option maxHeartbeats 400000 in
theorem cloneInt_any {xs : List Int} {v : Value} {lo hi : Nat} {w : World} (hr : Rd intS lo hi w v xs) (hh : hi ≤ w.heap.size) (hl : xs.length ≤ 1048576) :
    Calls Try.prog 36 #[v] w fun e w' => ∃ u, e = .returned u ∧ Below w.heap.size w w' ∧ Own intF 3 w.heap.size w'.heap.size w' u xs := by
  obtain ⟨i0, hi0, hz0, hz1, hz2⟩ := info_parts Try.infoInt1
  obtain ⟨a, c, rfl, h2, h3, h4, h5⟩ := id hr
  have hne := fun (w : World) (a : Option Addr) (n c : Nat) => Lib.run_eql_slice_nil (P := Try.prog) w 26 3 a n c 0 0 Try.underlying26
  cases a with
  | none =>
    obtain rfl := h4 rfl
    have hx : xs = [] := List.eq_nil_of_length_eq_zero (by omega)
    subst hx
    go_enter Try.func36, Try.ntmps36
    go_wp2
    go_ret
    exact ⟨_, rfl, Below.refl _ _, Own.nil _ _ _ _ _⟩
  | some ad =>
    go_enter Try.func36, Try.ntmps36
    go_wp2_with (at_builtin; refine wp_appAll (F := intF) (P := Try.prog) (ys := xs) (lo' := lo) (hi' := hi) rfl (.tmp 5) (.tmp 6) 26 rfl Try.underlying26 hi0 hz0 hz1 hz2 rfl (by decide) rfl (Own.empty intF 3 w.heap.size w (Nat.le_refl _)) rfl (hr.below ((Below.refl w.heap.size w).alloc (Nat.le_refl _) _) hh) (by simp; omega) (by simp; omega) (by simp) ?_; intro v' w' hO' hb')
    go_ret
    exact ⟨_, rfl, blw_al1 hb' (Nat.le_refl _), hO'⟩
theorem keepC {w5 w6 : World} {a0 a1 : Addr} {u0 u1 : Value} (h : w5.cell? a0 = some u0 ∧ w5.cell? a1 = some u1) (hb : Below w5.heap.size w5 w6) : w6.cell? a0 = some u0 ∧ w6.cell? a1 = some u1 :=
  ⟨(hb.cell (World.block_lt_of_cell? w5 _ h.1)).trans h.1, (hb.cell (World.block_lt_of_cell? w5 _ h.2)).trans h.2⟩
theorem keepD {w5 : World} {B : Nat} {u0 u1 v0 v1 : Value} (h : w5.cell? ⟨B, 0, none⟩ = some u0 ∧ w5.cell? ⟨B, 1, none⟩ = some u1) :
    ((w5.setCell ⟨B + 1, 0, none⟩ v0).setCell ⟨B + 1, 1, none⟩ v1).cell? ⟨B, 0, none⟩ = some u0 ∧ ((w5.setCell ⟨B + 1, 0, none⟩ v0).setCell ⟨B + 1, 1, none⟩ v1).cell? ⟨B, 1, none⟩ = some u1 :=
  ⟨(World.cell?_setCell_other _ _ _ _ (fun c => by injection c with c _ _; omega)).trans ((World.cell?_setCell_other _ _ _ _ (fun c => by injection c with c _ _; omega)).trans h.1),
   (World.cell?_setCell_other _ _ _ _ (fun c => by injection c with c _ _; omega)).trans ((World.cell?_setCell_other _ _ _ _ (fun c => by injection c with c _ _; omega)).trans h.2)⟩
set_option maxHeartbeats 2000000 in
set_option maxRecDepth 100000 in
theorem copyState_impl (x : StL) {u : Value} {lo hi : Nat} {w : World} (hr : Rd intS lo hi w u x.vals) (hh : hi ≤ w.heap.size) (hl : x.vals.length ≤ 1048576) :
    Calls Try.prog 28 #[.agg #[u, .int .i64 x.sum]] w fun e w' => ∃ u', e = .returned (.agg #[u', .int .i64 x.sum]) ∧ Own intF 3 w.heap.size w'.heap.size w' u' x.vals ∧ Below w.heap.size w w' := by
  obtain ⟨a, c, rfl⟩ := hr.sl
  go_enter Try.func28, Try.ntmps28
  go_wp2_with fail
  obtain ⟨A, HA⟩ : ∃ A : Obj, Hid (A = .cells #[.slice a x.vals.length c, .int .i64 x.sum] 28) := ⟨_, rfl⟩
  obtain ⟨Z, HZ⟩ : ∃ Z : Obj, Hid (Z = .cells #[.slice none 0 0, .int .i64 0] 28) := ⟨_, rfl⟩
  rw [← HA.out, ← HZ.out]
  have hA : (w.alloc A).heap[w.heap.size]? = some (.cells #[.slice a x.vals.length c, .int .i64 x.sum] 28) := (heap_alloc_new w A).trans (congrArg some HA.out)
  have hsA : (w.alloc A).heap.size = w.heap.size + 1 := by simp
  have hZ : ((w.alloc A).alloc Z).heap[w.heap.size + 1]? = some (.cells #[.slice none 0 0, .int .i64 0] 28) := by rw [← hsA]; exact (heap_alloc_new (w.alloc A) Z).trans (congrArg some HZ.out)
  have hA2 : ((w.alloc A).alloc Z).heap[w.heap.size]? = some (.cells #[.slice a x.vals.length c, .int .i64 x.sum] 28) := (Below.heap_alloc (w.alloc A) Z w.heap.size (by omega)).trans hA
  have hb2 : Below w.heap.size w ((w.alloc A).alloc Z) := ((Below.refl _ _).alloc (Nat.le_refl _) _).alloc (by omega) _
  have hs2 : w.heap.size + 2 ≤ ((w.alloc A).alloc Z).heap.size := by simp
  generalize (w.alloc A).alloc Z = w2 at *
  have c0 : w2.cell? ⟨w.heap.size, 0, none⟩ = some (.slice a x.vals.length c) := cell_heap0 hA2 rfl
  have c1 : w2.cell? ⟨w.heap.size, 1, none⟩ = some (.int .i64 x.sum) := cell_heap0 hA2 rfl
  have z0 : w2.cell? ⟨w.heap.size + 1, 0, none⟩ = some (.slice none 0 0) := cell_heap0 hZ rfl
  have z1 : w2.cell? ⟨w.heap.size + 1, 1, none⟩ = some (.int .i64 0) := cell_heap0 hZ rfl
  have g0 : w2.frozen? ⟨w.heap.size + 1, 0, none⟩ = false := frozen_heap0 hZ
  have g1 : w2.frozen? ⟨w.heap.size + 1, 1, none⟩ = false := frozen_heap0 hZ
  have HCL := Lib.hid (cloneInt_any (w := w2.drew) (hr.below hb2.drew hh) (show hi ≤ w2.heap.size by omega) hl)
  clear hA hsA hZ hA2
  refine wp_region_held_drew (S := fun w' => w'.cell? ⟨w.heap.size, 0, none⟩ = some (.slice a x.vals.length c) ∧ w'.cell? ⟨w.heap.size, 1, none⟩ = some (.int .i64 x.sum)) (by kernel_rfl) ?_ (fun hHeld => ?_)
  · exact ⟨c0, c1⟩
  refine wpAnyH_take (i := 0) (v := ?v1) (at_op rfl) (by kernel_rfl) (by kernel_rfl) (by kernel_rfl) (fun _ _ _ h => h) (Or.inl ⟨by rfl, ?y1⟩) (by assumption) ?r1
  case y1 =>
    intro wx hSx
    go_simp
    try with_reducible rfl
  try simp only [Act.put, List.setIfInBounds_toArray, List.set_cons_zero, List.set_cons_succ]
  refine wpAnyH_take (i := 1) (v := ?v2) (at_op rfl) (by kernel_rfl) (by kernel_rfl) (by kernel_rfl) (fun _ _ _ h => h) (Or.inl ⟨by rfl, ?y2⟩) (by assumption) ?r2
  case y2 =>
    intro wx hSx
    go_simp
    try with_reducible rfl
  try simp only [Act.put, List.setIfInBounds_toArray, List.set_cons_zero, List.set_cons_succ]
  refine wpAnyH_take (i := 3) (v := ?v3) (at_op rfl) (by kernel_rfl) (by kernel_rfl) (by kernel_rfl) (fun _ _ _ h => h) (Or.inl ⟨by rfl, ?y3⟩) (by assumption) ?r3
  case y3 =>
    intro wx hSx
    go_simp
    try with_reducible rfl
  try simp only [Act.put, List.setIfInBounds_toArray, List.set_cons_zero, List.set_cons_succ]
  refine wpAnyH_take (i := 4) (v := ?v4) (at_op rfl) (by kernel_rfl) (by kernel_rfl) (by kernel_rfl) (fun _ _ _ h => h) (Or.inl ⟨by rfl, ?y4⟩) (by assumption) ?r4
  case y4 =>
    intro wx hSx
    go_simp
    try with_reducible rfl
  try simp only [Act.put, List.setIfInBounds_toArray, List.set_cons_zero, List.set_cons_succ]
  refine wpAnyH_ready (rs := [2]) (by kernel_rfl) (by simp) ?_
  refine AllReadyH.cons (at_op rfl) (fun K hK => ?_) AllReadyH.nil
  go_simp
  refine (HCL.out).mono ?_
  rintro e w5 ⟨u', rfl, hb5, hO5⟩
  have hk5 := keepC hHeld hb5
  obtain ⟨a', c', rfl, -, -, -⟩ := hO5.form
  go_wp2_with fail
  refine hK.out _ _ hk5 (fun _ => ?_)
  clear hK K
  try simp only [Act.put, List.setIfInBounds_toArray, List.set_cons_zero, List.set_cons_succ]
  refine wpAnyH_take (i := 5) (v := ?v5) (at_op rfl) (by kernel_rfl) (by kernel_rfl) (by kernel_rfl) (fun _ _ _ h => h) (Or.inl ⟨by rfl, ?y5⟩) (by assumption) ?r5
  case y5 =>
    intro wx hSx
    go_simp
    try with_reducible rfl
  try simp only [Act.put, List.setIfInBounds_toArray, List.set_cons_zero, List.set_cons_succ]
  have e0 : w5.cell? ⟨w.heap.size + 1, 0, none⟩ = some (.slice none 0 0) := (hb5.cell (p := ⟨w.heap.size + 1, 0, none⟩) (by show w.heap.size + 1 < w2.heap.size; omega)).trans z0
  have e1 : w5.cell? ⟨w.heap.size + 1, 1, none⟩ = some (.int .i64 0) := (hb5.cell (p := ⟨w.heap.size + 1, 1, none⟩) (by show w.heap.size + 1 < w2.heap.size; omega)).trans z1
  have f0 : w5.frozen? ⟨w.heap.size + 1, 0, none⟩ = false := (World.frozen?_of_block (a := ⟨w.heap.size + 1, 0, none⟩) (hb5.block (w.heap.size + 1) (by show w.heap.size + 1 < w2.heap.size; omega))).trans g0
  have f1 : w5.frozen? ⟨w.heap.size + 1, 1, none⟩ = false := (World.frozen?_of_block (a := ⟨w.heap.size + 1, 1, none⟩) (hb5.block (w.heap.size + 1) (by show w.heap.size + 1 < w2.heap.size; omega))).trans g1
  refine wpAnyH_ready (rs := [6]) (by kernel_rfl) (by simp) ?_
  refine AllReadyH.cons (at_op rfl) (fun K hK => ?_) AllReadyH.nil
  go_wp2_with fail
  refine hK.out _ _ (keepD hk5) (fun _ => ?_)
  clear hK K
  try simp only [Act.put, List.setIfInBounds_toArray, List.set_cons_zero, List.set_cons_succ]
  refine wpAnyH_done (by kernel_rfl) ?_ _
  have HF : Hid (∀ v0 v1 : Value, Own intF 3 w.heap.size w5.heap.size ((w5.setCell ⟨w.heap.size + 1, 0, none⟩ v0).setCell ⟨w.heap.size + 1, 1, none⟩ v1) (.slice a' x.vals.length c') x.vals) := fun v0 v1 => by
    have hne : (Value.slice a' x.vals.length c').ownBlock ≠ some (w.heap.size + 1) := fun e => by
      have := (hO5.below_heap _ e).1
      have h2 : w2.heap.size ≤ w.heap.size + 1 := this
      omega
    exact ((hO5.keepFar hne _ _).keepFar hne _ _).wide (show w.heap.size ≤ w2.heap.size by omega) (Nat.le_refl _)
  have HB5 : Hid (Below w.heap.size w w5) := hb2.drew.trans (hb5.mono (by show w.heap.size ≤ w2.heap.size; omega))
  have r0 : ((w5.setCell ⟨w.heap.size + 1, 0, none⟩ (.slice a' x.vals.length c')).setCell ⟨w.heap.size + 1, 1, none⟩ (.int .i64 x.sum)).cell? ⟨w.heap.size + 1, 0, none⟩ = some (.slice a' x.vals.length c') :=
    (World.cell?_setCell_other _ _ _ _ (fun c => by injection c with _ c _; omega)).trans (World.cell?_setCell_same (w := w5) (a := ⟨w.heap.size + 1, 0, none⟩) (v := .slice a' x.vals.length c') e0)
  have r1 : ((w5.setCell ⟨w.heap.size + 1, 0, none⟩ (.slice a' x.vals.length c')).setCell ⟨w.heap.size + 1, 1, none⟩ (.int .i64 x.sum)).cell? ⟨w.heap.size + 1, 1, none⟩ = some (.int .i64 x.sum) :=
    World.cell?_setCell_same (w := w5.setCell ⟨w.heap.size + 1, 0, none⟩ (.slice a' x.vals.length c')) (a := ⟨w.heap.size + 1, 1, none⟩) (v := .int .i64 x.sum) ((World.cell?_setCell_other _ _ _ _ (fun c => by injection c with _ c _; omega)).trans e1)
  go_wp2
  refine bodyPost_ret (v := .agg #[.slice a' x.vals.length c', .int .i64 x.sum]) (by simp [results, Try.results28, go_sem, r0, r1]) rfl ?_
  exact ⟨_, rfl, (HF.out _ _).wide (Nat.le_refl _) (by simp [World.setCell]), (HB5.out.setCell (p := ⟨w.heap.size + 1, 0, none⟩) (by show w.heap.size ≤ w.heap.size + 1; omega) _).setCell (p := ⟨w.heap.size + 1, 1, none⟩) (by show w.heap.size ≤ w.heap.size + 1; omega) _⟩
theorem take_stA {xs : List StL} {k : Nat} (h : k < xs.length) : xs.take (k + 1) = xs.take k ++ [stA xs k] := by
  rw [List.take_succ_eq_append_getElem h, stA_at h]
set_option maxHeartbeats 2000000 in
set_option maxRecDepth 100000 in
theorem copyStates_impl (xs : List StL) (v : Value) (lo hi : Nat) (w : World) (hr : HOwn lo hi w v xs) (hh : hi ≤ w.heap.size) (hl : xs.length ≤ 1048576) (hz : ∀ x ∈ xs, x.vals.length ≤ 1048576) :
    Calls Try.prog 27 #[v] w fun e w' => ∃ u, e = .returned u ∧ HOwn w.heap.size w'.heap.size w' u xs ∧ Below w.heap.size w w' := by
  obtain ⟨i0, hi0, hz0, hz1, hz2⟩ := info_parts Try.infoState
  obtain ⟨B, HB⟩ : ∃ B, Hid (B = w.heap.size) := ⟨_, rfl⟩
  have hB1 : B ≤ w.heap.size := Nat.le_of_eq HB.out
  have hB2 : w.heap.size ≤ B := Nat.le_of_eq HB.out.symm
  obtain ⟨a, c, rfl, h2, h3⟩ := hr.form
  unfold maxLen at h3
  have HR := Lib.hid (fun w4 (h4 : Below B w w4) => hr.below h4 (by omega))
  have HZ := Lib.hid hz
  clear hz
  go_enter Try.func27, Try.ntmps27
  go_wp2_with (at_make; refine wpList_make_own _ rfl _ _ 24 rfl B 28 i0 _ 2 Try.underlying24 hi0 hz0 hz1 _ _ _ (xs.length + 1) rfl rfl rfl ?b1 ?b2 ?b3 ?_)
  case b1 => first | omega | (rw [hz2]; omega)
  case b2 => first | (unfold maxLen; omega) | omega
  try (case b3 => first | exact hB1 | omega)
  intro w1 hown hgr
  have hb1 : Below B w w1 := (Below.refl _ _).grown hgr hB1 (fun k hk => by cases hk)
  have hS1 : SOwn B w1.heap.size w1 (.slice (some ⟨w.heap.size, 0, none⟩) 0 (xs.length + 1)) [] := ⟨Own.of_row hown rfl rfl (Nat.le_refl _), fun p hp => by cases hp⟩
  clear hown hgr
  go_wp2
  go_loopw [3, 12] (fun out i wr => ∃ (k : Nat) (qs : List (StL × SV)), k ≤ xs.length ∧ i = .int .i64 k ∧ SOwn B wr.heap.size wr out qs ∧ qs.map (·.1) = xs.take k ∧ Below B w wr) (fun _ i _ => xs.length - (intOf i).toNat)
  case atStart => exact ⟨0, [], Nat.zero_le _, rfl, hS1, rfl, hb1⟩
  case round =>
    clear hS1 hb1
    obtain ⟨k, qs, hk, rfl, hQ, hqm, hb⟩ := hrel
    have hsz := hb.size
    have HQM := Lib.hid hqm
    have hql : qs.length = min k xs.length := by have e := congrArg List.length hqm; rwa [List.length_map, List.length_take] at e
    clear hqm
    by_cases hlt : k < xs.length
    · have hki : (k : Int) < (xs.length : Int) := by omega
      have hkz : (0 : Int) ≤ (k : Int) := by omega
      obtain ⟨G, u, rfl, -, -, -, c0, c1, hru⟩ := (HR.out wr hb).at hlt
      obtain ⟨ua, uc, rfl⟩ := hru.sl
      have hx : (stA xs k).vals.length ≤ 1048576 := by rw [← stA_at hlt]; exact HZ.out _ (List.getElem_mem hlt)
      have HT := Lib.hid (take_stA hlt)
      have hhr : hi ≤ wr.heap.size := by omega
      have HCP := Lib.hid (fun w4 (h4 : Below wr.heap.size wr w4) => copyState_impl (stA xs k) (hru.below h4 hhr) (Nat.le_trans hhr h4.size) hx)
      have hqk : qs.length ≤ 1048576 := by omega
      clear hru hx hql
      generalize stA xs k = x at *
      go_wp2_with fail
      have hbA : Below wr.heap.size wr (wr.alloc (.cells #[.slice ua x.vals.length uc, .int .i64 x.sum] 28)) := (Below.refl _ _).alloc (Nat.le_refl _) _
      have hsA : wr.heap.size ≤ (wr.alloc (.cells #[.slice ua x.vals.length uc, .int .i64 x.sum] 28)).heap.size := hbA.size
      have hQA := hQ.alloc (.cells #[.slice ua x.vals.length uc, .int .i64 x.sum] 28)
      generalize wr.alloc (.cells #[.slice ua x.vals.length uc, .int .i64 x.sum] 28) = wA at *
      refine (HCP.out wA hbA).mono ?_
      rintro e w5 ⟨u', rfl, hO5, hb5⟩
      have hs5 := hb5.size
      have hQ5 := hQA.below hb5 (by omega)
      obtain ⟨sa, sc, rfl, -, -, -⟩ := hO5.form
      have hB5 : Below B w w5 := (hb.trans (hbA.mono (by omega))).trans (hb5.mono (by omega))
      clear hQA hQ hbA HCP
      go_wp2_with (at_builtin; refine wp_app1g (F := stF) (P := Try.prog) (y := ((x, ((sa, x.vals.length, sc) : SV)) : StL × SV)) rfl (.tmp 16) (.tmp 19) 24 rfl Try.underlying24 hi0 hz0 hz1 hz2 rfl (by decide) rfl (hQ5.outer.alloc _) w5.heap.size rfl (heap_alloc_new _ _) rfl (by omega) (by omega) (by simp; omega) ?_; intro v' w9 hO9 hb9 hg9)
      have hS9 : SOwn B w9.heap.size w9 v' (qs ++ [((x, ((sa, x.vals.length, sc) : SV)) : StL × SV)]) := by
        have h5 : SOwn B w5.heap.size w5 _ qs := hQ5.wide (Nat.le_refl _) (by omega)
        exact (h5.alloc _).snoc ((hO5.wide (by omega) (Nat.le_refl _)).alloc _) (by have := hb9.size; simp at this; omega) hO9 hg9
      have hB9 : Below B w w9 := hB5.trans (blw_al1 hb9 (by omega))
      go_roundw
      case rel => exact ⟨k + 1, _, by omega, by go_num, hS9, (by rw [HT.out, List.map_append, HQM.out]; rfl), hB9⟩
      case measure => simp [intOf]; omega
    · have hki : ¬ (k : Int) < (xs.length : Int) := by omega
      have HF : Hid (qs.map (·.1) = xs) := by have e := HQM.out; rwa [List.take_of_length_le (by omega)] at e
      go_wp2
      go_ret
      have e := HB.out
      subst e
      exact ⟨_, rfl, ⟨qs, hQ, HF.out⟩, hb⟩
end Go.Proofs.Ytjaginciejljkaa
