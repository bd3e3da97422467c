/- The walk of FnHeaps: a heap tells the least first. -/
import Derived.Test.YtjaginciejljkaaHeapM
namespace Go.Proofs.Ytjaginciejljkaa
open Go.RowKit
def Small4 (x : StL) : Prop := x.vals.length ≤ 3 ∧ 0 ≤ x.sum ∧ x.sum ≤ 4
theorem sumS_small {l : List StL} (h : ∀ y ∈ l, 0 ≤ y.sum ∧ y.sum ≤ 4) : 0 ≤ sumS l ∧ sumS l ≤ 4 * (l.length : Int) := by
  induction l with
  | nil => exact ⟨Int.le_refl _, Int.le_refl _⟩
  | cons a l ih =>
    have h1 := h a (List.mem_cons_self ..)
    have h2 := ih fun y hy => h y (List.mem_cons_of_mem _ hy)
    have e : sumS (a :: l) = a.sum + sumS l := by simp [sumS]
    rw [e, List.length_cons]
    omega
theorem pop_mem {l : List StL} (h : HeapI l) (hp : 0 < l.length) : ∀ y ∈ popL l, y ∈ l := by
  have hlen : ((l.set 0 (stA l (l.length - 1))).take (l.length - 1)).length = l.length - 1 := by rw [List.length_take, List.length_set]; omega
  have hst : ∀ k, k < l.length - 1 → stA ((l.set 0 (stA l (l.length - 1))).take (l.length - 1)) k = if 0 = k then stA l (l.length - 1) else stA l k := fun k hk => by
    rw [stA_take _ _ _ hk, stA_set l 0 k _ hp]
  obtain ⟨_, a2, _, a4⟩ := down_heap l.length ((l.set 0 (stA l (l.length - 1))).take (l.length - 1)) 0 (by omega) ⟨fun k hk h1 h2 => by
    rw [hlen] at hk
    have := up_lt h1
    rw [hst _ (by omega), hst _ hk, if_neg (by omega), if_neg (by omega)]
    exact h k (by omega) h1, fun k hk h1 h2 h3 => by omega⟩
  rw [hlen] at a2 a4
  intro y hy
  obtain ⟨k, hk, e⟩ := List.getElem_of_mem hy
  obtain ⟨j, hj, e2⟩ := a4 k (by rw [← a2]; exact hk)
  have e3 : y = stA ((l.set 0 (stA l (l.length - 1))).take (l.length - 1)) j := by rw [← e2, ← e]; exact stA_at hk
  rw [e3, hst j hj]
  split
  · rw [← stA_at (show l.length - 1 < l.length by omega)]; exact List.getElem_mem _
  · rw [← stA_at (show j < l.length by omega)]; exact List.getElem_mem _
theorem upF_len : ∀ (f : Nat) (l : List StL) (i : Nat), (upF f l i).length = l.length
  | 0, l, i => rfl
  | f + 1, l, i => by
    unfold upF
    split
    · rw [upF_len f, swap_len]
    · rfl
theorem push_len (l : List StL) (x : StL) : (pushL l x).length = l.length + 1 := by unfold pushL; rw [upF_len]; simp
theorem downF_len : ∀ (f : Nat) (l : List StL) (i : Nat), (downF f l i).length = l.length
  | 0, l, i => rfl
  | f + 1, l, i => by
    unfold downF
    split
    · rw [downF_len f, swap_len]
    · rfl
theorem pop_len (l : List StL) : (popL l).length ≤ l.length := by unfold popL; rw [downF_len, List.length_take, List.length_set]; omega
set_option maxHeartbeats 8000000 in
set_option maxRecDepth 100000 in
theorem lawHeaps_any (xs : List Int) (v : Value) (w : World) (hr : Rd bytS 0 w.heap.size w v xs) (hx : ∀ x ∈ xs, U8 x) :
    Calls Try.prog 3 #[v] w fun e w' => e = .returned (.bool true) ∧ Below w.heap.size w w' := by
  go_enter Try.func3, Try.ntmps3
  go_wp2_with fail
  refine (big_any hr).mono ?_
  rintro e w0 ⟨rfl, rfl⟩
  by_cases hbig : 1048576 < xs.length
  · have hd : decide (1048576 < xs.length) = true := decide_eq_true hbig
    rw [hd]
    go_wp2
    go_ret
    exact ⟨rfl, Below.refl _ _⟩
  have hd : decide (1048576 < xs.length) = false := decide_eq_false hbig
  rw [hd]
  have hl : xs.length ≤ 1048576 := by omega
  clear hd hbig
  go_wp2_with fail
  have q := drawHeap_any hr (by omega) hx hl
  refine q.mono ?_
  clear q
  rintro e w1 ⟨u1, ys, rfl, hys, hyH, hH1, hb1⟩
  have hyl := hys.1
  have HYS := Lib.hid hys.2
  have HYH := Lib.hid hyH
  clear hys hyH
  obtain ⟨ya, yc, rfl, -, -⟩ := hH1.form
  have s1 := hb1.size
  have HB1 := hb1
  go_wp2_with fail
  have q := drawPushed_any (hr.same (.of_below hb1 (by omega))) (by omega) hx hl
  refine q.mono ?_
  clear q
  rintro e w2 ⟨u2, a2, n2, c2, ys2, x2, rfl, hys2, -, hH2, -, hb2⟩
  have HZ2 := Lib.hid hys2
  clear hys2
  have s2 := hb2.size
  have HB2 := HB1.trans (hb2.mono HB1.size)
  clear HB1
  go_wp2_with fail
  have hA := heap_alloc_new w2 (.cells #[.slice a2 n2 c2, .int .i64 x2.sum] 28)
  have hb3 : Below w2.heap.size w2 (w2.alloc (.cells #[.slice a2 n2 c2, .int .i64 x2.sum] 28)) := (Below.refl _ _).alloc (Nat.le_refl _) _
  have k3 : w2.heap.size < (w2.alloc (.cells #[.slice a2 n2 c2, .int .i64 x2.sum] 28)).heap.size := by simp
  generalize w2.alloc (.cells #[.slice a2 n2 c2, .int .i64 x2.sum] 28) = w3 at *
  have s3 := hb3.size
  have HB3 := HB2.trans (hb3.mono HB2.size)
  clear HB2
  clear hA
  go_wp2_with fail
  have q := drawPlaces_any (((hr.same (.of_below hb1 (by omega))).same (.of_below hb2 (by omega))).same (.of_below hb3 (by omega))) (by omega) hx hl
  refine q.mono ?_
  clear q
  rintro e w4 ⟨u4, ps, rfl, hpl, hps, hO4, hb4⟩
  obtain ⟨pa, pc, rfl, -, -, -⟩ := hO4.form
  have s4 := hb4.size
  have HB4 := HB3.trans (hb4.mono HB3.size)
  clear HB3
  obtain ⟨b, off, rfl, -, -, e0⟩ := hO4.rd.intAt (k := 0) (by omega)
  obtain ⟨b', off', hbo, -, -, e1⟩ := hO4.rd.intAt (k := 1) (by omega)
  injection hbo with hbo
  injection hbo with hb1' hb2' _
  subst hb1'
  subst hb2'
  have p0 : 0 ≤ ps.getD 0 0 := (hps _ (by rw [List.getD_eq_getElem?_getD, List.getElem?_eq_getElem (show 0 < ps.length by omega)]; exact List.getElem_mem _)).1
  have p1 : 0 ≤ ps.getD 1 0 := (hps _ (by rw [List.getD_eq_getElem?_getD, List.getElem?_eq_getElem (show 1 < ps.length by omega)]; exact List.getElem_mem _)).1
  generalize ps.getD 0 0 = z0 at *
  generalize ps.getD 1 0 = z1 at *
  rw [hpl]
  clear hps hpl hO4
  have e0' : w4.drew.cell? ⟨b, off, none⟩ = some (.int .i64 z0) := e0
  have e1' : w4.drew.cell? ⟨b, off + 1, none⟩ = some (.int .i64 z1) := e1
  have G1 : 0 ≤ z1.tmod 5 ∧ z1.tmod 5 ≤ 4 := by rw [Int.tmod_eq_emod_of_nonneg p1]; omega
  clear e0 e1
  go_wp2_with fail
  refine wp_region_held_drew (S := fun w' => w'.cell? ⟨b, off, none⟩ = some (.int .i64 z0) ∧ w'.cell? ⟨b, off + 1, none⟩ = some (.int .i64 z1)) (by kernel_rfl) ?_ (fun hHeld => ?_)
  · exact ⟨e0', e1'⟩
  have hbD : Below w4.heap.size w4 w4.drew := (Below.refl _ _).drew
  have hbl : b < w4.drew.heap.size := World.block_lt_of_cell? w4.drew _ e0'
  have hkp : ∀ w9, Below w4.drew.heap.size w4.drew w9 → w9.cell? ⟨b, off, none⟩ = some (.int .i64 z0) ∧ w9.cell? ⟨b, off + 1, none⟩ = some (.int .i64 z1) := fun w9 h9 => ⟨(h9.cell (p := ⟨b, off, none⟩) hbl).trans e0', (h9.cell (p := ⟨b, off + 1, none⟩) hbl).trans e1'⟩
  have hsD : w4.heap.size ≤ w4.drew.heap.size := Nat.le_refl _
  generalize w4.drew = wD at *
  clear e0' e1'
  refine wpAnyH_take (i := 0) (v := ?v1) (at_op rfl) (by kernel_rfl) (by kernel_rfl) (by kernel_rfl) (fun _ _ _ h => h) (Or.inl ⟨by rfl, ?y1⟩) (by assumption) ?r1
  case y1 =>
    intro wx hSx
    go_simp
    try with_reducible rfl
  try simp only [Act.put, List.setIfInBounds_toArray, List.set_cons_zero, List.set_cons_succ]
  refine wpAnyH_take (i := 1) (v := ?v2) (at_op rfl) (by kernel_rfl) (by kernel_rfl) (by kernel_rfl) (fun _ _ _ h => h) (Or.inl ⟨by rfl, ?y2⟩) (by assumption) ?r2
  case y2 =>
    intro wx hSx
    go_simp
    try with_reducible rfl
  try simp only [Act.put, List.setIfInBounds_toArray, List.set_cons_zero, List.set_cons_succ]
  refine wpAnyH_take (i := 2) (v := ?v3) (at_op rfl) (by kernel_rfl) (by kernel_rfl) (by kernel_rfl) (fun _ _ _ h => h) (Or.inl ⟨by rfl, ?y3⟩) (by assumption) ?r3
  case y3 =>
    intro wx hSx
    go_simp
    try with_reducible rfl
  try simp only [Act.put, List.setIfInBounds_toArray, List.set_cons_zero, List.set_cons_succ]
  refine wpAnyH_take (i := 3) (v := ?v4) (at_op rfl) (by kernel_rfl) (by kernel_rfl) (by kernel_rfl) (fun _ _ _ h => h) (Or.inl ⟨by rfl, ?y4⟩) (by assumption) ?r4
  case y4 =>
    intro wx hSx
    go_simp
    try with_reducible rfl
  try simp only [Act.put, List.setIfInBounds_toArray, List.set_cons_zero, List.set_cons_succ]
  refine wpAnyH_take (i := 5) (v := ?v5) (at_op rfl) (by kernel_rfl) (by kernel_rfl) (by kernel_rfl) (fun _ _ _ h => h) (Or.inl ⟨by rfl, ?y5⟩) (by assumption) ?r5
  case y5 =>
    intro wx hSx
    go_simp
    try with_reducible rfl
  try simp only [Act.put, List.setIfInBounds_toArray, List.set_cons_zero, List.set_cons_succ]
  refine wpAnyH_take (i := 6) (v := ?v6) (at_op rfl) (by kernel_rfl) (by kernel_rfl) (by kernel_rfl) (fun _ _ _ h => h) (Or.inl ⟨by rfl, ?y6⟩) (by assumption) ?r6
  case y6 =>
    intro wx hSx
    go_simp
    try with_reducible rfl
  try simp only [Act.put, List.setIfInBounds_toArray, List.set_cons_zero, List.set_cons_succ]
  refine wpAnyH_take (i := 7) (v := ?v7) (at_op rfl) (by kernel_rfl) (by kernel_rfl) (by kernel_rfl) (fun _ _ _ h => h) (Or.inl ⟨by rfl, ?y7⟩) (by assumption) ?r7
  case y7 =>
    intro wx hSx
    go_simp
    try with_reducible rfl
  try simp only [Act.put, List.setIfInBounds_toArray, List.set_cons_zero, List.set_cons_succ]
  refine wpAnyH_take (i := 8) (v := ?v8) (at_op rfl) (by kernel_rfl) (by kernel_rfl) (by kernel_rfl) (fun _ _ _ h => h) (Or.inl ⟨by rfl, ?y8⟩) (by assumption) ?r8
  case y8 =>
    intro wx hSx
    go_simp
    try with_reducible rfl
  try simp only [Act.put, List.setIfInBounds_toArray, List.set_cons_zero, List.set_cons_succ]
  generalize z0.tmod 3 = g0 at *
  generalize z1.tmod 5 = g1 at *
  refine wpAnyH_ready (rs := [4, 10]) (by kernel_rfl) (by simp) ?_
  refine AllReadyH.cons (at_op rfl) (fun K hK => ?_) (AllReadyH.cons (at_op rfl) (fun K hK => ?_) AllReadyH.nil)
  · go_simp
    have hbE : Below wD.heap.size wD (wD.alloc (.cells #[.int .i64 g0] 3)) := (Below.refl _ _).alloc (Nat.le_refl _) _
    refine hK.out _ _ (hkp _ hbE) (fun _ => ?_)
    clear hK K
    try simp only [Act.put, List.setIfInBounds_toArray, List.set_cons_zero, List.set_cons_succ]
    refine wpAnyH_take (i := 9) (v := ?v9) (at_op rfl) (by kernel_rfl) (by kernel_rfl) (by kernel_rfl) (fun _ _ _ h => h) (Or.inl ⟨by rfl, ?y9⟩) (by assumption) ?r9
    case y9 =>
      intro wx hSx
      go_simp
      try with_reducible rfl
    try simp only [Act.put, List.setIfInBounds_toArray, List.set_cons_zero, List.set_cons_succ]
    refine wpAnyH_ready (rs := [10]) (by kernel_rfl) (by simp) ?_
    refine AllReadyH.cons (at_op rfl) (fun K hK => ?_) AllReadyH.nil
    go_simp
    have hbF : Below wD.heap.size wD ((wD.alloc (.cells #[.int .i64 g0] 3)).alloc (.cells #[.slice none 0 0, .int .i64 0] 28)) := hbE.alloc (by simp) _
    refine hK.out _ _ (hkp _ hbF) (fun _ => ?_)
    clear hK K
    try simp only [Act.put, List.setIfInBounds_toArray, List.set_cons_zero, List.set_cons_succ]
    obtain ⟨hA, hB⟩ := heap_two wD (.cells #[.int .i64 g0] 3) (.cells #[.slice none 0 0, .int .i64 0] 28)
    have kE : wD.heap.size + 1 < ((wD.alloc (.cells #[.int .i64 g0] 3)).alloc (.cells #[.slice none 0 0, .int .i64 0] 28)).heap.size := by simp
    have hsV := (rd_lit intF wD [g0] #[.int .i64 g0] 3 rfl (by simp [maxLen])).below ((Below.refl (wD.heap.size + 1) (wD.alloc (.cells #[.int .i64 g0] 3))).alloc (by simp) (.cells #[.slice none 0 0, .int .i64 0] 28)) (Nat.le_refl _)
    generalize ((wD.alloc (.cells #[.int .i64 g0] 3)).alloc (.cells #[.slice none 0 0, .int .i64 0] 28)) = wF at *
    have x0 : wF.cell? ⟨wD.heap.size + 1, 0, none⟩ = some (.slice none 0 0) := cell_heap0 hB rfl
    have x1 : wF.cell? ⟨wD.heap.size + 1, 1, none⟩ = some (.int .i64 0) := cell_heap0 hB rfl
    have y0 : wF.frozen? ⟨wD.heap.size + 1, 0, none⟩ = false := frozen_heap0 hB
    have y1 : wF.frozen? ⟨wD.heap.size + 1, 1, none⟩ = false := frozen_heap0 hB
    clear hA hB hbE
    refine wpAnyH_ready (rs := [11]) (by kernel_rfl) (by simp) ?_
    refine AllReadyH.cons (at_op rfl) (fun K hK => ?_) AllReadyH.nil
    go_wp2_with fail
    have hbG : Below wD.heap.size wD ((wF.setCell ⟨wD.heap.size + 1, 0, none⟩ (.slice (some ⟨wD.heap.size, 0, none⟩) 1 1)).setCell ⟨wD.heap.size + 1, 1, none⟩ (.int .i64 g1)) := (hbF.setCell (p := ⟨wD.heap.size + 1, 0, none⟩) (by show _ ≤ wD.heap.size + 1; omega) _).setCell (p := ⟨wD.heap.size + 1, 1, none⟩) (by show _ ≤ wD.heap.size + 1; omega) _
    have q0 : ((wF.setCell ⟨wD.heap.size + 1, 0, none⟩ (.slice (some ⟨wD.heap.size, 0, none⟩) 1 1)).setCell ⟨wD.heap.size + 1, 1, none⟩ (.int .i64 g1)).cell? ⟨wD.heap.size + 1, 0, none⟩ = some (.slice (some ⟨wD.heap.size, 0, none⟩) 1 1) := (World.cell?_setCell_other _ _ _ _ (fun c => by injection c with _ c _; omega)).trans (World.cell?_setCell_same (w := wF) (a := ⟨wD.heap.size + 1, 0, none⟩) (v := (.slice (some ⟨wD.heap.size, 0, none⟩) 1 1)) x0)
    have q1 : ((wF.setCell ⟨wD.heap.size + 1, 0, none⟩ (.slice (some ⟨wD.heap.size, 0, none⟩) 1 1)).setCell ⟨wD.heap.size + 1, 1, none⟩ (.int .i64 g1)).cell? ⟨wD.heap.size + 1, 1, none⟩ = some (.int .i64 g1) := World.cell?_setCell_same (w := wF.setCell ⟨wD.heap.size + 1, 0, none⟩ (.slice (some ⟨wD.heap.size, 0, none⟩) 1 1)) (a := ⟨wD.heap.size + 1, 1, none⟩) (v := .int .i64 g1) ((World.cell?_setCell_other _ _ _ _ (fun c => by injection c with _ c _; omega)).trans x1)
    have hsV5 : Rd intS (wD.heap.size) (wD.heap.size + 1) ((wF.setCell ⟨wD.heap.size + 1, 0, none⟩ (.slice (some ⟨wD.heap.size, 0, none⟩) 1 1)).setCell ⟨wD.heap.size + 1, 1, none⟩ (.int .i64 g1)) (.slice (some ⟨wD.heap.size, 0, none⟩) 1 1) [g0] := hsV.same (same_storeAll (g := wD.heap.size + 1) (by omega) [(.slice (some ⟨wD.heap.size, 0, none⟩) 1 1), .int .i64 g1] 0 wF)
    have kG : wF.heap.size ≤ ((wF.setCell ⟨wD.heap.size + 1, 0, none⟩ (.slice (some ⟨wD.heap.size, 0, none⟩) 1 1)).setCell ⟨wD.heap.size + 1, 1, none⟩ (.int .i64 g1)).heap.size := by simp [World.setCell]
    clear x0 x1 y0 y1 hsV
    refine hK.out _ _ (hkp _ hbG) (fun _ => ?_)
    clear hK K
    try simp only [Act.put, List.setIfInBounds_toArray, List.set_cons_zero, List.set_cons_succ]
    refine wpAnyH_done (by kernel_rfl) ?_ _
    have hb5 : Below w4.heap.size w4 ((wF.setCell ⟨wD.heap.size + 1, 0, none⟩ (.slice (some ⟨wD.heap.size, 0, none⟩) 1 1)).setCell ⟨wD.heap.size + 1, 1, none⟩ (.int .i64 g1)) := hbD.trans (hbG.mono hsD)
    generalize ((wF.setCell ⟨wD.heap.size + 1, 0, none⟩ (.slice (some ⟨wD.heap.size, 0, none⟩) 1 1)).setCell ⟨wD.heap.size + 1, 1, none⟩ (.int .i64 g1)) = w5 at *
    obtain ⟨V, hV⟩ : ∃ V, V = wD.heap.size := ⟨_, rfl⟩
    obtain ⟨X, hX⟩ : ∃ X, X = wD.heap.size + 1 := ⟨_, rfl⟩
    rw [← hX] at q0 q1 ⊢
    rw [← hV] at hsV5 q0 ⊢
    have hXw : X < w5.heap.size := by omega
    have hVw : V + 1 ≤ w5.heap.size := by omega
    clear hV hX hbF hbG kE kG hbD hkp hsD
    have s5 := hb5.size
    have HB5 := HB4.trans (hb5.mono HB4.size)
    clear HB4
    have HUM := Lib.hid (push_mem (x := (⟨[g0], g1⟩ : StL)) HYH.out)
    have HUP := Lib.hid (push_heap (x := (⟨[g0], g1⟩ : StL)) HYH.out)
    go_wp2_with fail
    have q := pushed_impl ys (⟨[g0], g1⟩ : StL) _ (.slice (some ⟨V, 0, none⟩) 1 1) _ _ _ _ w5 ((((hH1.same (.of_below hb2 (by omega))).same (.of_below hb3 (by omega))).same (.of_below hb4 (by omega))).same (.of_below hb5 (by omega))) (by omega) hsV5 hVw (by omega) (fun x h => by have := (HYS.out x h).1; omega) (by simp)
    refine q.mono ?_
    clear q
    rintro e w6 ⟨u6, rfl, hH6, hb6⟩
    have s6 := hb6.size
    have HB6 := HB5.trans (hb6.mono HB5.size)
    clear HB5
    replace q0 := (hb6.cell (p := ⟨X, 0, none⟩) (by show X < _; omega)).trans q0
    replace q1 := (hb6.cell (p := ⟨X, 1, none⟩) (by show X < _; omega)).trans q1
    obtain ⟨up, hup⟩ : ∃ up, Hid (pushL ys (⟨[g0], g1⟩ : StL) = up) := ⟨_, rfl⟩
    rw [hup.out] at HUM HUP hH6
    have HL6 : Hid (up.length = ys.length + 1) := HUP.out.2.1
    have HU4 : Hid (∀ y ∈ up, Small4 y) := fun y hy => by
      rcases HUM.out y hy with h | h
      · obtain ⟨h1, h2, h3⟩ := HYS.out y h
        exact ⟨h1, h2, by omega⟩
      · subst h
        exact ⟨by simp, G1.1, G1.2⟩
    obtain ⟨ua, uc, rfl, -, -⟩ := hH6.form
    rw [HL6.out] at hH6
    rw [HL6.out]
    have HPO := Lib.hid (pop_heap HUP.out.1 (show 0 < up.length by rw [HL6.out]; omega))
    have HPM := Lib.hid (pop_mem HUP.out.1 (show 0 < up.length by rw [HL6.out]; omega))
    have hd6 : decide (0 < up.length) = true := decide_eq_true (by rw [HL6.out]; omega)
    go_wp2_with fail
    have q := popped_impl up _ _ _ w6 hH6 (by omega) (by rw [HL6.out]; omega) (fun x h => by have := (HU4.out x h).1; omega)
    unfold PopPost at q
    rw [hd6] at q
    refine q.mono ?_
    clear q
    rintro e w7 ⟨u7, a7, n7, c7, rfl, hH7, hr7, hb7⟩
    have s7 := hb7.size
    have HB7 := HB6.trans (hb7.mono HB6.size)
    clear HB6
    replace q0 := (hb7.cell (p := ⟨X, 0, none⟩) (by show X < _; omega)).trans q0
    replace q1 := (hb7.cell (p := ⟨X, 1, none⟩) (by show X < _; omega)).trans q1
    obtain ⟨rest, hrest⟩ : ∃ rest, Hid (popL up = rest) := ⟨_, rfl⟩
    obtain ⟨first, hfirst⟩ : ∃ first, Hid (stA up 0 = first) := ⟨_, rfl⟩
    rw [hrest.out, hfirst.out] at HPO
    rw [hrest.out] at HPM hH7
    rw [hfirst.out] at hr7
    try rw [hfirst.out]
    have HF4 : Hid (Small4 first) := by
      rw [← hfirst.out]
      exact HU4.out _ (by rw [← stA_at (show 0 < up.length by rw [HL6.out]; omega)]; exact List.getElem_mem _)
    have HL7 : Hid (rest.length = ys.length) := by have := HPO.out.2.1; have := HL6.out; show _ = _; omega
    have HR4 : Hid (∀ y ∈ rest, Small4 y) := fun y hy => HU4.out y (HPM.out y hy)
    obtain ⟨ra, rc, rfl, -, -⟩ := hH7.form
    rw [HL7.out] at hH7
    rw [HL7.out]
    clear hd6
    go_wp2_with fail
    have hA := heap_alloc_new w7 (.cells #[.slice a7 n7 c7, .int .i64 first.sum] 28)
    have hb8 : Below w7.heap.size w7 (w7.alloc (.cells #[.slice a7 n7 c7, .int .i64 first.sum] 28)) := (Below.refl _ _).alloc (Nat.le_refl _) _
    have k8 : w7.heap.size < (w7.alloc (.cells #[.slice a7 n7 c7, .int .i64 first.sum] 28)).heap.size := by simp
    generalize w7.alloc (.cells #[.slice a7 n7 c7, .int .i64 first.sum] 28) = w8 at *
    have s8 := hb8.size
    have HB8 := HB7.trans (hb8.mono HB7.size)
    clear HB7
    replace q0 := (hb8.cell (p := ⟨X, 0, none⟩) (by show X < _; omega)).trans q0
    replace q1 := (hb8.cell (p := ⟨X, 1, none⟩) (by show X < _; omega)).trans q1
    have j0 : w8.cell? ⟨w7.heap.size, 0, none⟩ = some (.slice a7 n7 c7) := cell_heap0 hA rfl
    have j1 : w8.cell? ⟨w7.heap.size, 1, none⟩ = some (.int .i64 first.sum) := cell_heap0 hA rfl
    clear hA
    go_loopw [12] (fun i wr => ∃ k : Nat, k ≤ ys.length ∧ i = .int .i64 k ∧ Below w8.heap.size w8 wr) (fun i _ => ys.length + 1 - (intOf i).toNat)
    case atStart => exact ⟨0, Nat.zero_le _, rfl, Below.refl _ _⟩
    case round =>
      obtain ⟨k, hk, rfl, hb9⟩ := hrel
      obtain ⟨w9, hw9⟩ : ∃ x, x = wr := ⟨_, rfl⟩
      subst hw9
      have s9 := hb9.size
      have HB9 := HB8.trans (hb9.mono HB8.size)
      clear HB8
      replace q0 := (hb9.cell (p := ⟨X, 0, none⟩) (by show X < _; omega)).trans q0
      replace q1 := (hb9.cell (p := ⟨X, 1, none⟩) (by show X < _; omega)).trans q1
      replace j0 := (hb9.cell (p := ⟨w7.heap.size, 0, none⟩) (by show w7.heap.size < _; omega)).trans j0
      replace j1 := (hb9.cell (p := ⟨w7.heap.size, 1, none⟩) (by show w7.heap.size < _; omega)).trans j1
      by_cases hlt : k < ys.length
      · have hki : (k : Int) < (ys.length : Int) := by omega
        have hkz : (0 : Int) ≤ (k : Int) := by omega
        have hk7 : k < rest.length := by rw [HL7.out]; exact hlt
        obtain ⟨G, u, rfl, -, hGi, -, c0, c1, hru⟩ := (((hH7.same (.of_below hb8 (by omega))).same (.of_below hb9 (by omega)))).at hk7
        have HLE := Lib.hid (HPO.out.2.2.2 k hk7)
        generalize stA rest k = x at *
        have HLS := Lib.hid (less_impl (w := w9.drew) x first hru (show _ ≤ w9.heap.size by omega) (show Rd intS _ _ w9 _ _ from ((hr7.same (.of_below hb8 (by omega))).same (.of_below hb9 (by omega)))) (show _ ≤ w9.heap.size by omega))
        have e := HLE.out
        unfold LeS at e
        rw [e] at HLS
        clear e HLE hru hk7
        go_wp2_with fail
        refine wp_region_held_drew (S := fun w' => w'.cell? ⟨G, k * 2, none⟩ = some u ∧ w'.cell? ⟨G, k * 2 + 1, none⟩ = some (.int .i64 x.sum) ∧ w'.cell? ⟨w7.heap.size, 0, none⟩ = some (.slice a7 n7 c7) ∧ w'.cell? ⟨w7.heap.size, 1, none⟩ = some (.int .i64 first.sum) ∧ Below w8.heap.size w8 w') (by kernel_rfl) ?_ (fun hHeld => ?_)
        · exact ⟨c0, c1, j0, j1, hb9.drew⟩
        refine wpAnyH_take (i := 0) (v := ?v10) (at_op rfl) (by kernel_rfl) (by kernel_rfl) (by kernel_rfl) (fun _ _ _ h => h) (Or.inl ⟨by rfl, ?y10⟩) (by assumption) ?r10
        case y10 =>
          intro wx hSx
          go_simp
          try with_reducible rfl
        try simp only [Act.put, List.setIfInBounds_toArray, List.set_cons_zero, List.set_cons_succ]
        refine wpAnyH_take (i := 1) (v := ?v11) (at_op rfl) (by kernel_rfl) (by kernel_rfl) (by kernel_rfl) (fun _ _ _ h => h) (Or.inl ⟨by rfl, ?y11⟩) (by assumption) ?r11
        case y11 =>
          intro wx hSx
          go_simp
          try with_reducible rfl
        try simp only [Act.put, List.setIfInBounds_toArray, List.set_cons_zero, List.set_cons_succ]
        refine wpAnyH_take (i := 2) (v := ?v12) (at_op rfl) (by kernel_rfl) (by kernel_rfl) (by kernel_rfl) (fun _ _ _ h => h) (Or.inl ⟨by rfl, ?y12⟩) (by assumption) ?r12
        case y12 =>
          intro wx hSx
          go_simp
          try with_reducible rfl
        try simp only [Act.put, List.setIfInBounds_toArray, List.set_cons_zero, List.set_cons_succ]
        refine wpAnyH_take (i := 3) (v := ?v13) (at_op rfl) (by kernel_rfl) (by kernel_rfl) (by kernel_rfl) (fun _ _ _ h => h) (Or.inl ⟨by rfl, ?y13⟩) (by assumption) ?r13
        case y13 =>
          intro wx hSx
          go_simp
          try with_reducible rfl
        try simp only [Act.put, List.setIfInBounds_toArray, List.set_cons_zero, List.set_cons_succ]
        refine wpAnyH_take (i := 4) (v := ?v14) (at_op rfl) (by kernel_rfl) (by kernel_rfl) (by kernel_rfl) (fun _ _ _ h => h) (Or.inl ⟨by rfl, ?y14⟩) (by assumption) ?r14
        case y14 =>
          intro wx hSx
          go_simp
          try with_reducible rfl
        try simp only [Act.put, List.setIfInBounds_toArray, List.set_cons_zero, List.set_cons_succ]
        refine wpAnyH_ready (rs := [5]) (by kernel_rfl) (by simp) ?_
        refine AllReadyH.cons (at_op rfl) (fun K hK => ?_) AllReadyH.nil
        go_simp
        refine HLS.out.mono ?_
        rintro e w5' ⟨rfl, hbk⟩
        go_wp2_with fail
        refine hK.out _ _ (keep4 hHeld hbk) (fun _ => ?_)
        clear hK K
        try simp only [Act.put, List.setIfInBounds_toArray, List.set_cons_zero, List.set_cons_succ]
        refine wpAnyH_done (by kernel_rfl) ?_ _
        have hbw : Below w8.heap.size w8 w5' := hb9.drew.trans (hbk.mono s9)
        go_wp2
        go_roundw
        case rel => exact ⟨k + 1, by omega, by go_num, hbw⟩
        case measure => simp [intOf]; omega
      · obtain rfl : k = ys.length := by omega
        clear hlt hk
        go_wp2_with fail
        go_loopw [13, 14] (fun sm i wr => ∃ (k : Nat) (z : Int), k ≤ ys.length ∧ i = .int .i64 k ∧ sm = .int .i64 z ∧ Hid (z = g1 + sumS (ys.take k)) ∧ w9 = wr) (fun _ i _ => ys.length + 1 - (intOf i).toNat)
        case atStart => exact ⟨0, g1, Nat.zero_le _, rfl, rfl, by show g1 = g1 + 0; omega, rfl⟩
        case round =>
          obtain ⟨k, z, hk, rfl, rfl, HZ, rfl⟩ := hrel
          by_cases hlt : k < ys.length
          · have hki : (k : Int) < (ys.length : Int) := by omega
            have hkz : (0 : Int) ≤ (k : Int) := by omega
            obtain ⟨G, u, rfl, -, -, -, c0, c1, hru⟩ := (((((((((hH1.same (.of_below hb2 (by omega))).same (.of_below hb3 (by omega))).same (.of_below hb4 (by omega))).same (.of_below hb5 (by omega))).same (.of_below hb6 (by omega))).same (.of_below hb7 (by omega))).same (.of_below hb8 (by omega))).same (.of_below hb9 (by omega)))).at hlt
            have HT := Lib.hid (congrArg sumS (take_stA hlt))
            have hm : SmallS (stA ys k) := HYS.out _ (by rw [← stA_at hlt]; exact List.getElem_mem hlt)
            have hzb : 0 ≤ z ∧ z ≤ 4 + 4 * (ys.length : Int) := by
              have h1 := sumS_small (l := ys.take k) (fun y hy => ⟨(HYS.out y (List.mem_of_mem_take hy)).2.1, by have := (HYS.out y (List.mem_of_mem_take hy)).2.2; omega⟩)
              rw [List.length_take] at h1
              have := HZ.out
              omega
            obtain ⟨hm1, hm2, hm3⟩ := hm
            rw [sumS_snoc] at HT
            generalize stA ys k = x at *
            clear hru c0
            go_wp2
            go_roundw
            case rel => exact ⟨k + 1, z + x.sum, by omega, by go_num, rfl, by show _ = _; rw [HT.out, HZ.out]; omega, by trivial⟩
            case measure => simp [intOf]; omega
          · obtain rfl : k = ys.length := by omega
            rw [List.take_length] at HZ
            clear hlt hk
            clear q0 q1
            go_wp2_with fail
            go_loopw [15, 16] (fun sm i wr => ∃ (k : Nat) (z : Int), k ≤ ys.length ∧ i = .int .i64 k ∧ sm = .int .i64 z ∧ Hid (z = first.sum + sumS (rest.take k)) ∧ w9 = wr) (fun _ i _ => ys.length + 1 - (intOf i).toNat)
            case atStart => exact ⟨0, first.sum, Nat.zero_le _, rfl, rfl, by show first.sum = first.sum + 0; omega, rfl⟩
            case round =>
              obtain ⟨k, z', hk, rfl, rfl, HZ', rfl⟩ := hrel
              by_cases hlt : k < ys.length
              · have hki : (k : Int) < (ys.length : Int) := by omega
                have hkz : (0 : Int) ≤ (k : Int) := by omega
                have hk7 : k < rest.length := by rw [HL7.out]; exact hlt
                obtain ⟨G, u, rfl, -, -, -, c0, c1, hru⟩ := (((hH7.same (.of_below hb8 (by omega))).same (.of_below hb9 (by omega)))).at hk7
                have HT := Lib.hid (congrArg sumS (take_stA hk7))
                have hm : Small4 (stA rest k) := HR4.out _ (by rw [← stA_at hk7]; exact List.getElem_mem hk7)
                have hf4 := HF4.out
                have hzb : 0 ≤ z' ∧ z' ≤ 4 + 4 * (ys.length : Int) := by
                  have h1 := sumS_small (l := rest.take k) (fun y hy => ⟨(HR4.out y (List.mem_of_mem_take hy)).2.1, (HR4.out y (List.mem_of_mem_take hy)).2.2⟩)
                  rw [List.length_take, HL7.out] at h1
                  have := HZ'.out
                  have := hf4.2.1
                  have := hf4.2.2
                  omega
                obtain ⟨hm1, hm2, hm3⟩ := hm
                rw [sumS_snoc] at HT
                generalize stA rest k = x at *
                clear hru c0 hf4 hk7
                go_wp2
                go_roundw
                case rel => exact ⟨k + 1, z' + x.sum, by omega, by go_num, rfl, by show _ = _; rw [HT.out, HZ'.out]; omega, by trivial⟩
                case measure => simp [intOf]; omega
              · obtain rfl : k = ys.length := by omega
                rw [show rest.take ys.length = rest by rw [← HL7.out, List.take_length]] at HZ'
                obtain rfl : z' = z := by have e1 := HZ.out; have e2 := HZ'.out; have e3 := HUP.out.2.2; have e4 := HPO.out.2.2.1; have e5 : sumS up = sumS ys + g1 := e3; omega
                clear hlt hk HZ HZ'
                clear j0 j1
                go_wp2_with fail
                have q := drawPushed_any (((((((((hr.same (.of_below hb1 (by omega))).same (.of_below hb2 (by omega))).same (.of_below hb3 (by omega))).same (.of_below hb4 (by omega))).same (.of_below hb5 (by omega))).same (.of_below hb6 (by omega))).same (.of_below hb7 (by omega))).same (.of_below hb8 (by omega))).same (.of_below hb9 (by omega))) (by omega) hx hl
                refine q.mono ?_
                clear q
                rintro e w10 ⟨u10, a10, n10, c10, ys3, x3, rfl, hys3, hx3, hH10, hr10, hb10⟩
                have HZ3 := Lib.hid hys3
                have HX3 := Lib.hid hx3
                clear hys3 hx3
                have s10 := hb10.size
                have HB10 := HB9.trans (hb10.mono HB9.size)
                clear HB9
                go_wp2_with fail
                have hA := heap_alloc_new w10 (.cells #[.slice a10 n10 c10, .int .i64 x3.sum] 28)
                have hb11 : Below w10.heap.size w10 (w10.alloc (.cells #[.slice a10 n10 c10, .int .i64 x3.sum] 28)) := (Below.refl _ _).alloc (Nat.le_refl _) _
                have k11 : w10.heap.size < (w10.alloc (.cells #[.slice a10 n10 c10, .int .i64 x3.sum] 28)).heap.size := by simp
                generalize w10.alloc (.cells #[.slice a10 n10 c10, .int .i64 x3.sum] 28) = w11 at *
                have s11 := hb11.size
                have HB11 := HB10.trans (hb11.mono HB10.size)
                clear HB10
                have l0 : w11.cell? ⟨w10.heap.size, 0, none⟩ = some (.slice a10 n10 c10) := cell_heap0 hA rfl
                have l1 : w11.cell? ⟨w10.heap.size, 1, none⟩ = some (.int .i64 x3.sum) := cell_heap0 hA rfl
                clear hA
                go_wp2_with fail
                have q := drawPopped_any (((((((((((hr.same (.of_below hb1 (by omega))).same (.of_below hb2 (by omega))).same (.of_below hb3 (by omega))).same (.of_below hb4 (by omega))).same (.of_below hb5 (by omega))).same (.of_below hb6 (by omega))).same (.of_below hb7 (by omega))).same (.of_below hb8 (by omega))).same (.of_below hb9 (by omega))).same (.of_below hb10 (by omega))).same (.of_below hb11 (by omega))) (by omega) hx hl
                refine q.mono ?_
                clear q
                rintro e w12 ⟨u12, ys4, rfl, hys4, hH12, hb12⟩
                have HZ4 := Lib.hid hys4
                clear hys4
                obtain ⟨x4, hx4⟩ : ∃ x4, Hid (stA ys4 0 = x4) := ⟨_, rfl⟩
                obtain ⟨p4, hp4⟩ : ∃ p4, Hid (popL ys4 = p4) := ⟨_, rfl⟩
                obtain ⟨d4, hd4⟩ : ∃ d4, Hid (decide (0 < ys4.length) = d4) := ⟨_, rfl⟩
                have HN4 : Hid (p4.length ≤ 1048576) := by have := pop_len ys4; rw [hp4.out] at this; have := HZ4.out.1; show _ ≤ _; omega
                have s12 := hb12.size
                have HB12 := HB11.trans (hb12.mono HB11.size)
                clear HB11
                replace l0 := (hb12.cell (p := ⟨w10.heap.size, 0, none⟩) (by show w10.heap.size < _; omega)).trans l0
                replace l1 := (hb12.cell (p := ⟨w10.heap.size, 1, none⟩) (by show w10.heap.size < _; omega)).trans l1
                go_wp2_with fail
                have q := popped_impl ys4 _ _ _ w12 hH12 (by omega) (by have := HZ4.out.1; omega) (fun x h => by have := (HZ4.out.2 x h).1; omega)
                unfold PopPost at q
                rw [hx4.out, hp4.out, hd4.out] at q
                refine q.mono ?_
                clear q
                rintro e w13 ⟨ud, ad, nd, cd, rfl, hHd, hrd, hb13⟩
                have s13 := hb13.size
                have HB13 := HB12.trans (hb13.mono HB12.size)
                clear HB12
                replace l0 := (hb13.cell (p := ⟨w10.heap.size, 0, none⟩) (by show w10.heap.size < _; omega)).trans l0
                replace l1 := (hb13.cell (p := ⟨w10.heap.size, 1, none⟩) (by show w10.heap.size < _; omega)).trans l1
                go_wp2_with fail
                have hA := heap_alloc_new w13 (.cells #[.slice ad nd cd, .int .i64 x4.sum] 28)
                have hb14 : Below w13.heap.size w13 (w13.alloc (.cells #[.slice ad nd cd, .int .i64 x4.sum] 28)) := (Below.refl _ _).alloc (Nat.le_refl _) _
                have k14 : w13.heap.size < (w13.alloc (.cells #[.slice ad nd cd, .int .i64 x4.sum] 28)).heap.size := by simp
                generalize w13.alloc (.cells #[.slice ad nd cd, .int .i64 x4.sum] 28) = w14 at *
                have s14 := hb14.size
                have HB14 := HB13.trans (hb14.mono HB13.size)
                clear HB13
                replace l0 := (hb14.cell (p := ⟨w10.heap.size, 0, none⟩) (by show w10.heap.size < _; omega)).trans l0
                replace l1 := (hb14.cell (p := ⟨w10.heap.size, 1, none⟩) (by show w10.heap.size < _; omega)).trans l1
                have t0 : w14.cell? ⟨w13.heap.size, 0, none⟩ = some (.slice ad nd cd) := cell_heap0 hA rfl
                have t1 : w14.cell? ⟨w13.heap.size, 1, none⟩ = some (.int .i64 x4.sum) := cell_heap0 hA rfl
                clear hA
                go_wp2_with fail
                have q := popped_spec ys4 _ _ _ w14 ((hH12.same (.of_below hb13 (by omega))).same (.of_below hb14 (by omega))) (by omega) (by have := HZ4.out.1; omega) (fun x h => by have := (HZ4.out.2 x h).1; omega)
                unfold PopPost at q
                rw [hx4.out, hp4.out, hd4.out] at q
                refine q.mono ?_
                clear q
                rintro e w15 ⟨uf, af, nf, cf, rfl, hHf, hrf, hb15⟩
                have s15 := hb15.size
                have HB15 := HB14.trans (hb15.mono HB14.size)
                clear HB14
                replace l0 := (hb15.cell (p := ⟨w10.heap.size, 0, none⟩) (by show w10.heap.size < _; omega)).trans l0
                replace l1 := (hb15.cell (p := ⟨w10.heap.size, 1, none⟩) (by show w10.heap.size < _; omega)).trans l1
                replace t0 := (hb15.cell (p := ⟨w13.heap.size, 0, none⟩) (by show w13.heap.size < _; omega)).trans t0
                replace t1 := (hb15.cell (p := ⟨w13.heap.size, 1, none⟩) (by show w13.heap.size < _; omega)).trans t1
                go_wp2_with fail
                have hA := heap_alloc_new w15 (.cells #[.slice af nf cf, .int .i64 x4.sum] 28)
                have hb16 : Below w15.heap.size w15 (w15.alloc (.cells #[.slice af nf cf, .int .i64 x4.sum] 28)) := (Below.refl _ _).alloc (Nat.le_refl _) _
                have k16 : w15.heap.size < (w15.alloc (.cells #[.slice af nf cf, .int .i64 x4.sum] 28)).heap.size := by simp
                generalize w15.alloc (.cells #[.slice af nf cf, .int .i64 x4.sum] 28) = w16 at *
                have s16 := hb16.size
                have HB16 := HB15.trans (hb16.mono HB15.size)
                clear HB15
                replace l0 := (hb16.cell (p := ⟨w10.heap.size, 0, none⟩) (by show w10.heap.size < _; omega)).trans l0
                replace l1 := (hb16.cell (p := ⟨w10.heap.size, 1, none⟩) (by show w10.heap.size < _; omega)).trans l1
                replace t0 := (hb16.cell (p := ⟨w13.heap.size, 0, none⟩) (by show w13.heap.size < _; omega)).trans t0
                replace t1 := (hb16.cell (p := ⟨w13.heap.size, 1, none⟩) (by show w13.heap.size < _; omega)).trans t1
                have v0 : w16.cell? ⟨w15.heap.size, 0, none⟩ = some (.slice af nf cf) := cell_heap0 hA rfl
                have v1 : w16.cell? ⟨w15.heap.size, 1, none⟩ = some (.int .i64 x4.sum) := cell_heap0 hA rfl
                clear hA
                go_wp2_with fail
                have q := drawTwo_any ((((((((((((((((hr.same (.of_below hb1 (by omega))).same (.of_below hb2 (by omega))).same (.of_below hb3 (by omega))).same (.of_below hb4 (by omega))).same (.of_below hb5 (by omega))).same (.of_below hb6 (by omega))).same (.of_below hb7 (by omega))).same (.of_below hb8 (by omega))).same (.of_below hb9 (by omega))).same (.of_below hb10 (by omega))).same (.of_below hb11 (by omega))).same (.of_below hb12 (by omega))).same (.of_below hb13 (by omega))).same (.of_below hb14 (by omega))).same (.of_below hb15 (by omega))).same (.of_below hb16 (by omega))) (by omega) hx hl
                refine q.mono ?_
                clear q
                rintro e w17 ⟨a17, n17, c17, a18, n18, c18, x5, x6, rfl, hx5, hx6, hr17, hr18, hb17⟩
                clear hx5 hx6
                have s17 := hb17.size
                have HB17 := HB16.trans (hb17.mono HB16.size)
                clear HB16
                replace l0 := (hb17.cell (p := ⟨w10.heap.size, 0, none⟩) (by show w10.heap.size < _; omega)).trans l0
                replace l1 := (hb17.cell (p := ⟨w10.heap.size, 1, none⟩) (by show w10.heap.size < _; omega)).trans l1
                replace t0 := (hb17.cell (p := ⟨w13.heap.size, 0, none⟩) (by show w13.heap.size < _; omega)).trans t0
                replace t1 := (hb17.cell (p := ⟨w13.heap.size, 1, none⟩) (by show w13.heap.size < _; omega)).trans t1
                replace v0 := (hb17.cell (p := ⟨w15.heap.size, 0, none⟩) (by show w15.heap.size < _; omega)).trans v0
                replace v1 := (hb17.cell (p := ⟨w15.heap.size, 1, none⟩) (by show w15.heap.size < _; omega)).trans v1
                go_wp2_with fail
                obtain ⟨hA, hB⟩ := heap_two w17 (.cells #[.slice a17 n17 c17, .int .i64 x5.sum] 28) (.cells #[.slice a18 n18 c18, .int .i64 x6.sum] 28)
                have hb18 : Below w17.heap.size w17 ((w17.alloc (.cells #[.slice a17 n17 c17, .int .i64 x5.sum] 28)).alloc (.cells #[.slice a18 n18 c18, .int .i64 x6.sum] 28)) := ((Below.refl _ _).alloc (Nat.le_refl _) _).alloc (by simp) _
                have k18 : w17.heap.size + 1 < ((w17.alloc (.cells #[.slice a17 n17 c17, .int .i64 x5.sum] 28)).alloc (.cells #[.slice a18 n18 c18, .int .i64 x6.sum] 28)).heap.size := by simp
                generalize (w17.alloc (.cells #[.slice a17 n17 c17, .int .i64 x5.sum] 28)).alloc (.cells #[.slice a18 n18 c18, .int .i64 x6.sum] 28) = w18 at *
                have s18 := hb18.size
                have HB18 := HB17.trans (hb18.mono HB17.size)
                clear HB17
                replace l0 := (hb18.cell (p := ⟨w10.heap.size, 0, none⟩) (by show w10.heap.size < _; omega)).trans l0
                replace l1 := (hb18.cell (p := ⟨w10.heap.size, 1, none⟩) (by show w10.heap.size < _; omega)).trans l1
                replace t0 := (hb18.cell (p := ⟨w13.heap.size, 0, none⟩) (by show w13.heap.size < _; omega)).trans t0
                replace t1 := (hb18.cell (p := ⟨w13.heap.size, 1, none⟩) (by show w13.heap.size < _; omega)).trans t1
                replace v0 := (hb18.cell (p := ⟨w15.heap.size, 0, none⟩) (by show w15.heap.size < _; omega)).trans v0
                replace v1 := (hb18.cell (p := ⟨w15.heap.size, 1, none⟩) (by show w15.heap.size < _; omega)).trans v1
                have m0 : w18.cell? ⟨w17.heap.size, 0, none⟩ = some (.slice a17 n17 c17) := cell_heap0 hA rfl
                have m1 : w18.cell? ⟨w17.heap.size, 1, none⟩ = some (.int .i64 x5.sum) := cell_heap0 hA rfl
                have o0 : w18.cell? ⟨w17.heap.size + 1, 0, none⟩ = some (.slice a18 n18 c18) := cell_heap0 hB rfl
                have o1 : w18.cell? ⟨w17.heap.size + 1, 1, none⟩ = some (.int .i64 x6.sum) := cell_heap0 hB rfl
                clear hA hB
                have HK1 : Hid (heapL ys = true) := heapL_iff.2 HYH.out
                have HK2 : Hid (heapL up = true) := heapL_iff.2 HUP.out.1
                have HK3 : Hid (heapL rest = true) := heapL_iff.2 HPO.out.1
                go_wp2_with fail
                refine wp_region_held_drew (S := fun w' => (w'.cell? ⟨w10.heap.size, 0, none⟩ = some (.slice a10 n10 c10) ∧ w'.cell? ⟨w10.heap.size, 1, none⟩ = some (.int .i64 x3.sum)) ∧ (w'.cell? ⟨w13.heap.size, 0, none⟩ = some (.slice ad nd cd) ∧ w'.cell? ⟨w13.heap.size, 1, none⟩ = some (.int .i64 x4.sum)) ∧ (w'.cell? ⟨w15.heap.size, 0, none⟩ = some (.slice af nf cf) ∧ w'.cell? ⟨w15.heap.size, 1, none⟩ = some (.int .i64 x4.sum)) ∧ (w'.cell? ⟨w17.heap.size, 0, none⟩ = some (.slice a17 n17 c17) ∧ w'.cell? ⟨w17.heap.size, 1, none⟩ = some (.int .i64 x5.sum)) ∧ (w'.cell? ⟨w17.heap.size + 1, 0, none⟩ = some (.slice a18 n18 c18) ∧ w'.cell? ⟨w17.heap.size + 1, 1, none⟩ = some (.int .i64 x6.sum))) (by as_aux_lemma => kernel_rfl) ?_ (fun hHeld => ?_)
                · exact ⟨⟨l0, l1⟩, ⟨t0, t1⟩, ⟨v0, v1⟩, ⟨m0, m1⟩, ⟨o0, o1⟩⟩
                clear l0 l1 t0 t1 v0 v1 m0 m1 o0 o1
                have hb19 : Below w18.heap.size w18 w18.drew := (Below.refl _ _).drew
                generalize w18.drew = w19 at *
                have s19 := hb19.size
                have HB19 := HB18.trans (hb19.mono HB18.size)
                clear HB18
                have ew : IntKind.i64.wrap ((ys.length : Int) + 1) = (ys.length : Int) + 1 := IntWalk.i64_in _ (by omega)
                refine wpAnyH_take (i := 0) (v := ?vA1) (at_op rfl) (by as_aux_lemma => kernel_rfl) (by as_aux_lemma => kernel_rfl) (by as_aux_lemma => kernel_rfl) (fun _ _ _ h => h) (Or.inl ⟨by rfl, ?yA1⟩) (by assumption) ?rA1
                case yA1 =>
                  intro wx hSx
                  go_simp
                  try with_reducible rfl
                try simp only [Act.put, List.setIfInBounds_toArray, List.set_cons_zero, List.set_cons_succ]
                refine wpAnyH_take (i := 1) (v := ?vA2) (at_op rfl) (by as_aux_lemma => kernel_rfl) (by as_aux_lemma => kernel_rfl) (by as_aux_lemma => kernel_rfl) (fun _ _ _ h => h) (Or.inl ⟨by rfl, ?yA2⟩) (by assumption) ?rA2
                case yA2 =>
                  intro wx hSx
                  go_simp
                  try with_reducible rfl
                try simp only [Act.put, List.setIfInBounds_toArray, List.set_cons_zero, List.set_cons_succ]
                refine wpAnyH_take (i := 2) (v := ?vA3) (at_op rfl) (by as_aux_lemma => kernel_rfl) (by as_aux_lemma => kernel_rfl) (by as_aux_lemma => kernel_rfl) (fun _ _ _ h => h) (Or.inl ⟨by rfl, ?yA3⟩) (by assumption) ?rA3
                case yA3 =>
                  intro wx hSx
                  go_simp
                  try with_reducible rfl
                try simp only [Act.put, List.setIfInBounds_toArray, List.set_cons_zero, List.set_cons_succ]
                refine wpAnyH_ready (rs := [3]) (by as_aux_lemma => kernel_rfl) (by simp) ?_
                refine AllReadyH.cons (at_op rfl) (fun K hK => ?_) AllReadyH.nil
                go_simp
                have q := heapOk_impl ys _ _ _ w19 ((((((((((((((((((hH1.same (.of_below hb2 (by omega))).same (.of_below hb3 (by omega))).same (.of_below hb4 (by omega))).same (.of_below hb5 (by omega))).same (.of_below hb6 (by omega))).same (.of_below hb7 (by omega))).same (.of_below hb8 (by omega))).same (.of_below hb9 (by omega))).same (.of_below hb10 (by omega))).same (.of_below hb11 (by omega))).same (.of_below hb12 (by omega))).same (.of_below hb13 (by omega))).same (.of_below hb14 (by omega))).same (.of_below hb15 (by omega))).same (.of_below hb16 (by omega))).same (.of_below hb17 (by omega))).same (.of_below hb18 (by omega))).same (.of_below hb19 (by omega))) (by omega) (by omega)
                rw [HK1.out] at q
                refine q.mono ?_
                clear q
                rintro e w20 ⟨rfl, hb20⟩
                have s20 := hb20.size
                have HB20 := HB19.trans (hb20.mono HB19.size)
                clear HB19
                have hk20 := And.intro (keepC hHeld.1 hb20) (And.intro (keepC hHeld.2.1 hb20) (And.intro (keepC hHeld.2.2.1 hb20) (And.intro (keepC hHeld.2.2.2.1 hb20) (keepC hHeld.2.2.2.2 hb20))))
                clear hHeld
                go_wp2_with fail
                refine hK.out _ _ hk20 (fun _ => ?_)
                clear hK K
                try simp only [Act.put, List.setIfInBounds_toArray, List.set_cons_zero, List.set_cons_succ]
                refine wpAnyH_take (i := 4) (v := ?vA4) (at_op rfl) (by as_aux_lemma => kernel_rfl) (by as_aux_lemma => kernel_rfl) (by as_aux_lemma => kernel_rfl) (fun _ _ _ h => h) (Or.inl ⟨by rfl, ?yA4⟩) (by assumption) ?rA4
                case yA4 =>
                  intro wx hSx
                  go_simp
                  try with_reducible rfl
                try simp only [Act.put, List.setIfInBounds_toArray, List.set_cons_zero, List.set_cons_succ]
                refine wpAnyH_take (i := 5) (v := ?vA5) (at_op rfl) (by as_aux_lemma => kernel_rfl) (by as_aux_lemma => kernel_rfl) (by as_aux_lemma => kernel_rfl) (fun _ _ _ h => h) (Or.inl ⟨by rfl, ?yA5⟩) (by assumption) ?rA5
                case yA5 =>
                  intro wx hSx
                  go_simp
                  try with_reducible rfl
                try simp only [Act.put, List.setIfInBounds_toArray, List.set_cons_zero, List.set_cons_succ]
                refine wpAnyH_take (i := 6) (v := ?vA6) (at_op rfl) (by as_aux_lemma => kernel_rfl) (by as_aux_lemma => kernel_rfl) (by as_aux_lemma => kernel_rfl) (fun _ _ _ h => h) (Or.inl ⟨by rfl, ?yA6⟩) (by assumption) ?rA6
                case yA6 =>
                  intro wx hSx
                  go_simp
                  try with_reducible rfl
                try simp only [Act.put, List.setIfInBounds_toArray, List.set_cons_zero, List.set_cons_succ]
                refine wpAnyH_ready (rs := [7]) (by as_aux_lemma => kernel_rfl) (by simp) ?_
                refine AllReadyH.cons (at_op rfl) (fun K hK => ?_) AllReadyH.nil
                go_simp
                have q := heapOk_impl up _ _ _ w20 ((((((((((((((hH6.same (.of_below hb7 (by omega))).same (.of_below hb8 (by omega))).same (.of_below hb9 (by omega))).same (.of_below hb10 (by omega))).same (.of_below hb11 (by omega))).same (.of_below hb12 (by omega))).same (.of_below hb13 (by omega))).same (.of_below hb14 (by omega))).same (.of_below hb15 (by omega))).same (.of_below hb16 (by omega))).same (.of_below hb17 (by omega))).same (.of_below hb18 (by omega))).same (.of_below hb19 (by omega))).same (.of_below hb20 (by omega))) (by omega) (by rw [HL6.out]; omega)
                rw [HK2.out] at q
                refine q.mono ?_
                clear q
                rintro e w21 ⟨rfl, hb21⟩
                have s21 := hb21.size
                have HB21 := HB20.trans (hb21.mono HB20.size)
                clear HB20
                have hk21 := And.intro (keepC hk20.1 hb21) (And.intro (keepC hk20.2.1 hb21) (And.intro (keepC hk20.2.2.1 hb21) (And.intro (keepC hk20.2.2.2.1 hb21) (keepC hk20.2.2.2.2 hb21))))
                clear hk20
                go_wp2_with fail
                refine hK.out _ _ hk21 (fun _ => ?_)
                clear hK K
                try simp only [Act.put, List.setIfInBounds_toArray, List.set_cons_zero, List.set_cons_succ]
                refine wpAnyH_take (i := 8) (v := ?vA7) (at_op rfl) (by as_aux_lemma => kernel_rfl) (by as_aux_lemma => kernel_rfl) (by as_aux_lemma => kernel_rfl) (fun _ _ _ h => h) (Or.inl ⟨by rfl, ?yA7⟩) (by assumption) ?rA7
                case yA7 =>
                  intro wx hSx
                  go_simp
                  try with_reducible rfl
                try simp only [Act.put, List.setIfInBounds_toArray, List.set_cons_zero, List.set_cons_succ]
                refine wpAnyH_take (i := 9) (v := ?vA8) (at_op rfl) (by as_aux_lemma => kernel_rfl) (by as_aux_lemma => kernel_rfl) (by as_aux_lemma => kernel_rfl) (fun _ _ _ h => h) (Or.inl ⟨by rfl, ?yA8⟩) (by assumption) ?rA8
                case yA8 =>
                  intro wx hSx
                  go_simp
                  try with_reducible rfl
                try simp only [Act.put, List.setIfInBounds_toArray, List.set_cons_zero, List.set_cons_succ]
                refine wpAnyH_take (i := 10) (v := ?vA9) (at_op rfl) (by as_aux_lemma => kernel_rfl) (by as_aux_lemma => kernel_rfl) (by as_aux_lemma => kernel_rfl) (fun _ _ _ h => h) (Or.inl ⟨by rfl, ?yA9⟩) (by assumption) ?rA9
                case yA9 =>
                  intro wx hSx
                  go_simp
                  try with_reducible rfl
                try simp only [Act.put, List.setIfInBounds_toArray, List.set_cons_zero, List.set_cons_succ]
                refine wpAnyH_ready (rs := [11]) (by as_aux_lemma => kernel_rfl) (by simp) ?_
                refine AllReadyH.cons (at_op rfl) (fun K hK => ?_) AllReadyH.nil
                go_simp
                have q := heapOk_impl rest _ _ _ w21 ((((((((((((((hH7.same (.of_below hb8 (by omega))).same (.of_below hb9 (by omega))).same (.of_below hb10 (by omega))).same (.of_below hb11 (by omega))).same (.of_below hb12 (by omega))).same (.of_below hb13 (by omega))).same (.of_below hb14 (by omega))).same (.of_below hb15 (by omega))).same (.of_below hb16 (by omega))).same (.of_below hb17 (by omega))).same (.of_below hb18 (by omega))).same (.of_below hb19 (by omega))).same (.of_below hb20 (by omega))).same (.of_below hb21 (by omega))) (by omega) (by rw [HL7.out]; omega)
                rw [HK3.out] at q
                refine q.mono ?_
                clear q
                rintro e w22 ⟨rfl, hb22⟩
                have s22 := hb22.size
                have HB22 := HB21.trans (hb22.mono HB21.size)
                clear HB21
                have hk22 := And.intro (keepC hk21.1 hb22) (And.intro (keepC hk21.2.1 hb22) (And.intro (keepC hk21.2.2.1 hb22) (And.intro (keepC hk21.2.2.2.1 hb22) (keepC hk21.2.2.2.2 hb22))))
                clear hk21
                go_wp2_with fail
                refine hK.out _ _ hk22 (fun _ => ?_)
                clear hK K
                try simp only [Act.put, List.setIfInBounds_toArray, List.set_cons_zero, List.set_cons_succ]
                refine wpAnyH_take (i := 12) (v := ?vA10) (at_op rfl) (by as_aux_lemma => kernel_rfl) (by as_aux_lemma => kernel_rfl) (by as_aux_lemma => kernel_rfl) (fun _ _ _ h => h) (Or.inl ⟨by rfl, ?yA10⟩) (by assumption) ?rA10
                case yA10 =>
                  intro wx hSx
                  go_simp
                  try with_reducible rfl
                try simp only [Act.put, List.setIfInBounds_toArray, List.set_cons_zero, List.set_cons_succ]
                refine wpAnyH_take (i := 13) (v := ?vA11) (at_op rfl) (by as_aux_lemma => kernel_rfl) (by as_aux_lemma => kernel_rfl) (by as_aux_lemma => kernel_rfl) (fun _ _ _ h => h) (Or.inl ⟨by rfl, ?yA11⟩) (by assumption) ?rA11
                case yA11 =>
                  intro wx hSx
                  go_simp
                  try with_reducible rfl
                try simp only [Act.put, List.setIfInBounds_toArray, List.set_cons_zero, List.set_cons_succ]
                refine wpAnyH_take (i := 14) (v := ?vA12) (at_op rfl) (by as_aux_lemma => kernel_rfl) (by as_aux_lemma => kernel_rfl) (by as_aux_lemma => kernel_rfl) (fun _ _ _ h => h) (Or.inl ⟨by rfl, ?yA12⟩) (by assumption) ?rA12
                case yA12 =>
                  intro wx hSx
                  go_simp
                  try with_reducible rfl
                try simp only [Act.put, List.setIfInBounds_toArray, List.set_cons_zero, List.set_cons_succ]
                refine wpAnyH_take (i := 15) (v := ?vA13) (at_op rfl) (by as_aux_lemma => kernel_rfl) (by as_aux_lemma => kernel_rfl) (by as_aux_lemma => kernel_rfl) (fun _ _ _ h => h) (Or.inl ⟨by rfl, ?yA13⟩) (by assumption) ?rA13
                case yA13 =>
                  intro wx hSx
                  go_simp
                  try with_reducible rfl
                try simp only [Act.put, List.setIfInBounds_toArray, List.set_cons_zero, List.set_cons_succ]
                refine wpAnyH_take (i := 16) (v := ?vA14) (at_op rfl) (by as_aux_lemma => kernel_rfl) (by as_aux_lemma => kernel_rfl) (by as_aux_lemma => kernel_rfl) (fun _ _ _ h => h) (Or.inl ⟨by rfl, ?yA14⟩) (by assumption) ?rA14
                case yA14 =>
                  intro wx hSx
                  go_simp
                  try with_reducible rfl
                try simp only [Act.put, List.setIfInBounds_toArray, List.set_cons_zero, List.set_cons_succ]
                refine wpAnyH_take (i := 17) (v := ?vA15) (at_op rfl) (by as_aux_lemma => kernel_rfl) (by as_aux_lemma => kernel_rfl) (by as_aux_lemma => kernel_rfl) (fun _ _ _ h => h) (Or.inl ⟨by rfl, ?yA15⟩) (by assumption) ?rA15
                case yA15 =>
                  intro wx hSx
                  go_simp
                  try with_reducible rfl
                try simp only [Act.put, List.setIfInBounds_toArray, List.set_cons_zero, List.set_cons_succ]
                refine wpAnyH_take (i := 18) (v := ?vA16) (at_op rfl) (by as_aux_lemma => kernel_rfl) (by as_aux_lemma => kernel_rfl) (by as_aux_lemma => kernel_rfl) (fun _ _ _ h => h) (Or.inl ⟨by rfl, ?yA16⟩) (by assumption) ?rA16
                case yA16 =>
                  intro wx hSx
                  go_simp
                  try with_reducible rfl
                try simp only [Act.put, List.setIfInBounds_toArray, List.set_cons_zero, List.set_cons_succ]
                refine wpAnyH_take (i := 19) (v := ?vA17) (at_op rfl) (by as_aux_lemma => kernel_rfl) (by as_aux_lemma => kernel_rfl) (by as_aux_lemma => kernel_rfl) (fun _ _ _ h => h) (Or.inl ⟨by rfl, ?yA17⟩) (by assumption) ?rA17
                case yA17 =>
                  intro wx hSx
                  go_simp
                  try with_reducible rfl
                try simp only [Act.put, List.setIfInBounds_toArray, List.set_cons_zero, List.set_cons_succ]
                refine wpAnyH_take (i := 20) (v := ?vA18) (at_op rfl) (by as_aux_lemma => kernel_rfl) (by as_aux_lemma => kernel_rfl) (by as_aux_lemma => kernel_rfl) (fun _ _ _ h => h) (Or.inl ⟨by rfl, ?yA18⟩) (by assumption) ?rA18
                case yA18 =>
                  intro wx hSx
                  go_simp
                  try with_reducible rfl
                try simp only [Act.put, List.setIfInBounds_toArray, List.set_cons_zero, List.set_cons_succ]
                refine wpAnyH_take (i := 21) (v := ?vA19) (at_op rfl) (by as_aux_lemma => kernel_rfl) (by as_aux_lemma => kernel_rfl) (by as_aux_lemma => kernel_rfl) (fun _ _ _ h => h) (Or.inl ⟨by rfl, ?yA19⟩) (by assumption) ?rA19
                case yA19 =>
                  intro wx hSx
                  go_simp
                  try with_reducible rfl
                try simp only [Act.put, List.setIfInBounds_toArray, List.set_cons_zero, List.set_cons_succ]
                refine wpAnyH_take (i := 22) (v := ?vA20) (at_op rfl) (by as_aux_lemma => kernel_rfl) (by as_aux_lemma => kernel_rfl) (by as_aux_lemma => kernel_rfl) (fun _ _ _ h => h) (Or.inl ⟨by rfl, ?yA20⟩) (by assumption) ?rA20
                case yA20 =>
                  intro wx hSx
                  go_simp
                  try with_reducible rfl
                try simp only [Act.put, List.setIfInBounds_toArray, List.set_cons_zero, List.set_cons_succ]
                refine wpAnyH_take (i := 23) (v := ?vA21) (at_op rfl) (by as_aux_lemma => kernel_rfl) (by as_aux_lemma => kernel_rfl) (by as_aux_lemma => kernel_rfl) (fun _ _ _ h => h) (Or.inl ⟨by rfl, ?yA21⟩) (by assumption) ?rA21
                case yA21 =>
                  intro wx hSx
                  go_simp
                  try with_reducible rfl
                try simp only [Act.put, List.setIfInBounds_toArray, List.set_cons_zero, List.set_cons_succ]
                refine wpAnyH_take (i := 24) (v := ?vA22) (at_op rfl) (by as_aux_lemma => kernel_rfl) (by as_aux_lemma => kernel_rfl) (by as_aux_lemma => kernel_rfl) (fun _ _ _ h => h) (Or.inl ⟨by rfl, ?yA22⟩) (by assumption) ?rA22
                case yA22 =>
                  intro wx hSx
                  go_simp
                  try with_reducible rfl
                try simp only [Act.put, List.setIfInBounds_toArray, List.set_cons_zero, List.set_cons_succ]
                refine wpAnyH_take (i := 25) (v := ?vA23) (at_op rfl) (by as_aux_lemma => kernel_rfl) (by as_aux_lemma => kernel_rfl) (by as_aux_lemma => kernel_rfl) (fun _ _ _ h => h) (Or.inl ⟨by rfl, ?yA23⟩) (by assumption) ?rA23
                case yA23 =>
                  intro wx hSx
                  go_simp
                  try with_reducible rfl
                try simp only [Act.put, List.setIfInBounds_toArray, List.set_cons_zero, List.set_cons_succ]
                refine wpAnyH_take (i := 26) (v := ?vA24) (at_op rfl) (by as_aux_lemma => kernel_rfl) (by as_aux_lemma => kernel_rfl) (by as_aux_lemma => kernel_rfl) (fun _ _ _ h => h) (Or.inl ⟨by rfl, ?yA24⟩) (by assumption) ?rA24
                case yA24 =>
                  intro wx hSx
                  go_simp
                  try with_reducible rfl
                try simp only [Act.put, List.setIfInBounds_toArray, List.set_cons_zero, List.set_cons_succ]
                refine wpAnyH_take (i := 27) (v := ?vA25) (at_op rfl) (by as_aux_lemma => kernel_rfl) (by as_aux_lemma => kernel_rfl) (by as_aux_lemma => kernel_rfl) (fun _ _ _ h => h) (Or.inl ⟨by rfl, ?yA25⟩) (by assumption) ?rA25
                case yA25 =>
                  intro wx hSx
                  go_simp
                  try with_reducible rfl
                try simp only [Act.put, List.setIfInBounds_toArray, List.set_cons_zero, List.set_cons_succ]
                refine wpAnyH_take (i := 28) (v := ?vA26) (at_op rfl) (by as_aux_lemma => kernel_rfl) (by as_aux_lemma => kernel_rfl) (by as_aux_lemma => kernel_rfl) (fun _ _ _ h => h) (Or.inl ⟨by rfl, ?yA26⟩) (by assumption) ?rA26
                case yA26 =>
                  intro wx hSx
                  go_simp
                  try with_reducible rfl
                try simp only [Act.put, List.setIfInBounds_toArray, List.set_cons_zero, List.set_cons_succ]
                refine wpAnyH_take (i := 29) (v := ?vA27) (at_op rfl) (by as_aux_lemma => kernel_rfl) (by as_aux_lemma => kernel_rfl) (by as_aux_lemma => kernel_rfl) (fun _ _ _ h => h) (Or.inl ⟨by rfl, ?yA27⟩) (by assumption) ?rA27
                case yA27 =>
                  intro wx hSx
                  go_simp
                  try with_reducible rfl
                try simp only [Act.put, List.setIfInBounds_toArray, List.set_cons_zero, List.set_cons_succ]
                refine wpAnyH_take (i := 30) (v := ?vA28) (at_op rfl) (by as_aux_lemma => kernel_rfl) (by as_aux_lemma => kernel_rfl) (by as_aux_lemma => kernel_rfl) (fun _ _ _ h => h) (Or.inl ⟨by rfl, ?yA28⟩) (by assumption) ?rA28
                case yA28 =>
                  intro wx hSx
                  go_simp
                  try with_reducible rfl
                try simp only [Act.put, List.setIfInBounds_toArray, List.set_cons_zero, List.set_cons_succ]
                refine wpAnyH_take (i := 31) (v := ?vA29) (at_op rfl) (by as_aux_lemma => kernel_rfl) (by as_aux_lemma => kernel_rfl) (by as_aux_lemma => kernel_rfl) (fun _ _ _ h => h) (Or.inl ⟨by rfl, ?yA29⟩) (by assumption) ?rA29
                case yA29 =>
                  intro wx hSx
                  go_simp
                  try with_reducible rfl
                try simp only [Act.put, List.setIfInBounds_toArray, List.set_cons_zero, List.set_cons_succ]
                refine wpAnyH_take (i := 32) (v := ?vA30) (at_op rfl) (by as_aux_lemma => kernel_rfl) (by as_aux_lemma => kernel_rfl) (by as_aux_lemma => kernel_rfl) (fun _ _ _ h => h) (Or.inl ⟨by rfl, ?yA30⟩) (by assumption) ?rA30
                case yA30 =>
                  intro wx hSx
                  go_simp
                  try with_reducible rfl
                try simp only [Act.put, List.setIfInBounds_toArray, List.set_cons_zero, List.set_cons_succ]
                refine wpAnyH_take (i := 33) (v := ?vA31) (at_op rfl) (by as_aux_lemma => kernel_rfl) (by as_aux_lemma => kernel_rfl) (by as_aux_lemma => kernel_rfl) (fun _ _ _ h => h) (Or.inl ⟨by rfl, ?yA31⟩) (by assumption) ?rA31
                case yA31 =>
                  intro wx hSx
                  go_simp
                  try with_reducible rfl
                try simp only [Act.put, List.setIfInBounds_toArray, List.set_cons_zero, List.set_cons_succ]
                refine wpAnyH_take (i := 34) (v := ?vA32) (at_op rfl) (by as_aux_lemma => kernel_rfl) (by as_aux_lemma => kernel_rfl) (by as_aux_lemma => kernel_rfl) (fun _ _ _ h => h) (Or.inl ⟨by rfl, ?yA32⟩) (by assumption) ?rA32
                case yA32 =>
                  intro wx hSx
                  go_simp
                  try with_reducible rfl
                try simp only [Act.put, List.setIfInBounds_toArray, List.set_cons_zero, List.set_cons_succ]
                refine wpAnyH_take (i := 35) (v := ?vA33) (at_op rfl) (by as_aux_lemma => kernel_rfl) (by as_aux_lemma => kernel_rfl) (by as_aux_lemma => kernel_rfl) (fun _ _ _ h => h) (Or.inl ⟨by rfl, ?yA33⟩) (by assumption) ?rA33
                case yA33 =>
                  intro wx hSx
                  go_simp
                  try with_reducible rfl
                try simp only [Act.put, List.setIfInBounds_toArray, List.set_cons_zero, List.set_cons_succ]
                refine wpAnyH_take (i := 37) (v := ?vA34) (at_op rfl) (by as_aux_lemma => kernel_rfl) (by as_aux_lemma => kernel_rfl) (by as_aux_lemma => kernel_rfl) (fun _ _ _ h => h) (Or.inl ⟨by rfl, ?yA34⟩) (by assumption) ?rA34
                case yA34 =>
                  intro wx hSx
                  go_simp
                  try with_reducible rfl
                try simp only [Act.put, List.setIfInBounds_toArray, List.set_cons_zero, List.set_cons_succ]
                refine wpAnyH_take (i := 38) (v := ?vA35) (at_op rfl) (by as_aux_lemma => kernel_rfl) (by as_aux_lemma => kernel_rfl) (by as_aux_lemma => kernel_rfl) (fun _ _ _ h => h) (Or.inl ⟨by rfl, ?yA35⟩) (by assumption) ?rA35
                case yA35 =>
                  intro wx hSx
                  go_simp
                  try with_reducible rfl
                try simp only [Act.put, List.setIfInBounds_toArray, List.set_cons_zero, List.set_cons_succ]
                refine wpAnyH_ready (rs := [36]) (by as_aux_lemma => kernel_rfl) (by simp) ?_
                refine AllReadyH.cons (at_op rfl) (fun K hK => ?_) AllReadyH.nil
                go_simp
                have q := pushed_impl ys3 x3 _ _ _ _ _ _ w22 ((((((((((((hH10.same (.of_below hb11 (by omega))).same (.of_below hb12 (by omega))).same (.of_below hb13 (by omega))).same (.of_below hb14 (by omega))).same (.of_below hb15 (by omega))).same (.of_below hb16 (by omega))).same (.of_below hb17 (by omega))).same (.of_below hb18 (by omega))).same (.of_below hb19 (by omega))).same (.of_below hb20 (by omega))).same (.of_below hb21 (by omega))).same (.of_below hb22 (by omega))) (by omega) ((((((((((((hr10.same (.of_below hb11 (by omega))).same (.of_below hb12 (by omega))).same (.of_below hb13 (by omega))).same (.of_below hb14 (by omega))).same (.of_below hb15 (by omega))).same (.of_below hb16 (by omega))).same (.of_below hb17 (by omega))).same (.of_below hb18 (by omega))).same (.of_below hb19 (by omega))).same (.of_below hb20 (by omega))).same (.of_below hb21 (by omega))).same (.of_below hb22 (by omega))) (by omega) (by have := HZ3.out.1; omega) (fun x h => by have := (HZ3.out.2 x h).1; omega) (by have := HX3.out.1; omega)
                refine q.mono ?_
                clear q
                rintro e w23 ⟨ug, rfl, hHg, hb23⟩
                have s23 := hb23.size
                have HB23 := HB22.trans (hb23.mono HB22.size)
                clear HB22
                have hk23 := And.intro (keepC hk22.1 hb23) (And.intro (keepC hk22.2.1 hb23) (And.intro (keepC hk22.2.2.1 hb23) (And.intro (keepC hk22.2.2.2.1 hb23) (keepC hk22.2.2.2.2 hb23))))
                clear hk22
                go_wp2_with fail
                refine hK.out _ _ hk23 (fun _ => ?_)
                clear hK K
                try simp only [Act.put, List.setIfInBounds_toArray, List.set_cons_zero, List.set_cons_succ]
                refine wpAnyH_ready (rs := [39]) (by as_aux_lemma => kernel_rfl) (by simp) ?_
                refine AllReadyH.cons (at_op rfl) (fun K hK => ?_) AllReadyH.nil
                go_simp
                have q := pushed_spec ys3 x3 _ _ _ _ _ _ w23 (((((((((((((hH10.same (.of_below hb11 (by omega))).same (.of_below hb12 (by omega))).same (.of_below hb13 (by omega))).same (.of_below hb14 (by omega))).same (.of_below hb15 (by omega))).same (.of_below hb16 (by omega))).same (.of_below hb17 (by omega))).same (.of_below hb18 (by omega))).same (.of_below hb19 (by omega))).same (.of_below hb20 (by omega))).same (.of_below hb21 (by omega))).same (.of_below hb22 (by omega))).same (.of_below hb23 (by omega))) (by omega) (((((((((((((hr10.same (.of_below hb11 (by omega))).same (.of_below hb12 (by omega))).same (.of_below hb13 (by omega))).same (.of_below hb14 (by omega))).same (.of_below hb15 (by omega))).same (.of_below hb16 (by omega))).same (.of_below hb17 (by omega))).same (.of_below hb18 (by omega))).same (.of_below hb19 (by omega))).same (.of_below hb20 (by omega))).same (.of_below hb21 (by omega))).same (.of_below hb22 (by omega))).same (.of_below hb23 (by omega))) (by omega) (by have := HZ3.out.1; omega) (fun x h => by have := (HZ3.out.2 x h).1; omega) (by have := HX3.out.1; omega)
                refine q.mono ?_
                clear q
                rintro e w24 ⟨uh, rfl, hHh, hb24⟩
                have s24 := hb24.size
                have HB24 := HB23.trans (hb24.mono HB23.size)
                clear HB23
                have hk24 := And.intro (keepC hk23.1 hb24) (And.intro (keepC hk23.2.1 hb24) (And.intro (keepC hk23.2.2.1 hb24) (And.intro (keepC hk23.2.2.2.1 hb24) (keepC hk23.2.2.2.2 hb24))))
                clear hk23
                go_wp2_with fail
                refine hK.out _ _ hk24 (fun _ => ?_)
                clear hK K
                try simp only [Act.put, List.setIfInBounds_toArray, List.set_cons_zero, List.set_cons_succ]
                refine wpAnyH_ready (rs := [40]) (by as_aux_lemma => kernel_rfl) (by simp) ?_
                refine AllReadyH.cons (at_op rfl) (fun K hK => ?_) AllReadyH.nil
                go_simp
                have q := sameSt_any _ _ _ _ _ _ _ w24 (hHg.same (.of_below hb24 (by omega))) (by omega) hHh (by omega) (by have := push_len ys3 x3; have := HZ3.out.1; omega)
                refine q.mono ?_
                clear q
                rintro e w25 ⟨rfl, hb25⟩
                have s25 := hb25.size
                have HB25 := HB24.trans (hb25.mono HB24.size)
                clear HB24
                have hk25 := And.intro (keepC hk24.1 hb25) (And.intro (keepC hk24.2.1 hb25) (And.intro (keepC hk24.2.2.1 hb25) (And.intro (keepC hk24.2.2.2.1 hb25) (keepC hk24.2.2.2.2 hb25))))
                clear hk24
                go_wp2_with fail
                refine hK.out _ _ hk25 (fun _ => ?_)
                clear hK K
                try simp only [Act.put, List.setIfInBounds_toArray, List.set_cons_zero, List.set_cons_succ]
                refine wpAnyH_take (i := 41) (v := ?vA36) (at_op rfl) (by as_aux_lemma => kernel_rfl) (by as_aux_lemma => kernel_rfl) (by as_aux_lemma => kernel_rfl) (fun _ _ _ h => h) (Or.inl ⟨by rfl, ?yA36⟩) (by assumption) ?rA36
                case yA36 =>
                  intro wx hSx
                  go_simp
                  try with_reducible rfl
                try simp only [Act.put, List.setIfInBounds_toArray, List.set_cons_zero, List.set_cons_succ]
                refine wpAnyH_take (i := 42) (v := ?vA37) (at_op rfl) (by as_aux_lemma => kernel_rfl) (by as_aux_lemma => kernel_rfl) (by as_aux_lemma => kernel_rfl) (fun _ _ _ h => h) (Or.inl ⟨by rfl, ?yA37⟩) (by assumption) ?rA37
                case yA37 =>
                  intro wx hSx
                  go_simp
                  try with_reducible rfl
                try simp only [Act.put, List.setIfInBounds_toArray, List.set_cons_zero, List.set_cons_succ]
                refine wpAnyH_take (i := 43) (v := ?vA38) (at_op rfl) (by as_aux_lemma => kernel_rfl) (by as_aux_lemma => kernel_rfl) (by as_aux_lemma => kernel_rfl) (fun _ _ _ h => h) (Or.inl ⟨by rfl, ?yA38⟩) (by assumption) ?rA38
                case yA38 =>
                  intro wx hSx
                  go_simp
                  try with_reducible rfl
                try simp only [Act.put, List.setIfInBounds_toArray, List.set_cons_zero, List.set_cons_succ]
                refine wpAnyH_take (i := 44) (v := ?vA39) (at_op rfl) (by as_aux_lemma => kernel_rfl) (by as_aux_lemma => kernel_rfl) (by as_aux_lemma => kernel_rfl) (fun _ _ _ h => h) (Or.inl ⟨by rfl, ?yA39⟩) (by assumption) ?rA39
                case yA39 =>
                  intro wx hSx
                  go_simp
                  try with_reducible rfl
                try simp only [Act.put, List.setIfInBounds_toArray, List.set_cons_zero, List.set_cons_succ]
                refine wpAnyH_take (i := 45) (v := ?vA40) (at_op rfl) (by as_aux_lemma => kernel_rfl) (by as_aux_lemma => kernel_rfl) (by as_aux_lemma => kernel_rfl) (fun _ _ _ h => h) (Or.inl ⟨by rfl, ?yA40⟩) (by assumption) ?rA40
                case yA40 =>
                  intro wx hSx
                  go_simp
                  try with_reducible rfl
                try simp only [Act.put, List.setIfInBounds_toArray, List.set_cons_zero, List.set_cons_succ]
                refine wpAnyH_take (i := 46) (v := ?vA41) (at_op rfl) (by as_aux_lemma => kernel_rfl) (by as_aux_lemma => kernel_rfl) (by as_aux_lemma => kernel_rfl) (fun _ _ _ h => h) (Or.inl ⟨by rfl, ?yA41⟩) (by assumption) ?rA41
                case yA41 =>
                  intro wx hSx
                  go_simp
                  try with_reducible rfl
                try simp only [Act.put, List.setIfInBounds_toArray, List.set_cons_zero, List.set_cons_succ]
                refine wpAnyH_take (i := 47) (v := ?vA42) (at_op rfl) (by as_aux_lemma => kernel_rfl) (by as_aux_lemma => kernel_rfl) (by as_aux_lemma => kernel_rfl) (fun _ _ _ h => h) (Or.inl ⟨by rfl, ?yA42⟩) (by assumption) ?rA42
                case yA42 =>
                  intro wx hSx
                  go_simp
                  try with_reducible rfl
                try simp only [Act.put, List.setIfInBounds_toArray, List.set_cons_zero, List.set_cons_succ]
                refine wpAnyH_take (i := 48) (v := ?vA43) (at_op rfl) (by as_aux_lemma => kernel_rfl) (by as_aux_lemma => kernel_rfl) (by as_aux_lemma => kernel_rfl) (fun _ _ _ h => h) (Or.inl ⟨by rfl, ?yA43⟩) (by assumption) ?rA43
                case yA43 =>
                  intro wx hSx
                  go_simp
                  try with_reducible rfl
                try simp only [Act.put, List.setIfInBounds_toArray, List.set_cons_zero, List.set_cons_succ]
                refine wpAnyH_take (i := 49) (v := ?vA44) (at_op rfl) (by as_aux_lemma => kernel_rfl) (by as_aux_lemma => kernel_rfl) (by as_aux_lemma => kernel_rfl) (fun _ _ _ h => h) (Or.inl ⟨by rfl, ?yA44⟩) (by assumption) ?rA44
                case yA44 =>
                  intro wx hSx
                  go_simp
                  try with_reducible rfl
                try simp only [Act.put, List.setIfInBounds_toArray, List.set_cons_zero, List.set_cons_succ]
                refine wpAnyH_ready (rs := [50]) (by as_aux_lemma => kernel_rfl) (by simp) ?_
                refine AllReadyH.cons (at_op rfl) (fun K hK => ?_) AllReadyH.nil
                go_simp
                have q := sameSt_any _ _ _ _ _ _ _ w25 ((((((((((((hHd.same (.of_below hb14 (by omega))).same (.of_below hb15 (by omega))).same (.of_below hb16 (by omega))).same (.of_below hb17 (by omega))).same (.of_below hb18 (by omega))).same (.of_below hb19 (by omega))).same (.of_below hb20 (by omega))).same (.of_below hb21 (by omega))).same (.of_below hb22 (by omega))).same (.of_below hb23 (by omega))).same (.of_below hb24 (by omega))).same (.of_below hb25 (by omega))) (by omega) ((((((((((hHf.same (.of_below hb16 (by omega))).same (.of_below hb17 (by omega))).same (.of_below hb18 (by omega))).same (.of_below hb19 (by omega))).same (.of_below hb20 (by omega))).same (.of_below hb21 (by omega))).same (.of_below hb22 (by omega))).same (.of_below hb23 (by omega))).same (.of_below hb24 (by omega))).same (.of_below hb25 (by omega))) (by omega) HN4.out
                refine q.mono ?_
                clear q
                rintro e w26 ⟨rfl, hb26⟩
                have s26 := hb26.size
                have HB26 := HB25.trans (hb26.mono HB25.size)
                clear HB25
                have hk26 := And.intro (keepC hk25.1 hb26) (And.intro (keepC hk25.2.1 hb26) (And.intro (keepC hk25.2.2.1 hb26) (And.intro (keepC hk25.2.2.2.1 hb26) (keepC hk25.2.2.2.2 hb26))))
                clear hk25
                go_wp2_with fail
                refine hK.out _ _ hk26 (fun _ => ?_)
                clear hK K
                try simp only [Act.put, List.setIfInBounds_toArray, List.set_cons_zero, List.set_cons_succ]
                refine wpAnyH_take (i := 51) (v := ?vA45) (at_op rfl) (by as_aux_lemma => kernel_rfl) (by as_aux_lemma => kernel_rfl) (by as_aux_lemma => kernel_rfl) (fun _ _ _ h => h) (Or.inl ⟨by rfl, ?yA45⟩) (by assumption) ?rA45
                case yA45 =>
                  intro wx hSx
                  go_simp
                  try with_reducible rfl
                try simp only [Act.put, List.setIfInBounds_toArray, List.set_cons_zero, List.set_cons_succ]
                refine wpAnyH_take (i := 52) (v := ?vA46) (at_op rfl) (by as_aux_lemma => kernel_rfl) (by as_aux_lemma => kernel_rfl) (by as_aux_lemma => kernel_rfl) (fun _ _ _ h => h) (Or.inl ⟨by rfl, ?yA46⟩) (by assumption) ?rA46
                case yA46 =>
                  intro wx hSx
                  go_simp
                  try with_reducible rfl
                try simp only [Act.put, List.setIfInBounds_toArray, List.set_cons_zero, List.set_cons_succ]
                refine wpAnyH_take (i := 53) (v := ?vA47) (at_op rfl) (by as_aux_lemma => kernel_rfl) (by as_aux_lemma => kernel_rfl) (by as_aux_lemma => kernel_rfl) (fun _ _ _ h => h) (Or.inl ⟨by rfl, ?yA47⟩) (by assumption) ?rA47
                case yA47 =>
                  intro wx hSx
                  go_simp
                  try with_reducible rfl
                try simp only [Act.put, List.setIfInBounds_toArray, List.set_cons_zero, List.set_cons_succ]
                refine wpAnyH_take (i := 54) (v := ?vA48) (at_op rfl) (by as_aux_lemma => kernel_rfl) (by as_aux_lemma => kernel_rfl) (by as_aux_lemma => kernel_rfl) (fun _ _ _ h => h) (Or.inl ⟨by rfl, ?yA48⟩) (by assumption) ?rA48
                case yA48 =>
                  intro wx hSx
                  go_simp
                  try with_reducible rfl
                try simp only [Act.put, List.setIfInBounds_toArray, List.set_cons_zero, List.set_cons_succ]
                refine wpAnyH_take (i := 55) (v := ?vA49) (at_op rfl) (by as_aux_lemma => kernel_rfl) (by as_aux_lemma => kernel_rfl) (by as_aux_lemma => kernel_rfl) (fun _ _ _ h => h) (Or.inl ⟨by rfl, ?yA49⟩) (by assumption) ?rA49
                case yA49 =>
                  intro wx hSx
                  go_simp
                  try with_reducible rfl
                try simp only [Act.put, List.setIfInBounds_toArray, List.set_cons_zero, List.set_cons_succ]
                refine wpAnyH_take (i := 56) (v := ?vA50) (at_op rfl) (by as_aux_lemma => kernel_rfl) (by as_aux_lemma => kernel_rfl) (by as_aux_lemma => kernel_rfl) (fun _ _ _ h => h) (Or.inl ⟨by rfl, ?yA50⟩) (by assumption) ?rA50
                case yA50 =>
                  intro wx hSx
                  go_simp
                  try with_reducible rfl
                try simp only [Act.put, List.setIfInBounds_toArray, List.set_cons_zero, List.set_cons_succ]
                refine wpAnyH_take (i := 57) (v := ?vA51) (at_op rfl) (by as_aux_lemma => kernel_rfl) (by as_aux_lemma => kernel_rfl) (by as_aux_lemma => kernel_rfl) (fun _ _ _ h => h) (Or.inl ⟨by rfl, ?yA51⟩) (by assumption) ?rA51
                case yA51 =>
                  intro wx hSx
                  go_simp
                  try with_reducible rfl
                try simp only [Act.put, List.setIfInBounds_toArray, List.set_cons_zero, List.set_cons_succ]
                refine wpAnyH_take (i := 58) (v := ?vA52) (at_op rfl) (by as_aux_lemma => kernel_rfl) (by as_aux_lemma => kernel_rfl) (by as_aux_lemma => kernel_rfl) (fun _ _ _ h => h) (Or.inl ⟨by rfl, ?yA52⟩) (by assumption) ?rA52
                case yA52 =>
                  intro wx hSx
                  go_simp
                  try with_reducible rfl
                try simp only [Act.put, List.setIfInBounds_toArray, List.set_cons_zero, List.set_cons_succ]
                refine wpAnyH_take (i := 59) (v := ?vA53) (at_op rfl) (by as_aux_lemma => kernel_rfl) (by as_aux_lemma => kernel_rfl) (by as_aux_lemma => kernel_rfl) (fun _ _ _ h => h) (Or.inl ⟨by rfl, ?yA53⟩) (by assumption) ?rA53
                case yA53 =>
                  intro wx hSx
                  go_simp
                  try with_reducible rfl
                try simp only [Act.put, List.setIfInBounds_toArray, List.set_cons_zero, List.set_cons_succ]
                refine wpAnyH_take (i := 60) (v := ?vA54) (at_op rfl) (by as_aux_lemma => kernel_rfl) (by as_aux_lemma => kernel_rfl) (by as_aux_lemma => kernel_rfl) (fun _ _ _ h => h) (Or.inl ⟨by rfl, ?yA54⟩) (by assumption) ?rA54
                case yA54 =>
                  intro wx hSx
                  go_simp
                  try with_reducible rfl
                try simp only [Act.put, List.setIfInBounds_toArray, List.set_cons_zero, List.set_cons_succ]
                refine wpAnyH_take (i := 61) (v := ?vA55) (at_op rfl) (by as_aux_lemma => kernel_rfl) (by as_aux_lemma => kernel_rfl) (by as_aux_lemma => kernel_rfl) (fun _ _ _ h => h) (Or.inl ⟨by rfl, ?yA55⟩) (by assumption) ?rA55
                case yA55 =>
                  intro wx hSx
                  go_simp
                  try with_reducible rfl
                try simp only [Act.put, List.setIfInBounds_toArray, List.set_cons_zero, List.set_cons_succ]
                refine wpAnyH_take (i := 62) (v := ?vA56) (at_op rfl) (by as_aux_lemma => kernel_rfl) (by as_aux_lemma => kernel_rfl) (by as_aux_lemma => kernel_rfl) (fun _ _ _ h => h) (Or.inl ⟨by rfl, ?yA56⟩) (by assumption) ?rA56
                case yA56 =>
                  intro wx hSx
                  go_simp
                  try with_reducible rfl
                try simp only [Act.put, List.setIfInBounds_toArray, List.set_cons_zero, List.set_cons_succ]
                refine wpAnyH_take (i := 63) (v := ?vA57) (at_op rfl) (by as_aux_lemma => kernel_rfl) (by as_aux_lemma => kernel_rfl) (by as_aux_lemma => kernel_rfl) (fun _ _ _ h => h) (Or.inl ⟨by rfl, ?yA57⟩) (by assumption) ?rA57
                case yA57 =>
                  intro wx hSx
                  go_simp
                  try with_reducible rfl
                try simp only [Act.put, List.setIfInBounds_toArray, List.set_cons_zero, List.set_cons_succ]
                refine wpAnyH_ready (rs := [64]) (by as_aux_lemma => kernel_rfl) (by simp) ?_
                refine AllReadyH.cons (at_op rfl) (fun K hK => ?_) AllReadyH.nil
                go_simp
                have q := sameIn_any _ _ _ _ _ _ _ w26 (((((((((((((hrd.same (.of_below hb14 (by omega))).same (.of_below hb15 (by omega))).same (.of_below hb16 (by omega))).same (.of_below hb17 (by omega))).same (.of_below hb18 (by omega))).same (.of_below hb19 (by omega))).same (.of_below hb20 (by omega))).same (.of_below hb21 (by omega))).same (.of_below hb22 (by omega))).same (.of_below hb23 (by omega))).same (.of_below hb24 (by omega))).same (.of_below hb25 (by omega))).same (.of_below hb26 (by omega))) (by omega) (((((((((((hrf.same (.of_below hb16 (by omega))).same (.of_below hb17 (by omega))).same (.of_below hb18 (by omega))).same (.of_below hb19 (by omega))).same (.of_below hb20 (by omega))).same (.of_below hb21 (by omega))).same (.of_below hb22 (by omega))).same (.of_below hb23 (by omega))).same (.of_below hb24 (by omega))).same (.of_below hb25 (by omega))).same (.of_below hb26 (by omega))) (by omega)
                refine q.mono ?_
                clear q
                rintro e w27 ⟨rfl, hb27⟩
                have s27 := hb27.size
                have HB27 := HB26.trans (hb27.mono HB26.size)
                clear HB26
                have hk27 := And.intro (keepC hk26.1 hb27) (And.intro (keepC hk26.2.1 hb27) (And.intro (keepC hk26.2.2.1 hb27) (And.intro (keepC hk26.2.2.2.1 hb27) (keepC hk26.2.2.2.2 hb27))))
                clear hk26
                go_wp2_with fail
                refine hK.out _ _ hk27 (fun _ => ?_)
                clear hK K
                try simp only [Act.put, List.setIfInBounds_toArray, List.set_cons_zero, List.set_cons_succ]
                refine wpAnyH_take (i := 65) (v := ?vA58) (at_op rfl) (by as_aux_lemma => kernel_rfl) (by as_aux_lemma => kernel_rfl) (by as_aux_lemma => kernel_rfl) (fun _ _ _ h => h) (Or.inl ⟨by rfl, ?yA58⟩) (by assumption) ?rA58
                case yA58 =>
                  intro wx hSx
                  go_simp
                  try with_reducible rfl
                try simp only [Act.put, List.setIfInBounds_toArray, List.set_cons_zero, List.set_cons_succ]
                refine wpAnyH_take (i := 66) (v := ?vA59) (at_op rfl) (by as_aux_lemma => kernel_rfl) (by as_aux_lemma => kernel_rfl) (by as_aux_lemma => kernel_rfl) (fun _ _ _ h => h) (Or.inl ⟨by rfl, ?yA59⟩) (by assumption) ?rA59
                case yA59 =>
                  intro wx hSx
                  go_simp
                  try with_reducible rfl
                try simp only [Act.put, List.setIfInBounds_toArray, List.set_cons_zero, List.set_cons_succ]
                refine wpAnyH_take (i := 67) (v := ?vA60) (at_op rfl) (by as_aux_lemma => kernel_rfl) (by as_aux_lemma => kernel_rfl) (by as_aux_lemma => kernel_rfl) (fun _ _ _ h => h) (Or.inl ⟨by rfl, ?yA60⟩) (by assumption) ?rA60
                case yA60 =>
                  intro wx hSx
                  go_simp
                  try with_reducible rfl
                try simp only [Act.put, List.setIfInBounds_toArray, List.set_cons_zero, List.set_cons_succ]
                refine wpAnyH_take (i := 68) (v := ?vA61) (at_op rfl) (by as_aux_lemma => kernel_rfl) (by as_aux_lemma => kernel_rfl) (by as_aux_lemma => kernel_rfl) (fun _ _ _ h => h) (Or.inl ⟨by rfl, ?yA61⟩) (by assumption) ?rA61
                case yA61 =>
                  intro wx hSx
                  go_simp
                  try with_reducible rfl
                try simp only [Act.put, List.setIfInBounds_toArray, List.set_cons_zero, List.set_cons_succ]
                refine wpAnyH_take (i := 70) (v := ?vA62) (at_op rfl) (by as_aux_lemma => kernel_rfl) (by as_aux_lemma => kernel_rfl) (by as_aux_lemma => kernel_rfl) (fun _ _ _ h => h) (Or.inl ⟨by rfl, ?yA62⟩) (by assumption) ?rA62
                case yA62 =>
                  intro wx hSx
                  go_simp
                  try with_reducible rfl
                try simp only [Act.put, List.setIfInBounds_toArray, List.set_cons_zero, List.set_cons_succ]
                refine wpAnyH_take (i := 71) (v := ?vA63) (at_op rfl) (by as_aux_lemma => kernel_rfl) (by as_aux_lemma => kernel_rfl) (by as_aux_lemma => kernel_rfl) (fun _ _ _ h => h) (Or.inl ⟨by rfl, ?yA63⟩) (by assumption) ?rA63
                case yA63 =>
                  intro wx hSx
                  go_simp
                  try with_reducible rfl
                try simp only [Act.put, List.setIfInBounds_toArray, List.set_cons_zero, List.set_cons_succ]
                refine wpAnyH_ready (rs := [69]) (by as_aux_lemma => kernel_rfl) (by simp) ?_
                refine AllReadyH.cons (at_op rfl) (fun K hK => ?_) AllReadyH.nil
                go_simp
                have q := less_impl (w := w27) x5 x6 ((((((((((hr17.same (.of_below hb18 (by omega))).same (.of_below hb19 (by omega))).same (.of_below hb20 (by omega))).same (.of_below hb21 (by omega))).same (.of_below hb22 (by omega))).same (.of_below hb23 (by omega))).same (.of_below hb24 (by omega))).same (.of_below hb25 (by omega))).same (.of_below hb26 (by omega))).same (.of_below hb27 (by omega))) (by omega) ((((((((((hr18.same (.of_below hb18 (by omega))).same (.of_below hb19 (by omega))).same (.of_below hb20 (by omega))).same (.of_below hb21 (by omega))).same (.of_below hb22 (by omega))).same (.of_below hb23 (by omega))).same (.of_below hb24 (by omega))).same (.of_below hb25 (by omega))).same (.of_below hb26 (by omega))).same (.of_below hb27 (by omega))) (by omega)
                refine q.mono ?_
                clear q
                rintro e w28 ⟨rfl, hb28⟩
                have s28 := hb28.size
                have HB28 := HB27.trans (hb28.mono HB27.size)
                clear HB27
                have hk28 := And.intro (keepC hk27.1 hb28) (And.intro (keepC hk27.2.1 hb28) (And.intro (keepC hk27.2.2.1 hb28) (And.intro (keepC hk27.2.2.2.1 hb28) (keepC hk27.2.2.2.2 hb28))))
                clear hk27
                go_wp2_with fail
                refine hK.out _ _ hk28 (fun _ => ?_)
                clear hK K
                try simp only [Act.put, List.setIfInBounds_toArray, List.set_cons_zero, List.set_cons_succ]
                refine wpAnyH_ready (rs := [72]) (by as_aux_lemma => kernel_rfl) (by simp) ?_
                refine AllReadyH.cons (at_op rfl) (fun K hK => ?_) AllReadyH.nil
                go_simp
                have q := less_spec (w := w28) x5 x6 (((((((((((hr17.same (.of_below hb18 (by omega))).same (.of_below hb19 (by omega))).same (.of_below hb20 (by omega))).same (.of_below hb21 (by omega))).same (.of_below hb22 (by omega))).same (.of_below hb23 (by omega))).same (.of_below hb24 (by omega))).same (.of_below hb25 (by omega))).same (.of_below hb26 (by omega))).same (.of_below hb27 (by omega))).same (.of_below hb28 (by omega))) (by omega) (((((((((((hr18.same (.of_below hb18 (by omega))).same (.of_below hb19 (by omega))).same (.of_below hb20 (by omega))).same (.of_below hb21 (by omega))).same (.of_below hb22 (by omega))).same (.of_below hb23 (by omega))).same (.of_below hb24 (by omega))).same (.of_below hb25 (by omega))).same (.of_below hb26 (by omega))).same (.of_below hb27 (by omega))).same (.of_below hb28 (by omega))) (by omega)
                refine q.mono ?_
                clear q
                rintro e w29 ⟨rfl, hb29⟩
                have s29 := hb29.size
                have HB29 := HB28.trans (hb29.mono HB28.size)
                clear HB28
                have hk29 := And.intro (keepC hk28.1 hb29) (And.intro (keepC hk28.2.1 hb29) (And.intro (keepC hk28.2.2.1 hb29) (And.intro (keepC hk28.2.2.2.1 hb29) (keepC hk28.2.2.2.2 hb29))))
                clear hk28
                go_wp2_with fail
                refine hK.out _ _ hk29 (fun _ => ?_)
                clear hK K
                try simp only [Act.put, List.setIfInBounds_toArray, List.set_cons_zero, List.set_cons_succ]
                refine wpAnyH_take (i := 73) (v := ?vA64) (at_op rfl) (by as_aux_lemma => kernel_rfl) (by as_aux_lemma => kernel_rfl) (by as_aux_lemma => kernel_rfl) (fun _ _ _ h => h) (Or.inl ⟨by rfl, ?yA64⟩) (by assumption) ?rA64
                case yA64 =>
                  intro wx hSx
                  go_simp
                  try with_reducible rfl
                try simp only [Act.put, List.setIfInBounds_toArray, List.set_cons_zero, List.set_cons_succ]
                refine wpAnyH_take (i := 74) (v := ?vA65) (at_op rfl) (by as_aux_lemma => kernel_rfl) (by as_aux_lemma => kernel_rfl) (by as_aux_lemma => kernel_rfl) (fun _ _ _ h => h) (Or.inl ⟨by rfl, ?yA65⟩) (by assumption) ?rA65
                case yA65 =>
                  intro wx hSx
                  go_simp
                  try with_reducible rfl
                try simp only [Act.put, List.setIfInBounds_toArray, List.set_cons_zero, List.set_cons_succ]
                refine wpAnyH_take (i := 75) (v := ?vA66) (at_op rfl) (by as_aux_lemma => kernel_rfl) (by as_aux_lemma => kernel_rfl) (by as_aux_lemma => kernel_rfl) (fun _ _ _ h => h) (Or.inl ⟨by rfl, ?yA66⟩) (by assumption) ?rA66
                case yA66 =>
                  intro wx hSx
                  go_simp
                  try with_reducible rfl
                try simp only [Act.put, List.setIfInBounds_toArray, List.set_cons_zero, List.set_cons_succ]
                refine wpAnyH_take (i := 76) (v := ?vA67) (at_op rfl) (by as_aux_lemma => kernel_rfl) (by as_aux_lemma => kernel_rfl) (by as_aux_lemma => kernel_rfl) (fun _ _ _ h => h) (Or.inl ⟨by rfl, ?yA67⟩) (by assumption) ?rA67
                case yA67 =>
                  intro wx hSx
                  go_simp
                  try with_reducible rfl
                try simp only [Act.put, List.setIfInBounds_toArray, List.set_cons_zero, List.set_cons_succ]
                refine wpAnyH_take (i := 78) (v := ?vA68) (at_op rfl) (by as_aux_lemma => kernel_rfl) (by as_aux_lemma => kernel_rfl) (by as_aux_lemma => kernel_rfl) (fun _ _ _ h => h) (Or.inl ⟨by rfl, ?yA68⟩) (by assumption) ?rA68
                case yA68 =>
                  intro wx hSx
                  go_simp
                  try with_reducible rfl
                try simp only [Act.put, List.setIfInBounds_toArray, List.set_cons_zero, List.set_cons_succ]
                refine wpAnyH_ready (rs := [77]) (by as_aux_lemma => kernel_rfl) (by simp) ?_
                refine AllReadyH.cons (at_op rfl) (fun K hK => ?_) AllReadyH.nil
                go_simp
                have q := heapOk_impl ys2 _ _ _ w29 (((((((((((((((((((((((((((hH2.same (.of_below hb3 (by omega))).same (.of_below hb4 (by omega))).same (.of_below hb5 (by omega))).same (.of_below hb6 (by omega))).same (.of_below hb7 (by omega))).same (.of_below hb8 (by omega))).same (.of_below hb9 (by omega))).same (.of_below hb10 (by omega))).same (.of_below hb11 (by omega))).same (.of_below hb12 (by omega))).same (.of_below hb13 (by omega))).same (.of_below hb14 (by omega))).same (.of_below hb15 (by omega))).same (.of_below hb16 (by omega))).same (.of_below hb17 (by omega))).same (.of_below hb18 (by omega))).same (.of_below hb19 (by omega))).same (.of_below hb20 (by omega))).same (.of_below hb21 (by omega))).same (.of_below hb22 (by omega))).same (.of_below hb23 (by omega))).same (.of_below hb24 (by omega))).same (.of_below hb25 (by omega))).same (.of_below hb26 (by omega))).same (.of_below hb27 (by omega))).same (.of_below hb28 (by omega))).same (.of_below hb29 (by omega))) (by omega) (by have := HZ2.out.1; omega)
                refine q.mono ?_
                clear q
                rintro e w30 ⟨rfl, hb30⟩
                have s30 := hb30.size
                have HB30 := HB29.trans (hb30.mono HB29.size)
                clear HB29
                have hk30 := And.intro (keepC hk29.1 hb30) (And.intro (keepC hk29.2.1 hb30) (And.intro (keepC hk29.2.2.1 hb30) (And.intro (keepC hk29.2.2.2.1 hb30) (keepC hk29.2.2.2.2 hb30))))
                clear hk29
                go_wp2_with fail
                refine hK.out _ _ hk30 (fun _ => ?_)
                clear hK K
                try simp only [Act.put, List.setIfInBounds_toArray, List.set_cons_zero, List.set_cons_succ]
                refine wpAnyH_ready (rs := [79]) (by as_aux_lemma => kernel_rfl) (by simp) ?_
                refine AllReadyH.cons (at_op rfl) (fun K hK => ?_) AllReadyH.nil
                go_simp
                have q := heapOk_spec ys2 _ _ _ w30 ((((((((((((((((((((((((((((hH2.same (.of_below hb3 (by omega))).same (.of_below hb4 (by omega))).same (.of_below hb5 (by omega))).same (.of_below hb6 (by omega))).same (.of_below hb7 (by omega))).same (.of_below hb8 (by omega))).same (.of_below hb9 (by omega))).same (.of_below hb10 (by omega))).same (.of_below hb11 (by omega))).same (.of_below hb12 (by omega))).same (.of_below hb13 (by omega))).same (.of_below hb14 (by omega))).same (.of_below hb15 (by omega))).same (.of_below hb16 (by omega))).same (.of_below hb17 (by omega))).same (.of_below hb18 (by omega))).same (.of_below hb19 (by omega))).same (.of_below hb20 (by omega))).same (.of_below hb21 (by omega))).same (.of_below hb22 (by omega))).same (.of_below hb23 (by omega))).same (.of_below hb24 (by omega))).same (.of_below hb25 (by omega))).same (.of_below hb26 (by omega))).same (.of_below hb27 (by omega))).same (.of_below hb28 (by omega))).same (.of_below hb29 (by omega))).same (.of_below hb30 (by omega))) (by omega) (by have := HZ2.out.1; omega)
                refine q.mono ?_
                clear q
                rintro e w31 ⟨rfl, hb31⟩
                have s31 := hb31.size
                have HB31 := HB30.trans (hb31.mono HB30.size)
                clear HB30
                have hk31 := And.intro (keepC hk30.1 hb31) (And.intro (keepC hk30.2.1 hb31) (And.intro (keepC hk30.2.2.1 hb31) (And.intro (keepC hk30.2.2.2.1 hb31) (keepC hk30.2.2.2.2 hb31))))
                clear hk30
                go_wp2_with fail
                refine hK.out _ _ hk31 (fun _ => ?_)
                clear hK K
                try simp only [Act.put, List.setIfInBounds_toArray, List.set_cons_zero, List.set_cons_succ]
                refine wpAnyH_take (i := 80) (v := ?vA69) (at_op rfl) (by as_aux_lemma => kernel_rfl) (by as_aux_lemma => kernel_rfl) (by as_aux_lemma => kernel_rfl) (fun _ _ _ h => h) (Or.inl ⟨by rfl, ?yA69⟩) (by assumption) ?rA69
                case yA69 =>
                  intro wx hSx
                  go_simp
                  try with_reducible rfl
                try simp only [Act.put, List.setIfInBounds_toArray, List.set_cons_zero, List.set_cons_succ]
                refine wpAnyH_take (i := 81) (v := ?vA70) (at_op rfl) (by as_aux_lemma => kernel_rfl) (by as_aux_lemma => kernel_rfl) (by as_aux_lemma => kernel_rfl) (fun _ _ _ h => h) (Or.inl ⟨by rfl, ?yA70⟩) (by assumption) ?rA70
                case yA70 =>
                  intro wx hSx
                  go_simp
                  try with_reducible rfl
                try simp only [Act.put, List.setIfInBounds_toArray, List.set_cons_zero, List.set_cons_succ]
                refine wpAnyH_take (i := 82) (v := ?vA71) (at_op rfl) (by as_aux_lemma => kernel_rfl) (by as_aux_lemma => kernel_rfl) (by as_aux_lemma => kernel_rfl) (fun _ _ _ h => h) (Or.inl ⟨by rfl, ?yA71⟩) (by assumption) ?rA71
                case yA71 =>
                  intro wx hSx
                  go_simp
                  try with_reducible rfl
                try simp only [Act.put, List.setIfInBounds_toArray, List.set_cons_zero, List.set_cons_succ]
                refine wpAnyH_done (by as_aux_lemma => kernel_rfl) ?_ _
                go_wp2
                go_ret
                exact ⟨by first | rfl | simp, HB31⟩
  · go_simp
    have hbE : Below wD.heap.size wD (wD.alloc (.cells #[.slice none 0 0, .int .i64 0] 28)) := (Below.refl _ _).alloc (Nat.le_refl _) _
    refine hK.out _ _ (hkp _ hbE) (fun _ => ?_)
    clear hK K
    try simp only [Act.put, List.setIfInBounds_toArray, List.set_cons_zero, List.set_cons_succ]
    refine wpAnyH_ready (rs := [4]) (by kernel_rfl) (by simp) ?_
    refine AllReadyH.cons (at_op rfl) (fun K hK => ?_) AllReadyH.nil
    go_simp
    have hbF : Below wD.heap.size wD ((wD.alloc (.cells #[.slice none 0 0, .int .i64 0] 28)).alloc (.cells #[.int .i64 g0] 3)) := hbE.alloc (by simp) _
    refine hK.out _ _ (hkp _ hbF) (fun _ => ?_)
    clear hK K
    try simp only [Act.put, List.setIfInBounds_toArray, List.set_cons_zero, List.set_cons_succ]
    refine wpAnyH_take (i := 9) (v := ?v15) (at_op rfl) (by kernel_rfl) (by kernel_rfl) (by kernel_rfl) (fun _ _ _ h => h) (Or.inl ⟨by rfl, ?y15⟩) (by assumption) ?r15
    case y15 =>
      intro wx hSx
      go_simp
      try with_reducible rfl
    try simp only [Act.put, List.setIfInBounds_toArray, List.set_cons_zero, List.set_cons_succ]
    obtain ⟨hA, hB⟩ := heap_two wD (.cells #[.slice none 0 0, .int .i64 0] 28) (.cells #[.int .i64 g0] 3)
    have kE : wD.heap.size + 1 < ((wD.alloc (.cells #[.slice none 0 0, .int .i64 0] 28)).alloc (.cells #[.int .i64 g0] 3)).heap.size := by simp
    have hsV := rd_lit intF (wD.alloc (.cells #[.slice none 0 0, .int .i64 0] 28)) [g0] #[.int .i64 g0] 3 rfl (by simp [maxLen])
    rw [show (wD.alloc (.cells #[.slice none 0 0, .int .i64 0] 28)).heap.size = wD.heap.size + 1 by simp] at hsV
    generalize ((wD.alloc (.cells #[.slice none 0 0, .int .i64 0] 28)).alloc (.cells #[.int .i64 g0] 3)) = wF at *
    have x0 : wF.cell? ⟨wD.heap.size, 0, none⟩ = some (.slice none 0 0) := cell_heap0 hA rfl
    have x1 : wF.cell? ⟨wD.heap.size, 1, none⟩ = some (.int .i64 0) := cell_heap0 hA rfl
    have y0 : wF.frozen? ⟨wD.heap.size, 0, none⟩ = false := frozen_heap0 hA
    have y1 : wF.frozen? ⟨wD.heap.size, 1, none⟩ = false := frozen_heap0 hA
    clear hA hB hbE
    refine wpAnyH_ready (rs := [11]) (by kernel_rfl) (by simp) ?_
    refine AllReadyH.cons (at_op rfl) (fun K hK => ?_) AllReadyH.nil
    go_wp2_with fail
    have hbG : Below wD.heap.size wD ((wF.setCell ⟨wD.heap.size, 0, none⟩ (.slice (some ⟨wD.heap.size + 1, 0, none⟩) 1 1)).setCell ⟨wD.heap.size, 1, none⟩ (.int .i64 g1)) := (hbF.setCell (p := ⟨wD.heap.size, 0, none⟩) (by show _ ≤ wD.heap.size; omega) _).setCell (p := ⟨wD.heap.size, 1, none⟩) (by show _ ≤ wD.heap.size; omega) _
    have q0 : ((wF.setCell ⟨wD.heap.size, 0, none⟩ (.slice (some ⟨wD.heap.size + 1, 0, none⟩) 1 1)).setCell ⟨wD.heap.size, 1, none⟩ (.int .i64 g1)).cell? ⟨wD.heap.size, 0, none⟩ = some (.slice (some ⟨wD.heap.size + 1, 0, none⟩) 1 1) := (World.cell?_setCell_other _ _ _ _ (fun c => by injection c with _ c _; omega)).trans (World.cell?_setCell_same (w := wF) (a := ⟨wD.heap.size, 0, none⟩) (v := (.slice (some ⟨wD.heap.size + 1, 0, none⟩) 1 1)) x0)
    have q1 : ((wF.setCell ⟨wD.heap.size, 0, none⟩ (.slice (some ⟨wD.heap.size + 1, 0, none⟩) 1 1)).setCell ⟨wD.heap.size, 1, none⟩ (.int .i64 g1)).cell? ⟨wD.heap.size, 1, none⟩ = some (.int .i64 g1) := World.cell?_setCell_same (w := wF.setCell ⟨wD.heap.size, 0, none⟩ (.slice (some ⟨wD.heap.size + 1, 0, none⟩) 1 1)) (a := ⟨wD.heap.size, 1, none⟩) (v := .int .i64 g1) ((World.cell?_setCell_other _ _ _ _ (fun c => by injection c with _ c _; omega)).trans x1)
    have hsV5 : Rd intS (wD.heap.size + 1) (wD.heap.size + 1 + 1) ((wF.setCell ⟨wD.heap.size, 0, none⟩ (.slice (some ⟨wD.heap.size + 1, 0, none⟩) 1 1)).setCell ⟨wD.heap.size, 1, none⟩ (.int .i64 g1)) (.slice (some ⟨wD.heap.size + 1, 0, none⟩) 1 1) [g0] := hsV.same (same_storeAll (g := wD.heap.size) (by omega) [(.slice (some ⟨wD.heap.size + 1, 0, none⟩) 1 1), .int .i64 g1] 0 wF)
    have kG : wF.heap.size ≤ ((wF.setCell ⟨wD.heap.size, 0, none⟩ (.slice (some ⟨wD.heap.size + 1, 0, none⟩) 1 1)).setCell ⟨wD.heap.size, 1, none⟩ (.int .i64 g1)).heap.size := by simp [World.setCell]
    clear x0 x1 y0 y1 hsV
    refine hK.out _ _ (hkp _ hbG) (fun _ => ?_)
    clear hK K
    try simp only [Act.put, List.setIfInBounds_toArray, List.set_cons_zero, List.set_cons_succ]
    refine wpAnyH_done (by kernel_rfl) ?_ _
    have hb5 : Below w4.heap.size w4 ((wF.setCell ⟨wD.heap.size, 0, none⟩ (.slice (some ⟨wD.heap.size + 1, 0, none⟩) 1 1)).setCell ⟨wD.heap.size, 1, none⟩ (.int .i64 g1)) := hbD.trans (hbG.mono hsD)
    generalize ((wF.setCell ⟨wD.heap.size, 0, none⟩ (.slice (some ⟨wD.heap.size + 1, 0, none⟩) 1 1)).setCell ⟨wD.heap.size, 1, none⟩ (.int .i64 g1)) = w5 at *
    obtain ⟨V, hV⟩ : ∃ V, V = wD.heap.size + 1 := ⟨_, rfl⟩
    obtain ⟨X, hX⟩ : ∃ X, X = wD.heap.size := ⟨_, rfl⟩
    rw [← hV] at hsV5 q0 ⊢
    rw [← hX] at q0 q1 ⊢
    have hXw : X < w5.heap.size := by omega
    have hVw : V + 1 ≤ w5.heap.size := by omega
    clear hV hX hbF hbG kE kG hbD hkp hsD
    have s5 := hb5.size
    have HB5 := HB4.trans (hb5.mono HB4.size)
    clear HB4
    have HUM := Lib.hid (push_mem (x := (⟨[g0], g1⟩ : StL)) HYH.out)
    have HUP := Lib.hid (push_heap (x := (⟨[g0], g1⟩ : StL)) HYH.out)
    go_wp2_with fail
    have q := pushed_impl ys (⟨[g0], g1⟩ : StL) _ (.slice (some ⟨V, 0, none⟩) 1 1) _ _ _ _ w5 ((((hH1.same (.of_below hb2 (by omega))).same (.of_below hb3 (by omega))).same (.of_below hb4 (by omega))).same (.of_below hb5 (by omega))) (by omega) hsV5 hVw (by omega) (fun x h => by have := (HYS.out x h).1; omega) (by simp)
    refine q.mono ?_
    clear q
    rintro e w6 ⟨u6, rfl, hH6, hb6⟩
    have s6 := hb6.size
    have HB6 := HB5.trans (hb6.mono HB5.size)
    clear HB5
    replace q0 := (hb6.cell (p := ⟨X, 0, none⟩) (by show X < _; omega)).trans q0
    replace q1 := (hb6.cell (p := ⟨X, 1, none⟩) (by show X < _; omega)).trans q1
    obtain ⟨up, hup⟩ : ∃ up, Hid (pushL ys (⟨[g0], g1⟩ : StL) = up) := ⟨_, rfl⟩
    rw [hup.out] at HUM HUP hH6
    have HL6 : Hid (up.length = ys.length + 1) := HUP.out.2.1
    have HU4 : Hid (∀ y ∈ up, Small4 y) := fun y hy => by
      rcases HUM.out y hy with h | h
      · obtain ⟨h1, h2, h3⟩ := HYS.out y h
        exact ⟨h1, h2, by omega⟩
      · subst h
        exact ⟨by simp, G1.1, G1.2⟩
    obtain ⟨ua, uc, rfl, -, -⟩ := hH6.form
    rw [HL6.out] at hH6
    rw [HL6.out]
    have HPO := Lib.hid (pop_heap HUP.out.1 (show 0 < up.length by rw [HL6.out]; omega))
    have HPM := Lib.hid (pop_mem HUP.out.1 (show 0 < up.length by rw [HL6.out]; omega))
    have hd6 : decide (0 < up.length) = true := decide_eq_true (by rw [HL6.out]; omega)
    go_wp2_with fail
    have q := popped_impl up _ _ _ w6 hH6 (by omega) (by rw [HL6.out]; omega) (fun x h => by have := (HU4.out x h).1; omega)
    unfold PopPost at q
    rw [hd6] at q
    refine q.mono ?_
    clear q
    rintro e w7 ⟨u7, a7, n7, c7, rfl, hH7, hr7, hb7⟩
    have s7 := hb7.size
    have HB7 := HB6.trans (hb7.mono HB6.size)
    clear HB6
    replace q0 := (hb7.cell (p := ⟨X, 0, none⟩) (by show X < _; omega)).trans q0
    replace q1 := (hb7.cell (p := ⟨X, 1, none⟩) (by show X < _; omega)).trans q1
    obtain ⟨rest, hrest⟩ : ∃ rest, Hid (popL up = rest) := ⟨_, rfl⟩
    obtain ⟨first, hfirst⟩ : ∃ first, Hid (stA up 0 = first) := ⟨_, rfl⟩
    rw [hrest.out, hfirst.out] at HPO
    rw [hrest.out] at HPM hH7
    rw [hfirst.out] at hr7
    try rw [hfirst.out]
    have HF4 : Hid (Small4 first) := by
      rw [← hfirst.out]
      exact HU4.out _ (by rw [← stA_at (show 0 < up.length by rw [HL6.out]; omega)]; exact List.getElem_mem _)
    have HL7 : Hid (rest.length = ys.length) := by have := HPO.out.2.1; have := HL6.out; show _ = _; omega
    have HR4 : Hid (∀ y ∈ rest, Small4 y) := fun y hy => HU4.out y (HPM.out y hy)
    obtain ⟨ra, rc, rfl, -, -⟩ := hH7.form
    rw [HL7.out] at hH7
    rw [HL7.out]
    clear hd6
    go_wp2_with fail
    have hA := heap_alloc_new w7 (.cells #[.slice a7 n7 c7, .int .i64 first.sum] 28)
    have hb8 : Below w7.heap.size w7 (w7.alloc (.cells #[.slice a7 n7 c7, .int .i64 first.sum] 28)) := (Below.refl _ _).alloc (Nat.le_refl _) _
    have k8 : w7.heap.size < (w7.alloc (.cells #[.slice a7 n7 c7, .int .i64 first.sum] 28)).heap.size := by simp
    generalize w7.alloc (.cells #[.slice a7 n7 c7, .int .i64 first.sum] 28) = w8 at *
    have s8 := hb8.size
    have HB8 := HB7.trans (hb8.mono HB7.size)
    clear HB7
    replace q0 := (hb8.cell (p := ⟨X, 0, none⟩) (by show X < _; omega)).trans q0
    replace q1 := (hb8.cell (p := ⟨X, 1, none⟩) (by show X < _; omega)).trans q1
    have j0 : w8.cell? ⟨w7.heap.size, 0, none⟩ = some (.slice a7 n7 c7) := cell_heap0 hA rfl
    have j1 : w8.cell? ⟨w7.heap.size, 1, none⟩ = some (.int .i64 first.sum) := cell_heap0 hA rfl
    clear hA
    go_loopw [12] (fun i wr => ∃ k : Nat, k ≤ ys.length ∧ i = .int .i64 k ∧ Below w8.heap.size w8 wr) (fun i _ => ys.length + 1 - (intOf i).toNat)
    case atStart => exact ⟨0, Nat.zero_le _, rfl, Below.refl _ _⟩
    case round =>
      obtain ⟨k, hk, rfl, hb9⟩ := hrel
      obtain ⟨w9, hw9⟩ : ∃ x, x = wr := ⟨_, rfl⟩
      subst hw9
      have s9 := hb9.size
      have HB9 := HB8.trans (hb9.mono HB8.size)
      clear HB8
      replace q0 := (hb9.cell (p := ⟨X, 0, none⟩) (by show X < _; omega)).trans q0
      replace q1 := (hb9.cell (p := ⟨X, 1, none⟩) (by show X < _; omega)).trans q1
      replace j0 := (hb9.cell (p := ⟨w7.heap.size, 0, none⟩) (by show w7.heap.size < _; omega)).trans j0
      replace j1 := (hb9.cell (p := ⟨w7.heap.size, 1, none⟩) (by show w7.heap.size < _; omega)).trans j1
      by_cases hlt : k < ys.length
      · have hki : (k : Int) < (ys.length : Int) := by omega
        have hkz : (0 : Int) ≤ (k : Int) := by omega
        have hk7 : k < rest.length := by rw [HL7.out]; exact hlt
        obtain ⟨G, u, rfl, -, hGi, -, c0, c1, hru⟩ := (((hH7.same (.of_below hb8 (by omega))).same (.of_below hb9 (by omega)))).at hk7
        have HLE := Lib.hid (HPO.out.2.2.2 k hk7)
        generalize stA rest k = x at *
        have HLS := Lib.hid (less_impl (w := w9.drew) x first hru (show _ ≤ w9.heap.size by omega) (show Rd intS _ _ w9 _ _ from ((hr7.same (.of_below hb8 (by omega))).same (.of_below hb9 (by omega)))) (show _ ≤ w9.heap.size by omega))
        have e := HLE.out
        unfold LeS at e
        rw [e] at HLS
        clear e HLE hru hk7
        go_wp2_with fail
        refine wp_region_held_drew (S := fun w' => w'.cell? ⟨G, k * 2, none⟩ = some u ∧ w'.cell? ⟨G, k * 2 + 1, none⟩ = some (.int .i64 x.sum) ∧ w'.cell? ⟨w7.heap.size, 0, none⟩ = some (.slice a7 n7 c7) ∧ w'.cell? ⟨w7.heap.size, 1, none⟩ = some (.int .i64 first.sum) ∧ Below w8.heap.size w8 w') (by kernel_rfl) ?_ (fun hHeld => ?_)
        · exact ⟨c0, c1, j0, j1, hb9.drew⟩
        refine wpAnyH_take (i := 0) (v := ?v16) (at_op rfl) (by kernel_rfl) (by kernel_rfl) (by kernel_rfl) (fun _ _ _ h => h) (Or.inl ⟨by rfl, ?y16⟩) (by assumption) ?r16
        case y16 =>
          intro wx hSx
          go_simp
          try with_reducible rfl
        try simp only [Act.put, List.setIfInBounds_toArray, List.set_cons_zero, List.set_cons_succ]
        refine wpAnyH_take (i := 1) (v := ?v17) (at_op rfl) (by kernel_rfl) (by kernel_rfl) (by kernel_rfl) (fun _ _ _ h => h) (Or.inl ⟨by rfl, ?y17⟩) (by assumption) ?r17
        case y17 =>
          intro wx hSx
          go_simp
          try with_reducible rfl
        try simp only [Act.put, List.setIfInBounds_toArray, List.set_cons_zero, List.set_cons_succ]
        refine wpAnyH_take (i := 2) (v := ?v18) (at_op rfl) (by kernel_rfl) (by kernel_rfl) (by kernel_rfl) (fun _ _ _ h => h) (Or.inl ⟨by rfl, ?y18⟩) (by assumption) ?r18
        case y18 =>
          intro wx hSx
          go_simp
          try with_reducible rfl
        try simp only [Act.put, List.setIfInBounds_toArray, List.set_cons_zero, List.set_cons_succ]
        refine wpAnyH_take (i := 3) (v := ?v19) (at_op rfl) (by kernel_rfl) (by kernel_rfl) (by kernel_rfl) (fun _ _ _ h => h) (Or.inl ⟨by rfl, ?y19⟩) (by assumption) ?r19
        case y19 =>
          intro wx hSx
          go_simp
          try with_reducible rfl
        try simp only [Act.put, List.setIfInBounds_toArray, List.set_cons_zero, List.set_cons_succ]
        refine wpAnyH_take (i := 4) (v := ?v20) (at_op rfl) (by kernel_rfl) (by kernel_rfl) (by kernel_rfl) (fun _ _ _ h => h) (Or.inl ⟨by rfl, ?y20⟩) (by assumption) ?r20
        case y20 =>
          intro wx hSx
          go_simp
          try with_reducible rfl
        try simp only [Act.put, List.setIfInBounds_toArray, List.set_cons_zero, List.set_cons_succ]
        refine wpAnyH_ready (rs := [5]) (by kernel_rfl) (by simp) ?_
        refine AllReadyH.cons (at_op rfl) (fun K hK => ?_) AllReadyH.nil
        go_simp
        refine HLS.out.mono ?_
        rintro e w5' ⟨rfl, hbk⟩
        go_wp2_with fail
        refine hK.out _ _ (keep4 hHeld hbk) (fun _ => ?_)
        clear hK K
        try simp only [Act.put, List.setIfInBounds_toArray, List.set_cons_zero, List.set_cons_succ]
        refine wpAnyH_done (by kernel_rfl) ?_ _
        have hbw : Below w8.heap.size w8 w5' := hb9.drew.trans (hbk.mono s9)
        go_wp2
        go_roundw
        case rel => exact ⟨k + 1, by omega, by go_num, hbw⟩
        case measure => simp [intOf]; omega
      · obtain rfl : k = ys.length := by omega
        clear hlt hk
        go_wp2_with fail
        go_loopw [13, 14] (fun sm i wr => ∃ (k : Nat) (z : Int), k ≤ ys.length ∧ i = .int .i64 k ∧ sm = .int .i64 z ∧ Hid (z = g1 + sumS (ys.take k)) ∧ w9 = wr) (fun _ i _ => ys.length + 1 - (intOf i).toNat)
        case atStart => exact ⟨0, g1, Nat.zero_le _, rfl, rfl, by show g1 = g1 + 0; omega, rfl⟩
        case round =>
          obtain ⟨k, z, hk, rfl, rfl, HZ, rfl⟩ := hrel
          by_cases hlt : k < ys.length
          · have hki : (k : Int) < (ys.length : Int) := by omega
            have hkz : (0 : Int) ≤ (k : Int) := by omega
            obtain ⟨G, u, rfl, -, -, -, c0, c1, hru⟩ := (((((((((hH1.same (.of_below hb2 (by omega))).same (.of_below hb3 (by omega))).same (.of_below hb4 (by omega))).same (.of_below hb5 (by omega))).same (.of_below hb6 (by omega))).same (.of_below hb7 (by omega))).same (.of_below hb8 (by omega))).same (.of_below hb9 (by omega)))).at hlt
            have HT := Lib.hid (congrArg sumS (take_stA hlt))
            have hm : SmallS (stA ys k) := HYS.out _ (by rw [← stA_at hlt]; exact List.getElem_mem hlt)
            have hzb : 0 ≤ z ∧ z ≤ 4 + 4 * (ys.length : Int) := by
              have h1 := sumS_small (l := ys.take k) (fun y hy => ⟨(HYS.out y (List.mem_of_mem_take hy)).2.1, by have := (HYS.out y (List.mem_of_mem_take hy)).2.2; omega⟩)
              rw [List.length_take] at h1
              have := HZ.out
              omega
            obtain ⟨hm1, hm2, hm3⟩ := hm
            rw [sumS_snoc] at HT
            generalize stA ys k = x at *
            clear hru c0
            go_wp2
            go_roundw
            case rel => exact ⟨k + 1, z + x.sum, by omega, by go_num, rfl, by show _ = _; rw [HT.out, HZ.out]; omega, by trivial⟩
            case measure => simp [intOf]; omega
          · obtain rfl : k = ys.length := by omega
            rw [List.take_length] at HZ
            clear hlt hk
            clear q0 q1
            go_wp2_with fail
            go_loopw [15, 16] (fun sm i wr => ∃ (k : Nat) (z : Int), k ≤ ys.length ∧ i = .int .i64 k ∧ sm = .int .i64 z ∧ Hid (z = first.sum + sumS (rest.take k)) ∧ w9 = wr) (fun _ i _ => ys.length + 1 - (intOf i).toNat)
            case atStart => exact ⟨0, first.sum, Nat.zero_le _, rfl, rfl, by show first.sum = first.sum + 0; omega, rfl⟩
            case round =>
              obtain ⟨k, z', hk, rfl, rfl, HZ', rfl⟩ := hrel
              by_cases hlt : k < ys.length
              · have hki : (k : Int) < (ys.length : Int) := by omega
                have hkz : (0 : Int) ≤ (k : Int) := by omega
                have hk7 : k < rest.length := by rw [HL7.out]; exact hlt
                obtain ⟨G, u, rfl, -, -, -, c0, c1, hru⟩ := (((hH7.same (.of_below hb8 (by omega))).same (.of_below hb9 (by omega)))).at hk7
                have HT := Lib.hid (congrArg sumS (take_stA hk7))
                have hm : Small4 (stA rest k) := HR4.out _ (by rw [← stA_at hk7]; exact List.getElem_mem hk7)
                have hf4 := HF4.out
                have hzb : 0 ≤ z' ∧ z' ≤ 4 + 4 * (ys.length : Int) := by
                  have h1 := sumS_small (l := rest.take k) (fun y hy => ⟨(HR4.out y (List.mem_of_mem_take hy)).2.1, (HR4.out y (List.mem_of_mem_take hy)).2.2⟩)
                  rw [List.length_take, HL7.out] at h1
                  have := HZ'.out
                  have := hf4.2.1
                  have := hf4.2.2
                  omega
                obtain ⟨hm1, hm2, hm3⟩ := hm
                rw [sumS_snoc] at HT
                generalize stA rest k = x at *
                clear hru c0 hf4 hk7
                go_wp2
                go_roundw
                case rel => exact ⟨k + 1, z' + x.sum, by omega, by go_num, rfl, by show _ = _; rw [HT.out, HZ'.out]; omega, by trivial⟩
                case measure => simp [intOf]; omega
              · obtain rfl : k = ys.length := by omega
                rw [show rest.take ys.length = rest by rw [← HL7.out, List.take_length]] at HZ'
                obtain rfl : z' = z := by have e1 := HZ.out; have e2 := HZ'.out; have e3 := HUP.out.2.2; have e4 := HPO.out.2.2.1; have e5 : sumS up = sumS ys + g1 := e3; omega
                clear hlt hk HZ HZ'
                clear j0 j1
                go_wp2_with fail
                have q := drawPushed_any (((((((((hr.same (.of_below hb1 (by omega))).same (.of_below hb2 (by omega))).same (.of_below hb3 (by omega))).same (.of_below hb4 (by omega))).same (.of_below hb5 (by omega))).same (.of_below hb6 (by omega))).same (.of_below hb7 (by omega))).same (.of_below hb8 (by omega))).same (.of_below hb9 (by omega))) (by omega) hx hl
                refine q.mono ?_
                clear q
                rintro e w10 ⟨u10, a10, n10, c10, ys3, x3, rfl, hys3, hx3, hH10, hr10, hb10⟩
                have HZ3 := Lib.hid hys3
                have HX3 := Lib.hid hx3
                clear hys3 hx3
                have s10 := hb10.size
                have HB10 := HB9.trans (hb10.mono HB9.size)
                clear HB9
                go_wp2_with fail
                have hA := heap_alloc_new w10 (.cells #[.slice a10 n10 c10, .int .i64 x3.sum] 28)
                have hb11 : Below w10.heap.size w10 (w10.alloc (.cells #[.slice a10 n10 c10, .int .i64 x3.sum] 28)) := (Below.refl _ _).alloc (Nat.le_refl _) _
                have k11 : w10.heap.size < (w10.alloc (.cells #[.slice a10 n10 c10, .int .i64 x3.sum] 28)).heap.size := by simp
                generalize w10.alloc (.cells #[.slice a10 n10 c10, .int .i64 x3.sum] 28) = w11 at *
                have s11 := hb11.size
                have HB11 := HB10.trans (hb11.mono HB10.size)
                clear HB10
                have l0 : w11.cell? ⟨w10.heap.size, 0, none⟩ = some (.slice a10 n10 c10) := cell_heap0 hA rfl
                have l1 : w11.cell? ⟨w10.heap.size, 1, none⟩ = some (.int .i64 x3.sum) := cell_heap0 hA rfl
                clear hA
                go_wp2_with fail
                have q := drawPopped_any (((((((((((hr.same (.of_below hb1 (by omega))).same (.of_below hb2 (by omega))).same (.of_below hb3 (by omega))).same (.of_below hb4 (by omega))).same (.of_below hb5 (by omega))).same (.of_below hb6 (by omega))).same (.of_below hb7 (by omega))).same (.of_below hb8 (by omega))).same (.of_below hb9 (by omega))).same (.of_below hb10 (by omega))).same (.of_below hb11 (by omega))) (by omega) hx hl
                refine q.mono ?_
                clear q
                rintro e w12 ⟨u12, ys4, rfl, hys4, hH12, hb12⟩
                have HZ4 := Lib.hid hys4
                clear hys4
                obtain ⟨x4, hx4⟩ : ∃ x4, Hid (stA ys4 0 = x4) := ⟨_, rfl⟩
                obtain ⟨p4, hp4⟩ : ∃ p4, Hid (popL ys4 = p4) := ⟨_, rfl⟩
                obtain ⟨d4, hd4⟩ : ∃ d4, Hid (decide (0 < ys4.length) = d4) := ⟨_, rfl⟩
                have HN4 : Hid (p4.length ≤ 1048576) := by have := pop_len ys4; rw [hp4.out] at this; have := HZ4.out.1; show _ ≤ _; omega
                have s12 := hb12.size
                have HB12 := HB11.trans (hb12.mono HB11.size)
                clear HB11
                replace l0 := (hb12.cell (p := ⟨w10.heap.size, 0, none⟩) (by show w10.heap.size < _; omega)).trans l0
                replace l1 := (hb12.cell (p := ⟨w10.heap.size, 1, none⟩) (by show w10.heap.size < _; omega)).trans l1
                go_wp2_with fail
                have q := popped_impl ys4 _ _ _ w12 hH12 (by omega) (by have := HZ4.out.1; omega) (fun x h => by have := (HZ4.out.2 x h).1; omega)
                unfold PopPost at q
                rw [hx4.out, hp4.out, hd4.out] at q
                refine q.mono ?_
                clear q
                rintro e w13 ⟨ud, ad, nd, cd, rfl, hHd, hrd, hb13⟩
                have s13 := hb13.size
                have HB13 := HB12.trans (hb13.mono HB12.size)
                clear HB12
                replace l0 := (hb13.cell (p := ⟨w10.heap.size, 0, none⟩) (by show w10.heap.size < _; omega)).trans l0
                replace l1 := (hb13.cell (p := ⟨w10.heap.size, 1, none⟩) (by show w10.heap.size < _; omega)).trans l1
                go_wp2_with fail
                have hA := heap_alloc_new w13 (.cells #[.slice ad nd cd, .int .i64 x4.sum] 28)
                have hb14 : Below w13.heap.size w13 (w13.alloc (.cells #[.slice ad nd cd, .int .i64 x4.sum] 28)) := (Below.refl _ _).alloc (Nat.le_refl _) _
                have k14 : w13.heap.size < (w13.alloc (.cells #[.slice ad nd cd, .int .i64 x4.sum] 28)).heap.size := by simp
                generalize w13.alloc (.cells #[.slice ad nd cd, .int .i64 x4.sum] 28) = w14 at *
                have s14 := hb14.size
                have HB14 := HB13.trans (hb14.mono HB13.size)
                clear HB13
                replace l0 := (hb14.cell (p := ⟨w10.heap.size, 0, none⟩) (by show w10.heap.size < _; omega)).trans l0
                replace l1 := (hb14.cell (p := ⟨w10.heap.size, 1, none⟩) (by show w10.heap.size < _; omega)).trans l1
                have t0 : w14.cell? ⟨w13.heap.size, 0, none⟩ = some (.slice ad nd cd) := cell_heap0 hA rfl
                have t1 : w14.cell? ⟨w13.heap.size, 1, none⟩ = some (.int .i64 x4.sum) := cell_heap0 hA rfl
                clear hA
                go_wp2_with fail
                have q := popped_spec ys4 _ _ _ w14 ((hH12.same (.of_below hb13 (by omega))).same (.of_below hb14 (by omega))) (by omega) (by have := HZ4.out.1; omega) (fun x h => by have := (HZ4.out.2 x h).1; omega)
                unfold PopPost at q
                rw [hx4.out, hp4.out, hd4.out] at q
                refine q.mono ?_
                clear q
                rintro e w15 ⟨uf, af, nf, cf, rfl, hHf, hrf, hb15⟩
                have s15 := hb15.size
                have HB15 := HB14.trans (hb15.mono HB14.size)
                clear HB14
                replace l0 := (hb15.cell (p := ⟨w10.heap.size, 0, none⟩) (by show w10.heap.size < _; omega)).trans l0
                replace l1 := (hb15.cell (p := ⟨w10.heap.size, 1, none⟩) (by show w10.heap.size < _; omega)).trans l1
                replace t0 := (hb15.cell (p := ⟨w13.heap.size, 0, none⟩) (by show w13.heap.size < _; omega)).trans t0
                replace t1 := (hb15.cell (p := ⟨w13.heap.size, 1, none⟩) (by show w13.heap.size < _; omega)).trans t1
                go_wp2_with fail
                have hA := heap_alloc_new w15 (.cells #[.slice af nf cf, .int .i64 x4.sum] 28)
                have hb16 : Below w15.heap.size w15 (w15.alloc (.cells #[.slice af nf cf, .int .i64 x4.sum] 28)) := (Below.refl _ _).alloc (Nat.le_refl _) _
                have k16 : w15.heap.size < (w15.alloc (.cells #[.slice af nf cf, .int .i64 x4.sum] 28)).heap.size := by simp
                generalize w15.alloc (.cells #[.slice af nf cf, .int .i64 x4.sum] 28) = w16 at *
                have s16 := hb16.size
                have HB16 := HB15.trans (hb16.mono HB15.size)
                clear HB15
                replace l0 := (hb16.cell (p := ⟨w10.heap.size, 0, none⟩) (by show w10.heap.size < _; omega)).trans l0
                replace l1 := (hb16.cell (p := ⟨w10.heap.size, 1, none⟩) (by show w10.heap.size < _; omega)).trans l1
                replace t0 := (hb16.cell (p := ⟨w13.heap.size, 0, none⟩) (by show w13.heap.size < _; omega)).trans t0
                replace t1 := (hb16.cell (p := ⟨w13.heap.size, 1, none⟩) (by show w13.heap.size < _; omega)).trans t1
                have v0 : w16.cell? ⟨w15.heap.size, 0, none⟩ = some (.slice af nf cf) := cell_heap0 hA rfl
                have v1 : w16.cell? ⟨w15.heap.size, 1, none⟩ = some (.int .i64 x4.sum) := cell_heap0 hA rfl
                clear hA
                go_wp2_with fail
                have q := drawTwo_any ((((((((((((((((hr.same (.of_below hb1 (by omega))).same (.of_below hb2 (by omega))).same (.of_below hb3 (by omega))).same (.of_below hb4 (by omega))).same (.of_below hb5 (by omega))).same (.of_below hb6 (by omega))).same (.of_below hb7 (by omega))).same (.of_below hb8 (by omega))).same (.of_below hb9 (by omega))).same (.of_below hb10 (by omega))).same (.of_below hb11 (by omega))).same (.of_below hb12 (by omega))).same (.of_below hb13 (by omega))).same (.of_below hb14 (by omega))).same (.of_below hb15 (by omega))).same (.of_below hb16 (by omega))) (by omega) hx hl
                refine q.mono ?_
                clear q
                rintro e w17 ⟨a17, n17, c17, a18, n18, c18, x5, x6, rfl, hx5, hx6, hr17, hr18, hb17⟩
                clear hx5 hx6
                have s17 := hb17.size
                have HB17 := HB16.trans (hb17.mono HB16.size)
                clear HB16
                replace l0 := (hb17.cell (p := ⟨w10.heap.size, 0, none⟩) (by show w10.heap.size < _; omega)).trans l0
                replace l1 := (hb17.cell (p := ⟨w10.heap.size, 1, none⟩) (by show w10.heap.size < _; omega)).trans l1
                replace t0 := (hb17.cell (p := ⟨w13.heap.size, 0, none⟩) (by show w13.heap.size < _; omega)).trans t0
                replace t1 := (hb17.cell (p := ⟨w13.heap.size, 1, none⟩) (by show w13.heap.size < _; omega)).trans t1
                replace v0 := (hb17.cell (p := ⟨w15.heap.size, 0, none⟩) (by show w15.heap.size < _; omega)).trans v0
                replace v1 := (hb17.cell (p := ⟨w15.heap.size, 1, none⟩) (by show w15.heap.size < _; omega)).trans v1
                go_wp2_with fail
                obtain ⟨hA, hB⟩ := heap_two w17 (.cells #[.slice a17 n17 c17, .int .i64 x5.sum] 28) (.cells #[.slice a18 n18 c18, .int .i64 x6.sum] 28)
                have hb18 : Below w17.heap.size w17 ((w17.alloc (.cells #[.slice a17 n17 c17, .int .i64 x5.sum] 28)).alloc (.cells #[.slice a18 n18 c18, .int .i64 x6.sum] 28)) := ((Below.refl _ _).alloc (Nat.le_refl _) _).alloc (by simp) _
                have k18 : w17.heap.size + 1 < ((w17.alloc (.cells #[.slice a17 n17 c17, .int .i64 x5.sum] 28)).alloc (.cells #[.slice a18 n18 c18, .int .i64 x6.sum] 28)).heap.size := by simp
                generalize (w17.alloc (.cells #[.slice a17 n17 c17, .int .i64 x5.sum] 28)).alloc (.cells #[.slice a18 n18 c18, .int .i64 x6.sum] 28) = w18 at *
                have s18 := hb18.size
                have HB18 := HB17.trans (hb18.mono HB17.size)
                clear HB17
                replace l0 := (hb18.cell (p := ⟨w10.heap.size, 0, none⟩) (by show w10.heap.size < _; omega)).trans l0
                replace l1 := (hb18.cell (p := ⟨w10.heap.size, 1, none⟩) (by show w10.heap.size < _; omega)).trans l1
                replace t0 := (hb18.cell (p := ⟨w13.heap.size, 0, none⟩) (by show w13.heap.size < _; omega)).trans t0
                replace t1 := (hb18.cell (p := ⟨w13.heap.size, 1, none⟩) (by show w13.heap.size < _; omega)).trans t1
                replace v0 := (hb18.cell (p := ⟨w15.heap.size, 0, none⟩) (by show w15.heap.size < _; omega)).trans v0
                replace v1 := (hb18.cell (p := ⟨w15.heap.size, 1, none⟩) (by show w15.heap.size < _; omega)).trans v1
                have m0 : w18.cell? ⟨w17.heap.size, 0, none⟩ = some (.slice a17 n17 c17) := cell_heap0 hA rfl
                have m1 : w18.cell? ⟨w17.heap.size, 1, none⟩ = some (.int .i64 x5.sum) := cell_heap0 hA rfl
                have o0 : w18.cell? ⟨w17.heap.size + 1, 0, none⟩ = some (.slice a18 n18 c18) := cell_heap0 hB rfl
                have o1 : w18.cell? ⟨w17.heap.size + 1, 1, none⟩ = some (.int .i64 x6.sum) := cell_heap0 hB rfl
                clear hA hB
                have HK1 : Hid (heapL ys = true) := heapL_iff.2 HYH.out
                have HK2 : Hid (heapL up = true) := heapL_iff.2 HUP.out.1
                have HK3 : Hid (heapL rest = true) := heapL_iff.2 HPO.out.1
                go_wp2_with fail
                refine wp_region_held_drew (S := fun w' => (w'.cell? ⟨w10.heap.size, 0, none⟩ = some (.slice a10 n10 c10) ∧ w'.cell? ⟨w10.heap.size, 1, none⟩ = some (.int .i64 x3.sum)) ∧ (w'.cell? ⟨w13.heap.size, 0, none⟩ = some (.slice ad nd cd) ∧ w'.cell? ⟨w13.heap.size, 1, none⟩ = some (.int .i64 x4.sum)) ∧ (w'.cell? ⟨w15.heap.size, 0, none⟩ = some (.slice af nf cf) ∧ w'.cell? ⟨w15.heap.size, 1, none⟩ = some (.int .i64 x4.sum)) ∧ (w'.cell? ⟨w17.heap.size, 0, none⟩ = some (.slice a17 n17 c17) ∧ w'.cell? ⟨w17.heap.size, 1, none⟩ = some (.int .i64 x5.sum)) ∧ (w'.cell? ⟨w17.heap.size + 1, 0, none⟩ = some (.slice a18 n18 c18) ∧ w'.cell? ⟨w17.heap.size + 1, 1, none⟩ = some (.int .i64 x6.sum))) (by as_aux_lemma => kernel_rfl) ?_ (fun hHeld => ?_)
                · exact ⟨⟨l0, l1⟩, ⟨t0, t1⟩, ⟨v0, v1⟩, ⟨m0, m1⟩, ⟨o0, o1⟩⟩
                clear l0 l1 t0 t1 v0 v1 m0 m1 o0 o1
                have hb19 : Below w18.heap.size w18 w18.drew := (Below.refl _ _).drew
                generalize w18.drew = w19 at *
                have s19 := hb19.size
                have HB19 := HB18.trans (hb19.mono HB18.size)
                clear HB18
                have ew : IntKind.i64.wrap ((ys.length : Int) + 1) = (ys.length : Int) + 1 := IntWalk.i64_in _ (by omega)
                refine wpAnyH_take (i := 0) (v := ?vB1) (at_op rfl) (by as_aux_lemma => kernel_rfl) (by as_aux_lemma => kernel_rfl) (by as_aux_lemma => kernel_rfl) (fun _ _ _ h => h) (Or.inl ⟨by rfl, ?yB1⟩) (by assumption) ?rB1
                case yB1 =>
                  intro wx hSx
                  go_simp
                  try with_reducible rfl
                try simp only [Act.put, List.setIfInBounds_toArray, List.set_cons_zero, List.set_cons_succ]
                refine wpAnyH_take (i := 1) (v := ?vB2) (at_op rfl) (by as_aux_lemma => kernel_rfl) (by as_aux_lemma => kernel_rfl) (by as_aux_lemma => kernel_rfl) (fun _ _ _ h => h) (Or.inl ⟨by rfl, ?yB2⟩) (by assumption) ?rB2
                case yB2 =>
                  intro wx hSx
                  go_simp
                  try with_reducible rfl
                try simp only [Act.put, List.setIfInBounds_toArray, List.set_cons_zero, List.set_cons_succ]
                refine wpAnyH_take (i := 2) (v := ?vB3) (at_op rfl) (by as_aux_lemma => kernel_rfl) (by as_aux_lemma => kernel_rfl) (by as_aux_lemma => kernel_rfl) (fun _ _ _ h => h) (Or.inl ⟨by rfl, ?yB3⟩) (by assumption) ?rB3
                case yB3 =>
                  intro wx hSx
                  go_simp
                  try with_reducible rfl
                try simp only [Act.put, List.setIfInBounds_toArray, List.set_cons_zero, List.set_cons_succ]
                refine wpAnyH_ready (rs := [3]) (by as_aux_lemma => kernel_rfl) (by simp) ?_
                refine AllReadyH.cons (at_op rfl) (fun K hK => ?_) AllReadyH.nil
                go_simp
                have q := heapOk_impl ys _ _ _ w19 ((((((((((((((((((hH1.same (.of_below hb2 (by omega))).same (.of_below hb3 (by omega))).same (.of_below hb4 (by omega))).same (.of_below hb5 (by omega))).same (.of_below hb6 (by omega))).same (.of_below hb7 (by omega))).same (.of_below hb8 (by omega))).same (.of_below hb9 (by omega))).same (.of_below hb10 (by omega))).same (.of_below hb11 (by omega))).same (.of_below hb12 (by omega))).same (.of_below hb13 (by omega))).same (.of_below hb14 (by omega))).same (.of_below hb15 (by omega))).same (.of_below hb16 (by omega))).same (.of_below hb17 (by omega))).same (.of_below hb18 (by omega))).same (.of_below hb19 (by omega))) (by omega) (by omega)
                rw [HK1.out] at q
                refine q.mono ?_
                clear q
                rintro e w20 ⟨rfl, hb20⟩
                have s20 := hb20.size
                have HB20 := HB19.trans (hb20.mono HB19.size)
                clear HB19
                have hk20 := And.intro (keepC hHeld.1 hb20) (And.intro (keepC hHeld.2.1 hb20) (And.intro (keepC hHeld.2.2.1 hb20) (And.intro (keepC hHeld.2.2.2.1 hb20) (keepC hHeld.2.2.2.2 hb20))))
                clear hHeld
                go_wp2_with fail
                refine hK.out _ _ hk20 (fun _ => ?_)
                clear hK K
                try simp only [Act.put, List.setIfInBounds_toArray, List.set_cons_zero, List.set_cons_succ]
                refine wpAnyH_take (i := 4) (v := ?vB4) (at_op rfl) (by as_aux_lemma => kernel_rfl) (by as_aux_lemma => kernel_rfl) (by as_aux_lemma => kernel_rfl) (fun _ _ _ h => h) (Or.inl ⟨by rfl, ?yB4⟩) (by assumption) ?rB4
                case yB4 =>
                  intro wx hSx
                  go_simp
                  try with_reducible rfl
                try simp only [Act.put, List.setIfInBounds_toArray, List.set_cons_zero, List.set_cons_succ]
                refine wpAnyH_take (i := 5) (v := ?vB5) (at_op rfl) (by as_aux_lemma => kernel_rfl) (by as_aux_lemma => kernel_rfl) (by as_aux_lemma => kernel_rfl) (fun _ _ _ h => h) (Or.inl ⟨by rfl, ?yB5⟩) (by assumption) ?rB5
                case yB5 =>
                  intro wx hSx
                  go_simp
                  try with_reducible rfl
                try simp only [Act.put, List.setIfInBounds_toArray, List.set_cons_zero, List.set_cons_succ]
                refine wpAnyH_take (i := 6) (v := ?vB6) (at_op rfl) (by as_aux_lemma => kernel_rfl) (by as_aux_lemma => kernel_rfl) (by as_aux_lemma => kernel_rfl) (fun _ _ _ h => h) (Or.inl ⟨by rfl, ?yB6⟩) (by assumption) ?rB6
                case yB6 =>
                  intro wx hSx
                  go_simp
                  try with_reducible rfl
                try simp only [Act.put, List.setIfInBounds_toArray, List.set_cons_zero, List.set_cons_succ]
                refine wpAnyH_ready (rs := [7]) (by as_aux_lemma => kernel_rfl) (by simp) ?_
                refine AllReadyH.cons (at_op rfl) (fun K hK => ?_) AllReadyH.nil
                go_simp
                have q := heapOk_impl up _ _ _ w20 ((((((((((((((hH6.same (.of_below hb7 (by omega))).same (.of_below hb8 (by omega))).same (.of_below hb9 (by omega))).same (.of_below hb10 (by omega))).same (.of_below hb11 (by omega))).same (.of_below hb12 (by omega))).same (.of_below hb13 (by omega))).same (.of_below hb14 (by omega))).same (.of_below hb15 (by omega))).same (.of_below hb16 (by omega))).same (.of_below hb17 (by omega))).same (.of_below hb18 (by omega))).same (.of_below hb19 (by omega))).same (.of_below hb20 (by omega))) (by omega) (by rw [HL6.out]; omega)
                rw [HK2.out] at q
                refine q.mono ?_
                clear q
                rintro e w21 ⟨rfl, hb21⟩
                have s21 := hb21.size
                have HB21 := HB20.trans (hb21.mono HB20.size)
                clear HB20
                have hk21 := And.intro (keepC hk20.1 hb21) (And.intro (keepC hk20.2.1 hb21) (And.intro (keepC hk20.2.2.1 hb21) (And.intro (keepC hk20.2.2.2.1 hb21) (keepC hk20.2.2.2.2 hb21))))
                clear hk20
                go_wp2_with fail
                refine hK.out _ _ hk21 (fun _ => ?_)
                clear hK K
                try simp only [Act.put, List.setIfInBounds_toArray, List.set_cons_zero, List.set_cons_succ]
                refine wpAnyH_take (i := 8) (v := ?vB7) (at_op rfl) (by as_aux_lemma => kernel_rfl) (by as_aux_lemma => kernel_rfl) (by as_aux_lemma => kernel_rfl) (fun _ _ _ h => h) (Or.inl ⟨by rfl, ?yB7⟩) (by assumption) ?rB7
                case yB7 =>
                  intro wx hSx
                  go_simp
                  try with_reducible rfl
                try simp only [Act.put, List.setIfInBounds_toArray, List.set_cons_zero, List.set_cons_succ]
                refine wpAnyH_take (i := 9) (v := ?vB8) (at_op rfl) (by as_aux_lemma => kernel_rfl) (by as_aux_lemma => kernel_rfl) (by as_aux_lemma => kernel_rfl) (fun _ _ _ h => h) (Or.inl ⟨by rfl, ?yB8⟩) (by assumption) ?rB8
                case yB8 =>
                  intro wx hSx
                  go_simp
                  try with_reducible rfl
                try simp only [Act.put, List.setIfInBounds_toArray, List.set_cons_zero, List.set_cons_succ]
                refine wpAnyH_take (i := 10) (v := ?vB9) (at_op rfl) (by as_aux_lemma => kernel_rfl) (by as_aux_lemma => kernel_rfl) (by as_aux_lemma => kernel_rfl) (fun _ _ _ h => h) (Or.inl ⟨by rfl, ?yB9⟩) (by assumption) ?rB9
                case yB9 =>
                  intro wx hSx
                  go_simp
                  try with_reducible rfl
                try simp only [Act.put, List.setIfInBounds_toArray, List.set_cons_zero, List.set_cons_succ]
                refine wpAnyH_ready (rs := [11]) (by as_aux_lemma => kernel_rfl) (by simp) ?_
                refine AllReadyH.cons (at_op rfl) (fun K hK => ?_) AllReadyH.nil
                go_simp
                have q := heapOk_impl rest _ _ _ w21 ((((((((((((((hH7.same (.of_below hb8 (by omega))).same (.of_below hb9 (by omega))).same (.of_below hb10 (by omega))).same (.of_below hb11 (by omega))).same (.of_below hb12 (by omega))).same (.of_below hb13 (by omega))).same (.of_below hb14 (by omega))).same (.of_below hb15 (by omega))).same (.of_below hb16 (by omega))).same (.of_below hb17 (by omega))).same (.of_below hb18 (by omega))).same (.of_below hb19 (by omega))).same (.of_below hb20 (by omega))).same (.of_below hb21 (by omega))) (by omega) (by rw [HL7.out]; omega)
                rw [HK3.out] at q
                refine q.mono ?_
                clear q
                rintro e w22 ⟨rfl, hb22⟩
                have s22 := hb22.size
                have HB22 := HB21.trans (hb22.mono HB21.size)
                clear HB21
                have hk22 := And.intro (keepC hk21.1 hb22) (And.intro (keepC hk21.2.1 hb22) (And.intro (keepC hk21.2.2.1 hb22) (And.intro (keepC hk21.2.2.2.1 hb22) (keepC hk21.2.2.2.2 hb22))))
                clear hk21
                go_wp2_with fail
                refine hK.out _ _ hk22 (fun _ => ?_)
                clear hK K
                try simp only [Act.put, List.setIfInBounds_toArray, List.set_cons_zero, List.set_cons_succ]
                refine wpAnyH_take (i := 12) (v := ?vB10) (at_op rfl) (by as_aux_lemma => kernel_rfl) (by as_aux_lemma => kernel_rfl) (by as_aux_lemma => kernel_rfl) (fun _ _ _ h => h) (Or.inl ⟨by rfl, ?yB10⟩) (by assumption) ?rB10
                case yB10 =>
                  intro wx hSx
                  go_simp
                  try with_reducible rfl
                try simp only [Act.put, List.setIfInBounds_toArray, List.set_cons_zero, List.set_cons_succ]
                refine wpAnyH_take (i := 13) (v := ?vB11) (at_op rfl) (by as_aux_lemma => kernel_rfl) (by as_aux_lemma => kernel_rfl) (by as_aux_lemma => kernel_rfl) (fun _ _ _ h => h) (Or.inl ⟨by rfl, ?yB11⟩) (by assumption) ?rB11
                case yB11 =>
                  intro wx hSx
                  go_simp
                  try with_reducible rfl
                try simp only [Act.put, List.setIfInBounds_toArray, List.set_cons_zero, List.set_cons_succ]
                refine wpAnyH_take (i := 14) (v := ?vB12) (at_op rfl) (by as_aux_lemma => kernel_rfl) (by as_aux_lemma => kernel_rfl) (by as_aux_lemma => kernel_rfl) (fun _ _ _ h => h) (Or.inl ⟨by rfl, ?yB12⟩) (by assumption) ?rB12
                case yB12 =>
                  intro wx hSx
                  go_simp
                  try with_reducible rfl
                try simp only [Act.put, List.setIfInBounds_toArray, List.set_cons_zero, List.set_cons_succ]
                refine wpAnyH_take (i := 15) (v := ?vB13) (at_op rfl) (by as_aux_lemma => kernel_rfl) (by as_aux_lemma => kernel_rfl) (by as_aux_lemma => kernel_rfl) (fun _ _ _ h => h) (Or.inl ⟨by rfl, ?yB13⟩) (by assumption) ?rB13
                case yB13 =>
                  intro wx hSx
                  go_simp
                  try with_reducible rfl
                try simp only [Act.put, List.setIfInBounds_toArray, List.set_cons_zero, List.set_cons_succ]
                refine wpAnyH_take (i := 16) (v := ?vB14) (at_op rfl) (by as_aux_lemma => kernel_rfl) (by as_aux_lemma => kernel_rfl) (by as_aux_lemma => kernel_rfl) (fun _ _ _ h => h) (Or.inl ⟨by rfl, ?yB14⟩) (by assumption) ?rB14
                case yB14 =>
                  intro wx hSx
                  go_simp
                  try with_reducible rfl
                try simp only [Act.put, List.setIfInBounds_toArray, List.set_cons_zero, List.set_cons_succ]
                refine wpAnyH_take (i := 17) (v := ?vB15) (at_op rfl) (by as_aux_lemma => kernel_rfl) (by as_aux_lemma => kernel_rfl) (by as_aux_lemma => kernel_rfl) (fun _ _ _ h => h) (Or.inl ⟨by rfl, ?yB15⟩) (by assumption) ?rB15
                case yB15 =>
                  intro wx hSx
                  go_simp
                  try with_reducible rfl
                try simp only [Act.put, List.setIfInBounds_toArray, List.set_cons_zero, List.set_cons_succ]
                refine wpAnyH_take (i := 18) (v := ?vB16) (at_op rfl) (by as_aux_lemma => kernel_rfl) (by as_aux_lemma => kernel_rfl) (by as_aux_lemma => kernel_rfl) (fun _ _ _ h => h) (Or.inl ⟨by rfl, ?yB16⟩) (by assumption) ?rB16
                case yB16 =>
                  intro wx hSx
                  go_simp
                  try with_reducible rfl
                try simp only [Act.put, List.setIfInBounds_toArray, List.set_cons_zero, List.set_cons_succ]
                refine wpAnyH_take (i := 19) (v := ?vB17) (at_op rfl) (by as_aux_lemma => kernel_rfl) (by as_aux_lemma => kernel_rfl) (by as_aux_lemma => kernel_rfl) (fun _ _ _ h => h) (Or.inl ⟨by rfl, ?yB17⟩) (by assumption) ?rB17
                case yB17 =>
                  intro wx hSx
                  go_simp
                  try with_reducible rfl
                try simp only [Act.put, List.setIfInBounds_toArray, List.set_cons_zero, List.set_cons_succ]
                refine wpAnyH_take (i := 20) (v := ?vB18) (at_op rfl) (by as_aux_lemma => kernel_rfl) (by as_aux_lemma => kernel_rfl) (by as_aux_lemma => kernel_rfl) (fun _ _ _ h => h) (Or.inl ⟨by rfl, ?yB18⟩) (by assumption) ?rB18
                case yB18 =>
                  intro wx hSx
                  go_simp
                  try with_reducible rfl
                try simp only [Act.put, List.setIfInBounds_toArray, List.set_cons_zero, List.set_cons_succ]
                refine wpAnyH_take (i := 21) (v := ?vB19) (at_op rfl) (by as_aux_lemma => kernel_rfl) (by as_aux_lemma => kernel_rfl) (by as_aux_lemma => kernel_rfl) (fun _ _ _ h => h) (Or.inl ⟨by rfl, ?yB19⟩) (by assumption) ?rB19
                case yB19 =>
                  intro wx hSx
                  go_simp
                  try with_reducible rfl
                try simp only [Act.put, List.setIfInBounds_toArray, List.set_cons_zero, List.set_cons_succ]
                refine wpAnyH_take (i := 22) (v := ?vB20) (at_op rfl) (by as_aux_lemma => kernel_rfl) (by as_aux_lemma => kernel_rfl) (by as_aux_lemma => kernel_rfl) (fun _ _ _ h => h) (Or.inl ⟨by rfl, ?yB20⟩) (by assumption) ?rB20
                case yB20 =>
                  intro wx hSx
                  go_simp
                  try with_reducible rfl
                try simp only [Act.put, List.setIfInBounds_toArray, List.set_cons_zero, List.set_cons_succ]
                refine wpAnyH_take (i := 23) (v := ?vB21) (at_op rfl) (by as_aux_lemma => kernel_rfl) (by as_aux_lemma => kernel_rfl) (by as_aux_lemma => kernel_rfl) (fun _ _ _ h => h) (Or.inl ⟨by rfl, ?yB21⟩) (by assumption) ?rB21
                case yB21 =>
                  intro wx hSx
                  go_simp
                  try with_reducible rfl
                try simp only [Act.put, List.setIfInBounds_toArray, List.set_cons_zero, List.set_cons_succ]
                refine wpAnyH_take (i := 24) (v := ?vB22) (at_op rfl) (by as_aux_lemma => kernel_rfl) (by as_aux_lemma => kernel_rfl) (by as_aux_lemma => kernel_rfl) (fun _ _ _ h => h) (Or.inl ⟨by rfl, ?yB22⟩) (by assumption) ?rB22
                case yB22 =>
                  intro wx hSx
                  go_simp
                  try with_reducible rfl
                try simp only [Act.put, List.setIfInBounds_toArray, List.set_cons_zero, List.set_cons_succ]
                refine wpAnyH_take (i := 25) (v := ?vB23) (at_op rfl) (by as_aux_lemma => kernel_rfl) (by as_aux_lemma => kernel_rfl) (by as_aux_lemma => kernel_rfl) (fun _ _ _ h => h) (Or.inl ⟨by rfl, ?yB23⟩) (by assumption) ?rB23
                case yB23 =>
                  intro wx hSx
                  go_simp
                  try with_reducible rfl
                try simp only [Act.put, List.setIfInBounds_toArray, List.set_cons_zero, List.set_cons_succ]
                refine wpAnyH_take (i := 26) (v := ?vB24) (at_op rfl) (by as_aux_lemma => kernel_rfl) (by as_aux_lemma => kernel_rfl) (by as_aux_lemma => kernel_rfl) (fun _ _ _ h => h) (Or.inl ⟨by rfl, ?yB24⟩) (by assumption) ?rB24
                case yB24 =>
                  intro wx hSx
                  go_simp
                  try with_reducible rfl
                try simp only [Act.put, List.setIfInBounds_toArray, List.set_cons_zero, List.set_cons_succ]
                refine wpAnyH_take (i := 27) (v := ?vB25) (at_op rfl) (by as_aux_lemma => kernel_rfl) (by as_aux_lemma => kernel_rfl) (by as_aux_lemma => kernel_rfl) (fun _ _ _ h => h) (Or.inl ⟨by rfl, ?yB25⟩) (by assumption) ?rB25
                case yB25 =>
                  intro wx hSx
                  go_simp
                  try with_reducible rfl
                try simp only [Act.put, List.setIfInBounds_toArray, List.set_cons_zero, List.set_cons_succ]
                refine wpAnyH_take (i := 28) (v := ?vB26) (at_op rfl) (by as_aux_lemma => kernel_rfl) (by as_aux_lemma => kernel_rfl) (by as_aux_lemma => kernel_rfl) (fun _ _ _ h => h) (Or.inl ⟨by rfl, ?yB26⟩) (by assumption) ?rB26
                case yB26 =>
                  intro wx hSx
                  go_simp
                  try with_reducible rfl
                try simp only [Act.put, List.setIfInBounds_toArray, List.set_cons_zero, List.set_cons_succ]
                refine wpAnyH_take (i := 29) (v := ?vB27) (at_op rfl) (by as_aux_lemma => kernel_rfl) (by as_aux_lemma => kernel_rfl) (by as_aux_lemma => kernel_rfl) (fun _ _ _ h => h) (Or.inl ⟨by rfl, ?yB27⟩) (by assumption) ?rB27
                case yB27 =>
                  intro wx hSx
                  go_simp
                  try with_reducible rfl
                try simp only [Act.put, List.setIfInBounds_toArray, List.set_cons_zero, List.set_cons_succ]
                refine wpAnyH_take (i := 30) (v := ?vB28) (at_op rfl) (by as_aux_lemma => kernel_rfl) (by as_aux_lemma => kernel_rfl) (by as_aux_lemma => kernel_rfl) (fun _ _ _ h => h) (Or.inl ⟨by rfl, ?yB28⟩) (by assumption) ?rB28
                case yB28 =>
                  intro wx hSx
                  go_simp
                  try with_reducible rfl
                try simp only [Act.put, List.setIfInBounds_toArray, List.set_cons_zero, List.set_cons_succ]
                refine wpAnyH_take (i := 31) (v := ?vB29) (at_op rfl) (by as_aux_lemma => kernel_rfl) (by as_aux_lemma => kernel_rfl) (by as_aux_lemma => kernel_rfl) (fun _ _ _ h => h) (Or.inl ⟨by rfl, ?yB29⟩) (by assumption) ?rB29
                case yB29 =>
                  intro wx hSx
                  go_simp
                  try with_reducible rfl
                try simp only [Act.put, List.setIfInBounds_toArray, List.set_cons_zero, List.set_cons_succ]
                refine wpAnyH_take (i := 32) (v := ?vB30) (at_op rfl) (by as_aux_lemma => kernel_rfl) (by as_aux_lemma => kernel_rfl) (by as_aux_lemma => kernel_rfl) (fun _ _ _ h => h) (Or.inl ⟨by rfl, ?yB30⟩) (by assumption) ?rB30
                case yB30 =>
                  intro wx hSx
                  go_simp
                  try with_reducible rfl
                try simp only [Act.put, List.setIfInBounds_toArray, List.set_cons_zero, List.set_cons_succ]
                refine wpAnyH_take (i := 33) (v := ?vB31) (at_op rfl) (by as_aux_lemma => kernel_rfl) (by as_aux_lemma => kernel_rfl) (by as_aux_lemma => kernel_rfl) (fun _ _ _ h => h) (Or.inl ⟨by rfl, ?yB31⟩) (by assumption) ?rB31
                case yB31 =>
                  intro wx hSx
                  go_simp
                  try with_reducible rfl
                try simp only [Act.put, List.setIfInBounds_toArray, List.set_cons_zero, List.set_cons_succ]
                refine wpAnyH_take (i := 34) (v := ?vB32) (at_op rfl) (by as_aux_lemma => kernel_rfl) (by as_aux_lemma => kernel_rfl) (by as_aux_lemma => kernel_rfl) (fun _ _ _ h => h) (Or.inl ⟨by rfl, ?yB32⟩) (by assumption) ?rB32
                case yB32 =>
                  intro wx hSx
                  go_simp
                  try with_reducible rfl
                try simp only [Act.put, List.setIfInBounds_toArray, List.set_cons_zero, List.set_cons_succ]
                refine wpAnyH_take (i := 35) (v := ?vB33) (at_op rfl) (by as_aux_lemma => kernel_rfl) (by as_aux_lemma => kernel_rfl) (by as_aux_lemma => kernel_rfl) (fun _ _ _ h => h) (Or.inl ⟨by rfl, ?yB33⟩) (by assumption) ?rB33
                case yB33 =>
                  intro wx hSx
                  go_simp
                  try with_reducible rfl
                try simp only [Act.put, List.setIfInBounds_toArray, List.set_cons_zero, List.set_cons_succ]
                refine wpAnyH_take (i := 37) (v := ?vB34) (at_op rfl) (by as_aux_lemma => kernel_rfl) (by as_aux_lemma => kernel_rfl) (by as_aux_lemma => kernel_rfl) (fun _ _ _ h => h) (Or.inl ⟨by rfl, ?yB34⟩) (by assumption) ?rB34
                case yB34 =>
                  intro wx hSx
                  go_simp
                  try with_reducible rfl
                try simp only [Act.put, List.setIfInBounds_toArray, List.set_cons_zero, List.set_cons_succ]
                refine wpAnyH_take (i := 38) (v := ?vB35) (at_op rfl) (by as_aux_lemma => kernel_rfl) (by as_aux_lemma => kernel_rfl) (by as_aux_lemma => kernel_rfl) (fun _ _ _ h => h) (Or.inl ⟨by rfl, ?yB35⟩) (by assumption) ?rB35
                case yB35 =>
                  intro wx hSx
                  go_simp
                  try with_reducible rfl
                try simp only [Act.put, List.setIfInBounds_toArray, List.set_cons_zero, List.set_cons_succ]
                refine wpAnyH_ready (rs := [36]) (by as_aux_lemma => kernel_rfl) (by simp) ?_
                refine AllReadyH.cons (at_op rfl) (fun K hK => ?_) AllReadyH.nil
                go_simp
                have q := pushed_impl ys3 x3 _ _ _ _ _ _ w22 ((((((((((((hH10.same (.of_below hb11 (by omega))).same (.of_below hb12 (by omega))).same (.of_below hb13 (by omega))).same (.of_below hb14 (by omega))).same (.of_below hb15 (by omega))).same (.of_below hb16 (by omega))).same (.of_below hb17 (by omega))).same (.of_below hb18 (by omega))).same (.of_below hb19 (by omega))).same (.of_below hb20 (by omega))).same (.of_below hb21 (by omega))).same (.of_below hb22 (by omega))) (by omega) ((((((((((((hr10.same (.of_below hb11 (by omega))).same (.of_below hb12 (by omega))).same (.of_below hb13 (by omega))).same (.of_below hb14 (by omega))).same (.of_below hb15 (by omega))).same (.of_below hb16 (by omega))).same (.of_below hb17 (by omega))).same (.of_below hb18 (by omega))).same (.of_below hb19 (by omega))).same (.of_below hb20 (by omega))).same (.of_below hb21 (by omega))).same (.of_below hb22 (by omega))) (by omega) (by have := HZ3.out.1; omega) (fun x h => by have := (HZ3.out.2 x h).1; omega) (by have := HX3.out.1; omega)
                refine q.mono ?_
                clear q
                rintro e w23 ⟨ug, rfl, hHg, hb23⟩
                have s23 := hb23.size
                have HB23 := HB22.trans (hb23.mono HB22.size)
                clear HB22
                have hk23 := And.intro (keepC hk22.1 hb23) (And.intro (keepC hk22.2.1 hb23) (And.intro (keepC hk22.2.2.1 hb23) (And.intro (keepC hk22.2.2.2.1 hb23) (keepC hk22.2.2.2.2 hb23))))
                clear hk22
                go_wp2_with fail
                refine hK.out _ _ hk23 (fun _ => ?_)
                clear hK K
                try simp only [Act.put, List.setIfInBounds_toArray, List.set_cons_zero, List.set_cons_succ]
                refine wpAnyH_ready (rs := [39]) (by as_aux_lemma => kernel_rfl) (by simp) ?_
                refine AllReadyH.cons (at_op rfl) (fun K hK => ?_) AllReadyH.nil
                go_simp
                have q := pushed_spec ys3 x3 _ _ _ _ _ _ w23 (((((((((((((hH10.same (.of_below hb11 (by omega))).same (.of_below hb12 (by omega))).same (.of_below hb13 (by omega))).same (.of_below hb14 (by omega))).same (.of_below hb15 (by omega))).same (.of_below hb16 (by omega))).same (.of_below hb17 (by omega))).same (.of_below hb18 (by omega))).same (.of_below hb19 (by omega))).same (.of_below hb20 (by omega))).same (.of_below hb21 (by omega))).same (.of_below hb22 (by omega))).same (.of_below hb23 (by omega))) (by omega) (((((((((((((hr10.same (.of_below hb11 (by omega))).same (.of_below hb12 (by omega))).same (.of_below hb13 (by omega))).same (.of_below hb14 (by omega))).same (.of_below hb15 (by omega))).same (.of_below hb16 (by omega))).same (.of_below hb17 (by omega))).same (.of_below hb18 (by omega))).same (.of_below hb19 (by omega))).same (.of_below hb20 (by omega))).same (.of_below hb21 (by omega))).same (.of_below hb22 (by omega))).same (.of_below hb23 (by omega))) (by omega) (by have := HZ3.out.1; omega) (fun x h => by have := (HZ3.out.2 x h).1; omega) (by have := HX3.out.1; omega)
                refine q.mono ?_
                clear q
                rintro e w24 ⟨uh, rfl, hHh, hb24⟩
                have s24 := hb24.size
                have HB24 := HB23.trans (hb24.mono HB23.size)
                clear HB23
                have hk24 := And.intro (keepC hk23.1 hb24) (And.intro (keepC hk23.2.1 hb24) (And.intro (keepC hk23.2.2.1 hb24) (And.intro (keepC hk23.2.2.2.1 hb24) (keepC hk23.2.2.2.2 hb24))))
                clear hk23
                go_wp2_with fail
                refine hK.out _ _ hk24 (fun _ => ?_)
                clear hK K
                try simp only [Act.put, List.setIfInBounds_toArray, List.set_cons_zero, List.set_cons_succ]
                refine wpAnyH_ready (rs := [40]) (by as_aux_lemma => kernel_rfl) (by simp) ?_
                refine AllReadyH.cons (at_op rfl) (fun K hK => ?_) AllReadyH.nil
                go_simp
                have q := sameSt_any _ _ _ _ _ _ _ w24 (hHg.same (.of_below hb24 (by omega))) (by omega) hHh (by omega) (by have := push_len ys3 x3; have := HZ3.out.1; omega)
                refine q.mono ?_
                clear q
                rintro e w25 ⟨rfl, hb25⟩
                have s25 := hb25.size
                have HB25 := HB24.trans (hb25.mono HB24.size)
                clear HB24
                have hk25 := And.intro (keepC hk24.1 hb25) (And.intro (keepC hk24.2.1 hb25) (And.intro (keepC hk24.2.2.1 hb25) (And.intro (keepC hk24.2.2.2.1 hb25) (keepC hk24.2.2.2.2 hb25))))
                clear hk24
                go_wp2_with fail
                refine hK.out _ _ hk25 (fun _ => ?_)
                clear hK K
                try simp only [Act.put, List.setIfInBounds_toArray, List.set_cons_zero, List.set_cons_succ]
                refine wpAnyH_take (i := 41) (v := ?vB36) (at_op rfl) (by as_aux_lemma => kernel_rfl) (by as_aux_lemma => kernel_rfl) (by as_aux_lemma => kernel_rfl) (fun _ _ _ h => h) (Or.inl ⟨by rfl, ?yB36⟩) (by assumption) ?rB36
                case yB36 =>
                  intro wx hSx
                  go_simp
                  try with_reducible rfl
                try simp only [Act.put, List.setIfInBounds_toArray, List.set_cons_zero, List.set_cons_succ]
                refine wpAnyH_take (i := 42) (v := ?vB37) (at_op rfl) (by as_aux_lemma => kernel_rfl) (by as_aux_lemma => kernel_rfl) (by as_aux_lemma => kernel_rfl) (fun _ _ _ h => h) (Or.inl ⟨by rfl, ?yB37⟩) (by assumption) ?rB37
                case yB37 =>
                  intro wx hSx
                  go_simp
                  try with_reducible rfl
                try simp only [Act.put, List.setIfInBounds_toArray, List.set_cons_zero, List.set_cons_succ]
                refine wpAnyH_take (i := 43) (v := ?vB38) (at_op rfl) (by as_aux_lemma => kernel_rfl) (by as_aux_lemma => kernel_rfl) (by as_aux_lemma => kernel_rfl) (fun _ _ _ h => h) (Or.inl ⟨by rfl, ?yB38⟩) (by assumption) ?rB38
                case yB38 =>
                  intro wx hSx
                  go_simp
                  try with_reducible rfl
                try simp only [Act.put, List.setIfInBounds_toArray, List.set_cons_zero, List.set_cons_succ]
                refine wpAnyH_take (i := 44) (v := ?vB39) (at_op rfl) (by as_aux_lemma => kernel_rfl) (by as_aux_lemma => kernel_rfl) (by as_aux_lemma => kernel_rfl) (fun _ _ _ h => h) (Or.inl ⟨by rfl, ?yB39⟩) (by assumption) ?rB39
                case yB39 =>
                  intro wx hSx
                  go_simp
                  try with_reducible rfl
                try simp only [Act.put, List.setIfInBounds_toArray, List.set_cons_zero, List.set_cons_succ]
                refine wpAnyH_take (i := 45) (v := ?vB40) (at_op rfl) (by as_aux_lemma => kernel_rfl) (by as_aux_lemma => kernel_rfl) (by as_aux_lemma => kernel_rfl) (fun _ _ _ h => h) (Or.inl ⟨by rfl, ?yB40⟩) (by assumption) ?rB40
                case yB40 =>
                  intro wx hSx
                  go_simp
                  try with_reducible rfl
                try simp only [Act.put, List.setIfInBounds_toArray, List.set_cons_zero, List.set_cons_succ]
                refine wpAnyH_take (i := 46) (v := ?vB41) (at_op rfl) (by as_aux_lemma => kernel_rfl) (by as_aux_lemma => kernel_rfl) (by as_aux_lemma => kernel_rfl) (fun _ _ _ h => h) (Or.inl ⟨by rfl, ?yB41⟩) (by assumption) ?rB41
                case yB41 =>
                  intro wx hSx
                  go_simp
                  try with_reducible rfl
                try simp only [Act.put, List.setIfInBounds_toArray, List.set_cons_zero, List.set_cons_succ]
                refine wpAnyH_take (i := 47) (v := ?vB42) (at_op rfl) (by as_aux_lemma => kernel_rfl) (by as_aux_lemma => kernel_rfl) (by as_aux_lemma => kernel_rfl) (fun _ _ _ h => h) (Or.inl ⟨by rfl, ?yB42⟩) (by assumption) ?rB42
                case yB42 =>
                  intro wx hSx
                  go_simp
                  try with_reducible rfl
                try simp only [Act.put, List.setIfInBounds_toArray, List.set_cons_zero, List.set_cons_succ]
                refine wpAnyH_take (i := 48) (v := ?vB43) (at_op rfl) (by as_aux_lemma => kernel_rfl) (by as_aux_lemma => kernel_rfl) (by as_aux_lemma => kernel_rfl) (fun _ _ _ h => h) (Or.inl ⟨by rfl, ?yB43⟩) (by assumption) ?rB43
                case yB43 =>
                  intro wx hSx
                  go_simp
                  try with_reducible rfl
                try simp only [Act.put, List.setIfInBounds_toArray, List.set_cons_zero, List.set_cons_succ]
                refine wpAnyH_take (i := 49) (v := ?vB44) (at_op rfl) (by as_aux_lemma => kernel_rfl) (by as_aux_lemma => kernel_rfl) (by as_aux_lemma => kernel_rfl) (fun _ _ _ h => h) (Or.inl ⟨by rfl, ?yB44⟩) (by assumption) ?rB44
                case yB44 =>
                  intro wx hSx
                  go_simp
                  try with_reducible rfl
                try simp only [Act.put, List.setIfInBounds_toArray, List.set_cons_zero, List.set_cons_succ]
                refine wpAnyH_ready (rs := [50]) (by as_aux_lemma => kernel_rfl) (by simp) ?_
                refine AllReadyH.cons (at_op rfl) (fun K hK => ?_) AllReadyH.nil
                go_simp
                have q := sameSt_any _ _ _ _ _ _ _ w25 ((((((((((((hHd.same (.of_below hb14 (by omega))).same (.of_below hb15 (by omega))).same (.of_below hb16 (by omega))).same (.of_below hb17 (by omega))).same (.of_below hb18 (by omega))).same (.of_below hb19 (by omega))).same (.of_below hb20 (by omega))).same (.of_below hb21 (by omega))).same (.of_below hb22 (by omega))).same (.of_below hb23 (by omega))).same (.of_below hb24 (by omega))).same (.of_below hb25 (by omega))) (by omega) ((((((((((hHf.same (.of_below hb16 (by omega))).same (.of_below hb17 (by omega))).same (.of_below hb18 (by omega))).same (.of_below hb19 (by omega))).same (.of_below hb20 (by omega))).same (.of_below hb21 (by omega))).same (.of_below hb22 (by omega))).same (.of_below hb23 (by omega))).same (.of_below hb24 (by omega))).same (.of_below hb25 (by omega))) (by omega) HN4.out
                refine q.mono ?_
                clear q
                rintro e w26 ⟨rfl, hb26⟩
                have s26 := hb26.size
                have HB26 := HB25.trans (hb26.mono HB25.size)
                clear HB25
                have hk26 := And.intro (keepC hk25.1 hb26) (And.intro (keepC hk25.2.1 hb26) (And.intro (keepC hk25.2.2.1 hb26) (And.intro (keepC hk25.2.2.2.1 hb26) (keepC hk25.2.2.2.2 hb26))))
                clear hk25
                go_wp2_with fail
                refine hK.out _ _ hk26 (fun _ => ?_)
                clear hK K
                try simp only [Act.put, List.setIfInBounds_toArray, List.set_cons_zero, List.set_cons_succ]
                refine wpAnyH_take (i := 51) (v := ?vB45) (at_op rfl) (by as_aux_lemma => kernel_rfl) (by as_aux_lemma => kernel_rfl) (by as_aux_lemma => kernel_rfl) (fun _ _ _ h => h) (Or.inl ⟨by rfl, ?yB45⟩) (by assumption) ?rB45
                case yB45 =>
                  intro wx hSx
                  go_simp
                  try with_reducible rfl
                try simp only [Act.put, List.setIfInBounds_toArray, List.set_cons_zero, List.set_cons_succ]
                refine wpAnyH_take (i := 52) (v := ?vB46) (at_op rfl) (by as_aux_lemma => kernel_rfl) (by as_aux_lemma => kernel_rfl) (by as_aux_lemma => kernel_rfl) (fun _ _ _ h => h) (Or.inl ⟨by rfl, ?yB46⟩) (by assumption) ?rB46
                case yB46 =>
                  intro wx hSx
                  go_simp
                  try with_reducible rfl
                try simp only [Act.put, List.setIfInBounds_toArray, List.set_cons_zero, List.set_cons_succ]
                refine wpAnyH_take (i := 53) (v := ?vB47) (at_op rfl) (by as_aux_lemma => kernel_rfl) (by as_aux_lemma => kernel_rfl) (by as_aux_lemma => kernel_rfl) (fun _ _ _ h => h) (Or.inl ⟨by rfl, ?yB47⟩) (by assumption) ?rB47
                case yB47 =>
                  intro wx hSx
                  go_simp
                  try with_reducible rfl
                try simp only [Act.put, List.setIfInBounds_toArray, List.set_cons_zero, List.set_cons_succ]
                refine wpAnyH_take (i := 54) (v := ?vB48) (at_op rfl) (by as_aux_lemma => kernel_rfl) (by as_aux_lemma => kernel_rfl) (by as_aux_lemma => kernel_rfl) (fun _ _ _ h => h) (Or.inl ⟨by rfl, ?yB48⟩) (by assumption) ?rB48
                case yB48 =>
                  intro wx hSx
                  go_simp
                  try with_reducible rfl
                try simp only [Act.put, List.setIfInBounds_toArray, List.set_cons_zero, List.set_cons_succ]
                refine wpAnyH_take (i := 55) (v := ?vB49) (at_op rfl) (by as_aux_lemma => kernel_rfl) (by as_aux_lemma => kernel_rfl) (by as_aux_lemma => kernel_rfl) (fun _ _ _ h => h) (Or.inl ⟨by rfl, ?yB49⟩) (by assumption) ?rB49
                case yB49 =>
                  intro wx hSx
                  go_simp
                  try with_reducible rfl
                try simp only [Act.put, List.setIfInBounds_toArray, List.set_cons_zero, List.set_cons_succ]
                refine wpAnyH_take (i := 56) (v := ?vB50) (at_op rfl) (by as_aux_lemma => kernel_rfl) (by as_aux_lemma => kernel_rfl) (by as_aux_lemma => kernel_rfl) (fun _ _ _ h => h) (Or.inl ⟨by rfl, ?yB50⟩) (by assumption) ?rB50
                case yB50 =>
                  intro wx hSx
                  go_simp
                  try with_reducible rfl
                try simp only [Act.put, List.setIfInBounds_toArray, List.set_cons_zero, List.set_cons_succ]
                refine wpAnyH_take (i := 57) (v := ?vB51) (at_op rfl) (by as_aux_lemma => kernel_rfl) (by as_aux_lemma => kernel_rfl) (by as_aux_lemma => kernel_rfl) (fun _ _ _ h => h) (Or.inl ⟨by rfl, ?yB51⟩) (by assumption) ?rB51
                case yB51 =>
                  intro wx hSx
                  go_simp
                  try with_reducible rfl
                try simp only [Act.put, List.setIfInBounds_toArray, List.set_cons_zero, List.set_cons_succ]
                refine wpAnyH_take (i := 58) (v := ?vB52) (at_op rfl) (by as_aux_lemma => kernel_rfl) (by as_aux_lemma => kernel_rfl) (by as_aux_lemma => kernel_rfl) (fun _ _ _ h => h) (Or.inl ⟨by rfl, ?yB52⟩) (by assumption) ?rB52
                case yB52 =>
                  intro wx hSx
                  go_simp
                  try with_reducible rfl
                try simp only [Act.put, List.setIfInBounds_toArray, List.set_cons_zero, List.set_cons_succ]
                refine wpAnyH_take (i := 59) (v := ?vB53) (at_op rfl) (by as_aux_lemma => kernel_rfl) (by as_aux_lemma => kernel_rfl) (by as_aux_lemma => kernel_rfl) (fun _ _ _ h => h) (Or.inl ⟨by rfl, ?yB53⟩) (by assumption) ?rB53
                case yB53 =>
                  intro wx hSx
                  go_simp
                  try with_reducible rfl
                try simp only [Act.put, List.setIfInBounds_toArray, List.set_cons_zero, List.set_cons_succ]
                refine wpAnyH_take (i := 60) (v := ?vB54) (at_op rfl) (by as_aux_lemma => kernel_rfl) (by as_aux_lemma => kernel_rfl) (by as_aux_lemma => kernel_rfl) (fun _ _ _ h => h) (Or.inl ⟨by rfl, ?yB54⟩) (by assumption) ?rB54
                case yB54 =>
                  intro wx hSx
                  go_simp
                  try with_reducible rfl
                try simp only [Act.put, List.setIfInBounds_toArray, List.set_cons_zero, List.set_cons_succ]
                refine wpAnyH_take (i := 61) (v := ?vB55) (at_op rfl) (by as_aux_lemma => kernel_rfl) (by as_aux_lemma => kernel_rfl) (by as_aux_lemma => kernel_rfl) (fun _ _ _ h => h) (Or.inl ⟨by rfl, ?yB55⟩) (by assumption) ?rB55
                case yB55 =>
                  intro wx hSx
                  go_simp
                  try with_reducible rfl
                try simp only [Act.put, List.setIfInBounds_toArray, List.set_cons_zero, List.set_cons_succ]
                refine wpAnyH_take (i := 62) (v := ?vB56) (at_op rfl) (by as_aux_lemma => kernel_rfl) (by as_aux_lemma => kernel_rfl) (by as_aux_lemma => kernel_rfl) (fun _ _ _ h => h) (Or.inl ⟨by rfl, ?yB56⟩) (by assumption) ?rB56
                case yB56 =>
                  intro wx hSx
                  go_simp
                  try with_reducible rfl
                try simp only [Act.put, List.setIfInBounds_toArray, List.set_cons_zero, List.set_cons_succ]
                refine wpAnyH_take (i := 63) (v := ?vB57) (at_op rfl) (by as_aux_lemma => kernel_rfl) (by as_aux_lemma => kernel_rfl) (by as_aux_lemma => kernel_rfl) (fun _ _ _ h => h) (Or.inl ⟨by rfl, ?yB57⟩) (by assumption) ?rB57
                case yB57 =>
                  intro wx hSx
                  go_simp
                  try with_reducible rfl
                try simp only [Act.put, List.setIfInBounds_toArray, List.set_cons_zero, List.set_cons_succ]
                refine wpAnyH_ready (rs := [64]) (by as_aux_lemma => kernel_rfl) (by simp) ?_
                refine AllReadyH.cons (at_op rfl) (fun K hK => ?_) AllReadyH.nil
                go_simp
                have q := sameIn_any _ _ _ _ _ _ _ w26 (((((((((((((hrd.same (.of_below hb14 (by omega))).same (.of_below hb15 (by omega))).same (.of_below hb16 (by omega))).same (.of_below hb17 (by omega))).same (.of_below hb18 (by omega))).same (.of_below hb19 (by omega))).same (.of_below hb20 (by omega))).same (.of_below hb21 (by omega))).same (.of_below hb22 (by omega))).same (.of_below hb23 (by omega))).same (.of_below hb24 (by omega))).same (.of_below hb25 (by omega))).same (.of_below hb26 (by omega))) (by omega) (((((((((((hrf.same (.of_below hb16 (by omega))).same (.of_below hb17 (by omega))).same (.of_below hb18 (by omega))).same (.of_below hb19 (by omega))).same (.of_below hb20 (by omega))).same (.of_below hb21 (by omega))).same (.of_below hb22 (by omega))).same (.of_below hb23 (by omega))).same (.of_below hb24 (by omega))).same (.of_below hb25 (by omega))).same (.of_below hb26 (by omega))) (by omega)
                refine q.mono ?_
                clear q
                rintro e w27 ⟨rfl, hb27⟩
                have s27 := hb27.size
                have HB27 := HB26.trans (hb27.mono HB26.size)
                clear HB26
                have hk27 := And.intro (keepC hk26.1 hb27) (And.intro (keepC hk26.2.1 hb27) (And.intro (keepC hk26.2.2.1 hb27) (And.intro (keepC hk26.2.2.2.1 hb27) (keepC hk26.2.2.2.2 hb27))))
                clear hk26
                go_wp2_with fail
                refine hK.out _ _ hk27 (fun _ => ?_)
                clear hK K
                try simp only [Act.put, List.setIfInBounds_toArray, List.set_cons_zero, List.set_cons_succ]
                refine wpAnyH_take (i := 65) (v := ?vB58) (at_op rfl) (by as_aux_lemma => kernel_rfl) (by as_aux_lemma => kernel_rfl) (by as_aux_lemma => kernel_rfl) (fun _ _ _ h => h) (Or.inl ⟨by rfl, ?yB58⟩) (by assumption) ?rB58
                case yB58 =>
                  intro wx hSx
                  go_simp
                  try with_reducible rfl
                try simp only [Act.put, List.setIfInBounds_toArray, List.set_cons_zero, List.set_cons_succ]
                refine wpAnyH_take (i := 66) (v := ?vB59) (at_op rfl) (by as_aux_lemma => kernel_rfl) (by as_aux_lemma => kernel_rfl) (by as_aux_lemma => kernel_rfl) (fun _ _ _ h => h) (Or.inl ⟨by rfl, ?yB59⟩) (by assumption) ?rB59
                case yB59 =>
                  intro wx hSx
                  go_simp
                  try with_reducible rfl
                try simp only [Act.put, List.setIfInBounds_toArray, List.set_cons_zero, List.set_cons_succ]
                refine wpAnyH_take (i := 67) (v := ?vB60) (at_op rfl) (by as_aux_lemma => kernel_rfl) (by as_aux_lemma => kernel_rfl) (by as_aux_lemma => kernel_rfl) (fun _ _ _ h => h) (Or.inl ⟨by rfl, ?yB60⟩) (by assumption) ?rB60
                case yB60 =>
                  intro wx hSx
                  go_simp
                  try with_reducible rfl
                try simp only [Act.put, List.setIfInBounds_toArray, List.set_cons_zero, List.set_cons_succ]
                refine wpAnyH_take (i := 68) (v := ?vB61) (at_op rfl) (by as_aux_lemma => kernel_rfl) (by as_aux_lemma => kernel_rfl) (by as_aux_lemma => kernel_rfl) (fun _ _ _ h => h) (Or.inl ⟨by rfl, ?yB61⟩) (by assumption) ?rB61
                case yB61 =>
                  intro wx hSx
                  go_simp
                  try with_reducible rfl
                try simp only [Act.put, List.setIfInBounds_toArray, List.set_cons_zero, List.set_cons_succ]
                refine wpAnyH_take (i := 70) (v := ?vB62) (at_op rfl) (by as_aux_lemma => kernel_rfl) (by as_aux_lemma => kernel_rfl) (by as_aux_lemma => kernel_rfl) (fun _ _ _ h => h) (Or.inl ⟨by rfl, ?yB62⟩) (by assumption) ?rB62
                case yB62 =>
                  intro wx hSx
                  go_simp
                  try with_reducible rfl
                try simp only [Act.put, List.setIfInBounds_toArray, List.set_cons_zero, List.set_cons_succ]
                refine wpAnyH_take (i := 71) (v := ?vB63) (at_op rfl) (by as_aux_lemma => kernel_rfl) (by as_aux_lemma => kernel_rfl) (by as_aux_lemma => kernel_rfl) (fun _ _ _ h => h) (Or.inl ⟨by rfl, ?yB63⟩) (by assumption) ?rB63
                case yB63 =>
                  intro wx hSx
                  go_simp
                  try with_reducible rfl
                try simp only [Act.put, List.setIfInBounds_toArray, List.set_cons_zero, List.set_cons_succ]
                refine wpAnyH_ready (rs := [69]) (by as_aux_lemma => kernel_rfl) (by simp) ?_
                refine AllReadyH.cons (at_op rfl) (fun K hK => ?_) AllReadyH.nil
                go_simp
                have q := less_impl (w := w27) x5 x6 ((((((((((hr17.same (.of_below hb18 (by omega))).same (.of_below hb19 (by omega))).same (.of_below hb20 (by omega))).same (.of_below hb21 (by omega))).same (.of_below hb22 (by omega))).same (.of_below hb23 (by omega))).same (.of_below hb24 (by omega))).same (.of_below hb25 (by omega))).same (.of_below hb26 (by omega))).same (.of_below hb27 (by omega))) (by omega) ((((((((((hr18.same (.of_below hb18 (by omega))).same (.of_below hb19 (by omega))).same (.of_below hb20 (by omega))).same (.of_below hb21 (by omega))).same (.of_below hb22 (by omega))).same (.of_below hb23 (by omega))).same (.of_below hb24 (by omega))).same (.of_below hb25 (by omega))).same (.of_below hb26 (by omega))).same (.of_below hb27 (by omega))) (by omega)
                refine q.mono ?_
                clear q
                rintro e w28 ⟨rfl, hb28⟩
                have s28 := hb28.size
                have HB28 := HB27.trans (hb28.mono HB27.size)
                clear HB27
                have hk28 := And.intro (keepC hk27.1 hb28) (And.intro (keepC hk27.2.1 hb28) (And.intro (keepC hk27.2.2.1 hb28) (And.intro (keepC hk27.2.2.2.1 hb28) (keepC hk27.2.2.2.2 hb28))))
                clear hk27
                go_wp2_with fail
                refine hK.out _ _ hk28 (fun _ => ?_)
                clear hK K
                try simp only [Act.put, List.setIfInBounds_toArray, List.set_cons_zero, List.set_cons_succ]
                refine wpAnyH_ready (rs := [72]) (by as_aux_lemma => kernel_rfl) (by simp) ?_
                refine AllReadyH.cons (at_op rfl) (fun K hK => ?_) AllReadyH.nil
                go_simp
                have q := less_spec (w := w28) x5 x6 (((((((((((hr17.same (.of_below hb18 (by omega))).same (.of_below hb19 (by omega))).same (.of_below hb20 (by omega))).same (.of_below hb21 (by omega))).same (.of_below hb22 (by omega))).same (.of_below hb23 (by omega))).same (.of_below hb24 (by omega))).same (.of_below hb25 (by omega))).same (.of_below hb26 (by omega))).same (.of_below hb27 (by omega))).same (.of_below hb28 (by omega))) (by omega) (((((((((((hr18.same (.of_below hb18 (by omega))).same (.of_below hb19 (by omega))).same (.of_below hb20 (by omega))).same (.of_below hb21 (by omega))).same (.of_below hb22 (by omega))).same (.of_below hb23 (by omega))).same (.of_below hb24 (by omega))).same (.of_below hb25 (by omega))).same (.of_below hb26 (by omega))).same (.of_below hb27 (by omega))).same (.of_below hb28 (by omega))) (by omega)
                refine q.mono ?_
                clear q
                rintro e w29 ⟨rfl, hb29⟩
                have s29 := hb29.size
                have HB29 := HB28.trans (hb29.mono HB28.size)
                clear HB28
                have hk29 := And.intro (keepC hk28.1 hb29) (And.intro (keepC hk28.2.1 hb29) (And.intro (keepC hk28.2.2.1 hb29) (And.intro (keepC hk28.2.2.2.1 hb29) (keepC hk28.2.2.2.2 hb29))))
                clear hk28
                go_wp2_with fail
                refine hK.out _ _ hk29 (fun _ => ?_)
                clear hK K
                try simp only [Act.put, List.setIfInBounds_toArray, List.set_cons_zero, List.set_cons_succ]
                refine wpAnyH_take (i := 73) (v := ?vB64) (at_op rfl) (by as_aux_lemma => kernel_rfl) (by as_aux_lemma => kernel_rfl) (by as_aux_lemma => kernel_rfl) (fun _ _ _ h => h) (Or.inl ⟨by rfl, ?yB64⟩) (by assumption) ?rB64
                case yB64 =>
                  intro wx hSx
                  go_simp
                  try with_reducible rfl
                try simp only [Act.put, List.setIfInBounds_toArray, List.set_cons_zero, List.set_cons_succ]
                refine wpAnyH_take (i := 74) (v := ?vB65) (at_op rfl) (by as_aux_lemma => kernel_rfl) (by as_aux_lemma => kernel_rfl) (by as_aux_lemma => kernel_rfl) (fun _ _ _ h => h) (Or.inl ⟨by rfl, ?yB65⟩) (by assumption) ?rB65
                case yB65 =>
                  intro wx hSx
                  go_simp
                  try with_reducible rfl
                try simp only [Act.put, List.setIfInBounds_toArray, List.set_cons_zero, List.set_cons_succ]
                refine wpAnyH_take (i := 75) (v := ?vB66) (at_op rfl) (by as_aux_lemma => kernel_rfl) (by as_aux_lemma => kernel_rfl) (by as_aux_lemma => kernel_rfl) (fun _ _ _ h => h) (Or.inl ⟨by rfl, ?yB66⟩) (by assumption) ?rB66
                case yB66 =>
                  intro wx hSx
                  go_simp
                  try with_reducible rfl
                try simp only [Act.put, List.setIfInBounds_toArray, List.set_cons_zero, List.set_cons_succ]
                refine wpAnyH_take (i := 76) (v := ?vB67) (at_op rfl) (by as_aux_lemma => kernel_rfl) (by as_aux_lemma => kernel_rfl) (by as_aux_lemma => kernel_rfl) (fun _ _ _ h => h) (Or.inl ⟨by rfl, ?yB67⟩) (by assumption) ?rB67
                case yB67 =>
                  intro wx hSx
                  go_simp
                  try with_reducible rfl
                try simp only [Act.put, List.setIfInBounds_toArray, List.set_cons_zero, List.set_cons_succ]
                refine wpAnyH_take (i := 78) (v := ?vB68) (at_op rfl) (by as_aux_lemma => kernel_rfl) (by as_aux_lemma => kernel_rfl) (by as_aux_lemma => kernel_rfl) (fun _ _ _ h => h) (Or.inl ⟨by rfl, ?yB68⟩) (by assumption) ?rB68
                case yB68 =>
                  intro wx hSx
                  go_simp
                  try with_reducible rfl
                try simp only [Act.put, List.setIfInBounds_toArray, List.set_cons_zero, List.set_cons_succ]
                refine wpAnyH_ready (rs := [77]) (by as_aux_lemma => kernel_rfl) (by simp) ?_
                refine AllReadyH.cons (at_op rfl) (fun K hK => ?_) AllReadyH.nil
                go_simp
                have q := heapOk_impl ys2 _ _ _ w29 (((((((((((((((((((((((((((hH2.same (.of_below hb3 (by omega))).same (.of_below hb4 (by omega))).same (.of_below hb5 (by omega))).same (.of_below hb6 (by omega))).same (.of_below hb7 (by omega))).same (.of_below hb8 (by omega))).same (.of_below hb9 (by omega))).same (.of_below hb10 (by omega))).same (.of_below hb11 (by omega))).same (.of_below hb12 (by omega))).same (.of_below hb13 (by omega))).same (.of_below hb14 (by omega))).same (.of_below hb15 (by omega))).same (.of_below hb16 (by omega))).same (.of_below hb17 (by omega))).same (.of_below hb18 (by omega))).same (.of_below hb19 (by omega))).same (.of_below hb20 (by omega))).same (.of_below hb21 (by omega))).same (.of_below hb22 (by omega))).same (.of_below hb23 (by omega))).same (.of_below hb24 (by omega))).same (.of_below hb25 (by omega))).same (.of_below hb26 (by omega))).same (.of_below hb27 (by omega))).same (.of_below hb28 (by omega))).same (.of_below hb29 (by omega))) (by omega) (by have := HZ2.out.1; omega)
                refine q.mono ?_
                clear q
                rintro e w30 ⟨rfl, hb30⟩
                have s30 := hb30.size
                have HB30 := HB29.trans (hb30.mono HB29.size)
                clear HB29
                have hk30 := And.intro (keepC hk29.1 hb30) (And.intro (keepC hk29.2.1 hb30) (And.intro (keepC hk29.2.2.1 hb30) (And.intro (keepC hk29.2.2.2.1 hb30) (keepC hk29.2.2.2.2 hb30))))
                clear hk29
                go_wp2_with fail
                refine hK.out _ _ hk30 (fun _ => ?_)
                clear hK K
                try simp only [Act.put, List.setIfInBounds_toArray, List.set_cons_zero, List.set_cons_succ]
                refine wpAnyH_ready (rs := [79]) (by as_aux_lemma => kernel_rfl) (by simp) ?_
                refine AllReadyH.cons (at_op rfl) (fun K hK => ?_) AllReadyH.nil
                go_simp
                have q := heapOk_spec ys2 _ _ _ w30 ((((((((((((((((((((((((((((hH2.same (.of_below hb3 (by omega))).same (.of_below hb4 (by omega))).same (.of_below hb5 (by omega))).same (.of_below hb6 (by omega))).same (.of_below hb7 (by omega))).same (.of_below hb8 (by omega))).same (.of_below hb9 (by omega))).same (.of_below hb10 (by omega))).same (.of_below hb11 (by omega))).same (.of_below hb12 (by omega))).same (.of_below hb13 (by omega))).same (.of_below hb14 (by omega))).same (.of_below hb15 (by omega))).same (.of_below hb16 (by omega))).same (.of_below hb17 (by omega))).same (.of_below hb18 (by omega))).same (.of_below hb19 (by omega))).same (.of_below hb20 (by omega))).same (.of_below hb21 (by omega))).same (.of_below hb22 (by omega))).same (.of_below hb23 (by omega))).same (.of_below hb24 (by omega))).same (.of_below hb25 (by omega))).same (.of_below hb26 (by omega))).same (.of_below hb27 (by omega))).same (.of_below hb28 (by omega))).same (.of_below hb29 (by omega))).same (.of_below hb30 (by omega))) (by omega) (by have := HZ2.out.1; omega)
                refine q.mono ?_
                clear q
                rintro e w31 ⟨rfl, hb31⟩
                have s31 := hb31.size
                have HB31 := HB30.trans (hb31.mono HB30.size)
                clear HB30
                have hk31 := And.intro (keepC hk30.1 hb31) (And.intro (keepC hk30.2.1 hb31) (And.intro (keepC hk30.2.2.1 hb31) (And.intro (keepC hk30.2.2.2.1 hb31) (keepC hk30.2.2.2.2 hb31))))
                clear hk30
                go_wp2_with fail
                refine hK.out _ _ hk31 (fun _ => ?_)
                clear hK K
                try simp only [Act.put, List.setIfInBounds_toArray, List.set_cons_zero, List.set_cons_succ]
                refine wpAnyH_take (i := 80) (v := ?vB69) (at_op rfl) (by as_aux_lemma => kernel_rfl) (by as_aux_lemma => kernel_rfl) (by as_aux_lemma => kernel_rfl) (fun _ _ _ h => h) (Or.inl ⟨by rfl, ?yB69⟩) (by assumption) ?rB69
                case yB69 =>
                  intro wx hSx
                  go_simp
                  try with_reducible rfl
                try simp only [Act.put, List.setIfInBounds_toArray, List.set_cons_zero, List.set_cons_succ]
                refine wpAnyH_take (i := 81) (v := ?vB70) (at_op rfl) (by as_aux_lemma => kernel_rfl) (by as_aux_lemma => kernel_rfl) (by as_aux_lemma => kernel_rfl) (fun _ _ _ h => h) (Or.inl ⟨by rfl, ?yB70⟩) (by assumption) ?rB70
                case yB70 =>
                  intro wx hSx
                  go_simp
                  try with_reducible rfl
                try simp only [Act.put, List.setIfInBounds_toArray, List.set_cons_zero, List.set_cons_succ]
                refine wpAnyH_take (i := 82) (v := ?vB71) (at_op rfl) (by as_aux_lemma => kernel_rfl) (by as_aux_lemma => kernel_rfl) (by as_aux_lemma => kernel_rfl) (fun _ _ _ h => h) (Or.inl ⟨by rfl, ?yB71⟩) (by assumption) ?rB71
                case yB71 =>
                  intro wx hSx
                  go_simp
                  try with_reducible rfl
                try simp only [Act.put, List.setIfInBounds_toArray, List.set_cons_zero, List.set_cons_succ]
                refine wpAnyH_done (by as_aux_lemma => kernel_rfl) ?_ _
                go_wp2
                go_ret
                exact ⟨by first | rfl | simp, HB31⟩
end Go.Proofs.Ytjaginciejljkaa
