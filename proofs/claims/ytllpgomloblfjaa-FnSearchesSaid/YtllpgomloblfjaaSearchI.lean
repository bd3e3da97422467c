/- The search of the program, and how many states it takes. -/
import Derived.Test.YtllpgomloblfjaaRendU
import Derived.Test.YtllpgomloblfjaaHuntI
import Derived.Deep.LoopGhost
namespace Go.Proofs.Ytllpgomloblfjaa
open Go.RowKit

def SV.mk3 (a : Option Addr) (n c : Nat) : SV := (a, n, c)
/-- the hunt lies in block H -/
def HBlk (x : Piece) (ra : Option Addr) (rc : Nat) (ca : Option Addr) (cc : Nat) (sa : Option Addr) (sc : Nat) (ta : Option Addr) (tc : Nat) (H : Nat) (wd : Int) (bv hv : Value) (c : CostL) (pops : Int) (w : World) : Prop :=
  w.heap[H]? = some (.cells #[.int .i64 x.indent, .slice ra x.rules.length rc, .slice ca x.chunks.length cc, .slice sa x.spans.length sc, .slice ta x.ties.length tc, .int .i64 wd, bv, .int .i64 c.over, .int .i64 c.sum, hv, .int .i64 pops] 88)
section
variable {x : Piece} {ra ca sa ta : Option Addr} {rc cc sc tc H : Nat} {wd pops : Int} {bv hv : Value} {c : CostL} {w w' : World}
theorem HBlk.eleven (h : HBlk x ra rc ca cc sa sc ta tc H wd bv hv c pops w) : w.cell? ⟨H, 0, none⟩ = some (.int .i64 x.indent) ∧ w.cell? ⟨H, 1, none⟩ = some (.slice ra x.rules.length rc) ∧ w.cell? ⟨H, 2, none⟩ = some (.slice ca x.chunks.length cc) ∧ w.cell? ⟨H, 3, none⟩ = some (.slice sa x.spans.length sc) ∧ w.cell? ⟨H, 4, none⟩ = some (.slice ta x.ties.length tc) ∧ w.cell? ⟨H, 5, none⟩ = some (.int .i64 wd) ∧ w.cell? ⟨H, 6, none⟩ = some bv ∧ w.cell? ⟨H, 7, none⟩ = some (.int .i64 c.over) ∧ w.cell? ⟨H, 8, none⟩ = some (.int .i64 c.sum) ∧ w.cell? ⟨H, 9, none⟩ = some hv ∧ w.cell? ⟨H, 10, none⟩ = some (.int .i64 pops) :=
  ⟨cell_heap h rfl, cell_heap h rfl, cell_heap h rfl, cell_heap h rfl, cell_heap h rfl, cell_heap h rfl, cell_heap h rfl, cell_heap h rfl, cell_heap h rfl, cell_heap h rfl, cell_heap h rfl⟩
theorem HBlk.frz (h : HBlk x ra rc ca cc sa sc ta tc H wd bv hv c pops w) (j : Nat) : w.frozen? ⟨H, j, none⟩ = false := frozen_heap h
theorem HBlk.lt (h : HBlk x ra rc ca cc sa sc ta tc H wd bv hv c pops w) : H < w.heap.size := blk_lt h
theorem HBlk.below (h : HBlk x ra rc ca cc sa sc ta tc H wd bv hv c pops w) (hb : Below w.heap.size w w') : HBlk x ra rc ca cc sa sc ta tc H wd bv hv c pops w' := blk hb h
theorem HBlk.belowN {B : Nat} (h : HBlk x ra rc ca cc sa sc ta tc H wd bv hv c pops w) (hb : Below B w w') (hB : H < B) : HBlk x ra rc ca cc sa sc ta tc H wd bv hv c pops w' := (hb.block H hB).trans h
theorem HBlk.far (h : HBlk x ra rc ca cc sa sc ta tc H wd bv hv c pops w) {g j : Nat} (hg : H ≠ g) (u : Value) : HBlk x ra rc ca cc sa sc ta tc H wd bv hv c pops (w.setCell ⟨g, j, none⟩ u) := heap_set_other hg h
theorem HBlk.setBest (h : HBlk x ra rc ca cc sa sc ta tc H wd bv hv c pops w) (u : Value) : HBlk x ra rc ca cc sa sc ta tc H wd u hv c pops (w.setCell ⟨H, 6, none⟩ u) := heap_set_same h
theorem HBlk.setHeap (h : HBlk x ra rc ca cc sa sc ta tc H wd bv hv c pops w) (u : Value) : HBlk x ra rc ca cc sa sc ta tc H wd bv u c pops (w.setCell ⟨H, 9, none⟩ u) := heap_set_same h
theorem HBlk.setPops (h : HBlk x ra rc ca cc sa sc ta tc H wd bv hv c pops w) (p : Int) : HBlk x ra rc ca cc sa sc ta tc H wd bv hv c p (w.setCell ⟨H, 10, none⟩ (.int .i64 p)) := heap_set_same h
theorem HBlk.setCost (h : HBlk x ra rc ca cc sa sc ta tc H wd bv hv c pops w) (y : CostL) : HBlk x ra rc ca cc sa sc ta tc H wd bv hv y pops ((w.setCell ⟨H, 7, none⟩ (.int .i64 y.over)).setCell ⟨H, 8, none⟩ (.int .i64 y.sum)) := heap_set_same (heap_set_same h)
end
theorem two_cells {w : World} {b : Nat} {v0 v1 : Value} {T : TypeId} (h : w.heap[b]? = some (.cells #[v0, v1] T)) : w.cell? ⟨b, 0, none⟩ = some v0 ∧ w.cell? ⟨b, 1, none⟩ = some v1 := ⟨cell_heap h rfl, cell_heap h rfl⟩
theorem two_set {w : World} {b : Nat} {v0 v1 u0 u1 : Value} {T : TypeId} (h : w.heap[b]? = some (.cells #[v0, v1] T)) : ((w.setCell ⟨b, 0, none⟩ u0).setCell ⟨b, 1, none⟩ u1).heap[b]? = some (.cells #[u0, u1] T) := heap_set_same (heap_set_same h)
theorem better_lt {y c : CostL} {v b : List Int} (h : costLess y c = true) : betterB y c v b = true := by unfold betterB; rw [h]; rfl
theorem better_ne {y c : CostL} {v b : List Int} (h : costLess y c = false) (h2 : y ≠ c) : betterB y c v b = false := by
  unfold betterB
  rw [h]
  by_cases h3 : y.over = c.over
  · by_cases h4 : y.sum = c.sum
    · exact absurd (show y = c by cases y; cases c; simp_all) h2
    · rw [decide_eq_false h4]; simp
  · rw [decide_eq_false h3]; simp
theorem cost_ne {α : Type} {y c : CostL} (h : ¬ y = c) (A B : α) : (if y.over = c.over then if y.sum = c.sum then A else B else B) = B := by
  by_cases h1 : y.over = c.over
  · by_cases h2 : y.sum = c.sum
    · exact absurd (show y = c by cases y; cases c; simp_all) h
    · rw [if_pos h1, if_neg h2]
  · rw [if_neg h1]
theorem better_eq {y : CostL} {v b : List Int} (h : costLess y y = false) : betterB y y v b = decide (cmpL v b < 0) := by
  unfold betterB
  rw [h]; simp
set_option maxHeartbeats 4000000 in
set_option maxRecDepth 100000 in
theorem try_impl (x : Piece) (vals best : List Int) (ra ca sa ta va : Option Addr) (rc cc sc tc vc lo hi lo' hi' lo2 hi2 H : Nat) (wd pops : Int) (bv hv : Value) (c : CostL) (w : World) (hp : PFour x ra rc ca cc sa sc ta tc lo hi w) (hh : hi ≤ w.heap.size) (hv1 : Rd intF.shape lo' hi' w (.slice va vals.length vc) vals) (hh' : hi' ≤ w.heap.size) (hb1 : Rd intF.shape lo2 hi2 w bv best) (hh2 : hi2 ≤ w.heap.size) (hx : Right x) (hvr : RightV x vals) (hfull : vals.length = x.rules.length) (hz : Sized x) (hH : HBlk x ra rc ca cc sa sc ta tc H wd bv hv c pops w) :
    Calls Try.prog 102 #[.pointer (some ⟨H, 0, none⟩), .slice va vals.length vc] w fun e w' => e = .returned (.tuple #[]) ∧ HBlk x ra rc ca cc sa sc ta tc H wd (if betterB (costR x vals wd) c vals best then .slice va vals.length vc else bv) hv (if betterB (costR x vals wd) c vals best then costR x vals wd else c) pops w' ∧ Out H (H + 1) w w' := by
  have HCO := Lib.hid (fun (w2 : World) (h2 : Below w.heap.size w w2) => costOf_impl x vals ra ca sa ta va rc cc sc tc vc lo hi lo' hi' wd w2 (hp.below h2 hh) (Nat.le_trans hh h2.size) (hv1.below h2 hh') (Nat.le_trans hh' h2.size) hx hvr hfull hz)
  unfold Piece.v at HCO
  have HCM := Lib.hid (fun (w2 : World) (h2 : Below w.heap.size w w2) => compare_impl (hv1.below h2 hh') (hb1.below h2 hh2))
  have hHd : HBlk x ra rc ca cc sa sc ta tc H wd bv hv c pops w.drew := hH
  have hsD : H < w.drew.heap.size := hH.lt
  have hbD : Below w.heap.size w w.drew := (Below.refl _ _).drew
  obtain ⟨ba, bc, rfl⟩ := hb1.sl
  obtain ⟨y, hy⟩ : ∃ y, Hid (costR x vals wd = y) := ⟨_, rfl⟩
  rw [hy.out] at HCO
  rw [hy.out]
  obtain ⟨bq, hbq⟩ : ∃ bq, Hid (betterB y c vals best = bq) := ⟨_, rfl⟩
  rw [hbq.out]
  clear hp hv1 hb1 hx hvr hfull hz hH hy
  go_enter Try.func102, Try.ntmps102
  go_wp2_with fail
  refine wp_region_held_drew (S := fun w' => HBlk x ra rc ca cc sa sc ta tc H wd (.slice ba best.length bc) hv c pops w') (by kernel_rfl) ?_ (fun hHeld => ?_)
  · exact hHd
  generalize w.drew = wD at *
  refine wpAnyH_take (i := 0) (v := ?v1) (at_op rfl) (by kernel_rfl) (by kernel_rfl) (by kernel_rfl) (fun _ _ _ h => h) (Or.inl ⟨by rfl, ?y1⟩) (by assumption) ?r1
  case y1 =>
    intro wx hSx
    obtain ⟨p0, p1, p2, p3, p4, p5, p6, p7, p8, p9, p10⟩ := HBlk.eleven hSx
    go_simp
    try with_reducible rfl
  try simp only [Act.put, List.setIfInBounds_toArray, List.set_cons_zero, List.set_cons_succ]
  refine wpAnyH_take (i := 1) (v := ?v2) (at_op rfl) (by kernel_rfl) (by kernel_rfl) (by kernel_rfl) (fun _ _ _ h => h) (Or.inl ⟨by rfl, ?y2⟩) (by assumption) ?r2
  case y2 =>
    intro wx hSx
    obtain ⟨p0, p1, p2, p3, p4, p5, p6, p7, p8, p9, p10⟩ := HBlk.eleven hSx
    go_simp
    try with_reducible rfl
  try simp only [Act.put, List.setIfInBounds_toArray, List.set_cons_zero, List.set_cons_succ]
  refine wpAnyH_take (i := 2) (v := ?v3) (at_op rfl) (by kernel_rfl) (by kernel_rfl) (by kernel_rfl) (fun _ _ _ h => h) (Or.inl ⟨by rfl, ?y3⟩) (by assumption) ?r3
  case y3 =>
    intro wx hSx
    obtain ⟨p0, p1, p2, p3, p4, p5, p6, p7, p8, p9, p10⟩ := HBlk.eleven hSx
    go_simp
    try with_reducible rfl
  try simp only [Act.put, List.setIfInBounds_toArray, List.set_cons_zero, List.set_cons_succ]
  refine wpAnyH_take (i := 3) (v := ?v4) (at_op rfl) (by kernel_rfl) (by kernel_rfl) (by kernel_rfl) (fun _ _ _ h => h) (Or.inl ⟨by rfl, ?y4⟩) (by assumption) ?r4
  case y4 =>
    intro wx hSx
    obtain ⟨p0, p1, p2, p3, p4, p5, p6, p7, p8, p9, p10⟩ := HBlk.eleven hSx
    go_simp
    try with_reducible rfl
  try simp only [Act.put, List.setIfInBounds_toArray, List.set_cons_zero, List.set_cons_succ]
  refine wpAnyH_take (i := 4) (v := ?v5) (at_op rfl) (by kernel_rfl) (by kernel_rfl) (by kernel_rfl) (fun _ _ _ h => h) (Or.inl ⟨by rfl, ?y5⟩) (by assumption) ?r5
  case y5 =>
    intro wx hSx
    obtain ⟨p0, p1, p2, p3, p4, p5, p6, p7, p8, p9, p10⟩ := HBlk.eleven hSx
    go_simp
    try with_reducible rfl
  try simp only [Act.put, List.setIfInBounds_toArray, List.set_cons_zero, List.set_cons_succ]
  refine wpAnyH_take (i := 5) (v := ?v6) (at_op rfl) (by kernel_rfl) (by kernel_rfl) (by kernel_rfl) (fun _ _ _ h => h) (Or.inl ⟨by rfl, ?y6⟩) (by assumption) ?r6
  case y6 =>
    intro wx hSx
    obtain ⟨p0, p1, p2, p3, p4, p5, p6, p7, p8, p9, p10⟩ := HBlk.eleven hSx
    go_simp
    try with_reducible rfl
  try simp only [Act.put, List.setIfInBounds_toArray, List.set_cons_zero, List.set_cons_succ]
  refine wpAnyH_take (i := 6) (v := ?v7) (at_op rfl) (by kernel_rfl) (by kernel_rfl) (by kernel_rfl) (fun _ _ _ h => h) (Or.inl ⟨by rfl, ?y7⟩) (by assumption) ?r7
  case y7 =>
    intro wx hSx
    obtain ⟨p0, p1, p2, p3, p4, p5, p6, p7, p8, p9, p10⟩ := HBlk.eleven hSx
    go_simp
    try with_reducible rfl
  try simp only [Act.put, List.setIfInBounds_toArray, List.set_cons_zero, List.set_cons_succ]
  refine wpAnyH_take (i := 7) (v := ?v8) (at_op rfl) (by kernel_rfl) (by kernel_rfl) (by kernel_rfl) (fun _ _ _ h => h) (Or.inl ⟨by rfl, ?y8⟩) (by assumption) ?r8
  case y8 =>
    intro wx hSx
    obtain ⟨p0, p1, p2, p3, p4, p5, p6, p7, p8, p9, p10⟩ := HBlk.eleven hSx
    go_simp
    try with_reducible rfl
  try simp only [Act.put, List.setIfInBounds_toArray, List.set_cons_zero, List.set_cons_succ]
  refine wpAnyH_take (i := 8) (v := ?v9) (at_op rfl) (by kernel_rfl) (by kernel_rfl) (by kernel_rfl) (fun _ _ _ h => h) (Or.inl ⟨by rfl, ?y9⟩) (by assumption) ?r9
  case y9 =>
    intro wx hSx
    obtain ⟨p0, p1, p2, p3, p4, p5, p6, p7, p8, p9, p10⟩ := HBlk.eleven hSx
    go_simp
    try with_reducible rfl
  try simp only [Act.put, List.setIfInBounds_toArray, List.set_cons_zero, List.set_cons_succ]
  refine wpAnyH_ready (rs := [9, 10]) (by kernel_rfl) (by simp) ?_
  refine AllReadyH.cons (at_op rfl) (fun K hK => ?_) (AllReadyH.cons (at_op rfl) (fun K hK => ?_) AllReadyH.nil)
  · go_simp
    refine (HCO.out wD hbD).mono ?_
    rintro e w1 ⟨rfl, h1⟩
    have hH1 := HBlk.below hHeld h1
    have hb1 := hbD.trans (h1.mono hbD.size)
    go_wp2_with fail
    refine hK.out _ _ hH1 (fun _ => ?_)
    clear hK K
    try simp only [Act.put, List.setIfInBounds_toArray, List.set_cons_zero, List.set_cons_succ]
    refine wpAnyH_ready (rs := [10]) (by kernel_rfl) (by simp) ?_
    refine AllReadyH.cons (at_op rfl) (fun K hK => ?_) AllReadyH.nil
    go_simp
    have hA := heap_alloc_new w1 (.cells #[.int .i64 0, .int .i64 0] 37)
    have hbA : Below w1.heap.size w1 (w1.alloc (.cells #[.int .i64 0, .int .i64 0] 37)) := (Below.refl _ _).alloc (Nat.le_refl _) _
    have hb2 := hb1.trans (hbA.mono hb1.size)
    have hH2 := HBlk.below hH1 hbA
    have hHC : H ≠ w1.heap.size := Nat.ne_of_lt (HBlk.lt hH1)
    have hwC : w.heap.size ≤ w1.heap.size := hb1.size
    refine hK.out _ _ hH2 (fun _ => ?_)
    clear hK K
    try simp only [Act.put, List.setIfInBounds_toArray, List.set_cons_zero, List.set_cons_succ]
    generalize w1.alloc (.cells #[.int .i64 0, .int .i64 0] 37) = w2 at *
    obtain ⟨C, hC⟩ : ∃ C, C = w1.heap.size := ⟨_, rfl⟩
    rw [← hC] at hA hHC hwC ⊢
    clear hC
    obtain ⟨z0, z1⟩ := two_cells hA
    have g0 : w2.frozen? ⟨C, 0, none⟩ = false := frozen_heap hA
    have g1 : w2.frozen? ⟨C, 1, none⟩ = false := frozen_heap hA
    refine wpAnyH_ready (rs := [11]) (by kernel_rfl) (by simp) ?_
    refine AllReadyH.cons (at_op rfl) (fun K hK => ?_) AllReadyH.nil
    go_wp2_with fail
    have hH3 := (hH2.far hHC (j := 0) (.int .i64 y.over)).far hHC (j := 1) (.int .i64 y.sum)
    have hC3 := two_set (u0 := .int .i64 y.over) (u1 := .int .i64 y.sum) hA
    have hb3 : Below w.heap.size w ((w2.setCell ⟨C, 0, none⟩ (.int .i64 y.over)).setCell ⟨C, 1, none⟩ (.int .i64 y.sum)) := (hb2.setCell (p := ⟨C, 0, none⟩) hwC _).setCell (p := ⟨C, 1, none⟩) hwC _
    refine hK.out _ _ hH3 (fun _ => ?_)
    clear hK K
    try simp only [Act.put, List.setIfInBounds_toArray, List.set_cons_zero, List.set_cons_succ]
    refine wpAnyH_done (by kernel_rfl) ?_ _
    clear z0 z1 g0 g1 hA hH2 hb2
    generalize ((w2.setCell ⟨C, 0, none⟩ (.int .i64 y.over)).setCell ⟨C, 1, none⟩ (.int .i64 y.sum)) = w3 at *
    have hs3 := hb3.size
    have hHl3 := HBlk.lt hH3
    go_wp2_with fail
    have HCL := Lib.hid (fun w2 => costLess_impl y c w2)
    cases hcl : costLess y c with
    | true =>
      refine wp_region_held_drew (S := fun w' => HBlk x ra rc ca cc sa sc ta tc H wd (.slice ba best.length bc) hv c pops w' ∧ w'.heap[C]? = some (.cells #[.int .i64 y.over, .int .i64 y.sum] 37)) (by kernel_rfl) ?_ (fun hHeld => ?_)
      · exact ⟨hH3, hC3⟩
      have hb4 : Below w.heap.size w w3.drew := hb3.drew
      generalize w3.drew = w4 at *
      refine wpAnyH_take (i := 0) (v := ?v10) (at_op rfl) (by kernel_rfl) (by kernel_rfl) (by kernel_rfl) (fun _ _ _ h => h) (Or.inl ⟨by rfl, ?y10⟩) (by assumption) ?r10
      case y10 =>
        intro wx hSx
        obtain ⟨p0, p1, p2, p3, p4, p5, p6, p7, p8, p9, p10⟩ := HBlk.eleven hSx.1; obtain ⟨q0, q1⟩ := two_cells hSx.2
        go_simp
        try with_reducible rfl
      try simp only [Act.put, List.setIfInBounds_toArray, List.set_cons_zero, List.set_cons_succ]
      refine wpAnyH_take (i := 1) (v := ?v11) (at_op rfl) (by kernel_rfl) (by kernel_rfl) (by kernel_rfl) (fun _ _ _ h => h) (Or.inl ⟨by rfl, ?y11⟩) (by assumption) ?r11
      case y11 =>
        intro wx hSx
        obtain ⟨p0, p1, p2, p3, p4, p5, p6, p7, p8, p9, p10⟩ := HBlk.eleven hSx.1; obtain ⟨q0, q1⟩ := two_cells hSx.2
        go_simp
        try with_reducible rfl
      try simp only [Act.put, List.setIfInBounds_toArray, List.set_cons_zero, List.set_cons_succ]
      refine wpAnyH_take (i := 2) (v := ?v12) (at_op rfl) (by kernel_rfl) (by kernel_rfl) (by kernel_rfl) (fun _ _ _ h => h) (Or.inl ⟨by rfl, ?y12⟩) (by assumption) ?r12
      case y12 =>
        intro wx hSx
        obtain ⟨p0, p1, p2, p3, p4, p5, p6, p7, p8, p9, p10⟩ := HBlk.eleven hSx.1; obtain ⟨q0, q1⟩ := two_cells hSx.2
        go_simp
        try with_reducible rfl
      try simp only [Act.put, List.setIfInBounds_toArray, List.set_cons_zero, List.set_cons_succ]
      refine wpAnyH_take (i := 3) (v := ?v13) (at_op rfl) (by kernel_rfl) (by kernel_rfl) (by kernel_rfl) (fun _ _ _ h => h) (Or.inl ⟨by rfl, ?y13⟩) (by assumption) ?r13
      case y13 =>
        intro wx hSx
        obtain ⟨p0, p1, p2, p3, p4, p5, p6, p7, p8, p9, p10⟩ := HBlk.eleven hSx.1; obtain ⟨q0, q1⟩ := two_cells hSx.2
        go_simp
        try with_reducible rfl
      try simp only [Act.put, List.setIfInBounds_toArray, List.set_cons_zero, List.set_cons_succ]
      refine wpAnyH_take (i := 4) (v := ?v14) (at_op rfl) (by kernel_rfl) (by kernel_rfl) (by kernel_rfl) (fun _ _ _ h => h) (Or.inl ⟨by rfl, ?y14⟩) (by assumption) ?r14
      case y14 =>
        intro wx hSx
        obtain ⟨p0, p1, p2, p3, p4, p5, p6, p7, p8, p9, p10⟩ := HBlk.eleven hSx.1; obtain ⟨q0, q1⟩ := two_cells hSx.2
        go_simp
        try with_reducible rfl
      try simp only [Act.put, List.setIfInBounds_toArray, List.set_cons_zero, List.set_cons_succ]
      refine wpAnyH_ready (rs := [5]) (by kernel_rfl) (by simp) ?_
      refine AllReadyH.cons (at_op rfl) (fun K hK => ?_) AllReadyH.nil
      go_simp
      have q := HCL.out w4
      rw [hcl] at q
      refine q.mono ?_
      clear q
      rintro e w5 ⟨rfl, h5⟩
      have hH5 := HBlk.below hHeld.1 h5
      have hC5 := blk h5 hHeld.2
      have hb5 := hb4.trans (h5.mono hb4.size)
      go_wp2_with fail
      refine hK.out _ _ ⟨hH5, hC5⟩ (fun _ => ?_)
      clear hK K
      try simp only [Act.put, List.setIfInBounds_toArray, List.set_cons_zero, List.set_cons_succ]
      refine wpAnyH_take (i := 6) (v := ?v15) (at_op rfl) (by kernel_rfl) (by kernel_rfl) (by kernel_rfl) (fun _ _ _ h => h) (Or.inl ⟨by rfl, ?y15⟩) (by assumption) ?r15
      case y15 =>
        intro wx hSx
        obtain ⟨p0, p1, p2, p3, p4, p5, p6, p7, p8, p9, p10⟩ := HBlk.eleven hSx.1; obtain ⟨q0, q1⟩ := two_cells hSx.2
        go_simp
        try with_reducible rfl
      try simp only [Act.put, List.setIfInBounds_toArray, List.set_cons_zero, List.set_cons_succ]
      refine wpAnyH_take (i := 7) (v := undef) (at_op rfl) (by kernel_rfl) (by kernel_rfl) (by kernel_rfl) (fun _ _ _ h => h) (Or.inr ⟨by rfl, rfl⟩) (by assumption) ?_
      try simp only [Act.put, List.setIfInBounds_toArray, List.set_cons_zero, List.set_cons_succ]
      refine wpAnyH_take (i := 8) (v := undef) (at_op rfl) (by kernel_rfl) (by kernel_rfl) (by kernel_rfl) (fun _ _ _ h => h) (Or.inr ⟨by rfl, rfl⟩) (by assumption) ?_
      try simp only [Act.put, List.setIfInBounds_toArray, List.set_cons_zero, List.set_cons_succ]
      refine wpAnyH_take (i := 9) (v := undef) (at_op rfl) (by kernel_rfl) (by kernel_rfl) (by kernel_rfl) (fun _ _ _ h => h) (Or.inr ⟨by rfl, rfl⟩) (by assumption) ?_
      try simp only [Act.put, List.setIfInBounds_toArray, List.set_cons_zero, List.set_cons_succ]
      refine wpAnyH_take (i := 10) (v := undef) (at_op rfl) (by kernel_rfl) (by kernel_rfl) (by kernel_rfl) (fun _ _ _ h => h) (Or.inr ⟨by rfl, rfl⟩) (by assumption) ?_
      try simp only [Act.put, List.setIfInBounds_toArray, List.set_cons_zero, List.set_cons_succ]
      refine wpAnyH_take (i := 11) (v := undef) (at_op rfl) (by kernel_rfl) (by kernel_rfl) (by kernel_rfl) (fun _ _ _ h => h) (Or.inr ⟨by rfl, rfl⟩) (by assumption) ?_
      try simp only [Act.put, List.setIfInBounds_toArray, List.set_cons_zero, List.set_cons_succ]
      refine wpAnyH_take (i := 12) (v := undef) (at_op rfl) (by kernel_rfl) (by kernel_rfl) (by kernel_rfl) (fun _ _ _ h => h) (Or.inr ⟨by rfl, rfl⟩) (by assumption) ?_
      try simp only [Act.put, List.setIfInBounds_toArray, List.set_cons_zero, List.set_cons_succ]
      refine wpAnyH_take (i := 13) (v := undef) (at_op rfl) (by kernel_rfl) (by kernel_rfl) (by kernel_rfl) (fun _ _ _ h => h) (Or.inr ⟨by rfl, rfl⟩) (by assumption) ?_
      try simp only [Act.put, List.setIfInBounds_toArray, List.set_cons_zero, List.set_cons_succ]
      refine wpAnyH_take (i := 14) (v := undef) (at_op rfl) (by kernel_rfl) (by kernel_rfl) (by kernel_rfl) (fun _ _ _ h => h) (Or.inr ⟨by rfl, rfl⟩) (by assumption) ?_
      try simp only [Act.put, List.setIfInBounds_toArray, List.set_cons_zero, List.set_cons_succ]
      refine wpAnyH_take (i := 15) (v := undef) (at_op rfl) (by kernel_rfl) (by kernel_rfl) (by kernel_rfl) (fun _ _ _ h => h) (Or.inr ⟨by rfl, rfl⟩) (by assumption) ?_
      try simp only [Act.put, List.setIfInBounds_toArray, List.set_cons_zero, List.set_cons_succ]
      refine wpAnyH_take (i := 16) (v := undef) (at_op rfl) (by kernel_rfl) (by kernel_rfl) (by kernel_rfl) (fun _ _ _ h => h) (Or.inr ⟨by rfl, rfl⟩) (by assumption) ?_
      try simp only [Act.put, List.setIfInBounds_toArray, List.set_cons_zero, List.set_cons_succ]
      refine wpAnyH_take (i := 17) (v := undef) (at_op rfl) (by kernel_rfl) (by kernel_rfl) (by kernel_rfl) (fun _ _ _ h => h) (Or.inr ⟨by rfl, rfl⟩) (by assumption) ?_
      try simp only [Act.put, List.setIfInBounds_toArray, List.set_cons_zero, List.set_cons_succ]
      refine wpAnyH_take (i := 18) (v := undef) (at_op rfl) (by kernel_rfl) (by kernel_rfl) (by kernel_rfl) (fun _ _ _ h => h) (Or.inr ⟨by rfl, rfl⟩) (by assumption) ?_
      try simp only [Act.put, List.setIfInBounds_toArray, List.set_cons_zero, List.set_cons_succ]
      refine wpAnyH_take (i := 19) (v := undef) (at_op rfl) (by kernel_rfl) (by kernel_rfl) (by kernel_rfl) (fun _ _ _ h => h) (Or.inr ⟨by rfl, rfl⟩) (by assumption) ?_
      try simp only [Act.put, List.setIfInBounds_toArray, List.set_cons_zero, List.set_cons_succ]
      refine wpAnyH_take (i := 20) (v := undef) (at_op rfl) (by kernel_rfl) (by kernel_rfl) (by kernel_rfl) (fun _ _ _ h => h) (Or.inr ⟨by rfl, rfl⟩) (by assumption) ?_
      try simp only [Act.put, List.setIfInBounds_toArray, List.set_cons_zero, List.set_cons_succ]
      refine wpAnyH_take (i := 21) (v := undef) (at_op rfl) (by kernel_rfl) (by kernel_rfl) (by kernel_rfl) (fun _ _ _ h => h) (Or.inr ⟨by rfl, rfl⟩) (by assumption) ?_
      try simp only [Act.put, List.setIfInBounds_toArray, List.set_cons_zero, List.set_cons_succ]
      refine wpAnyH_take (i := 22) (v := ?v16) (at_op rfl) (by kernel_rfl) (by kernel_rfl) (by kernel_rfl) (fun _ _ _ h => h) (Or.inl ⟨by rfl, ?y16⟩) (by assumption) ?r16
      case y16 =>
        intro wx hSx
        obtain ⟨p0, p1, p2, p3, p4, p5, p6, p7, p8, p9, p10⟩ := HBlk.eleven hSx.1; obtain ⟨q0, q1⟩ := two_cells hSx.2
        go_simp
        try with_reducible rfl
      try simp only [Act.put, List.setIfInBounds_toArray, List.set_cons_zero, List.set_cons_succ]
      refine wpAnyH_done (by kernel_rfl) ?_ _
      have hbt : bq = true := hbq.out.symm.trans (better_lt hcl)
      subst hbt
      clear hbq
      obtain ⟨p0, p1, p2, p3, p4, p5, p6, p7, p8, p9, p10⟩ := HBlk.eleven hH5
      obtain ⟨q0, q1⟩ := two_cells hC5
      have f6 := HBlk.frz hH5 6
      have f7 := HBlk.frz hH5 7
      have f8 := HBlk.frz hH5 8
      have hl5 := HBlk.lt hH5
      go_wp2_with fail
      go_region
      all_goals
        go_wp2
        go_end0
        exact ⟨rfl, (hH5.setBest _).setCost _, ((((Out.of_below hb5).setCell (p := ⟨H, 6, none⟩) (Nat.le_refl _) (Nat.lt_succ_self _) _).setCell (p := ⟨H, 7, none⟩) (Nat.le_refl _) (Nat.lt_succ_self _) _).setCell (p := ⟨H, 8, none⟩) (Nat.le_refl _) (Nat.lt_succ_self _) _).drew⟩
    | false =>
      by_cases hyc : y = c
      · subst y
        refine wp_region_held_drew (S := fun w' => HBlk x ra rc ca cc sa sc ta tc H wd (.slice ba best.length bc) hv c pops w' ∧ w'.heap[C]? = some (.cells #[.int .i64 c.over, .int .i64 c.sum] 37)) (by kernel_rfl) ?_ (fun hHeld => ?_)
        · exact ⟨hH3, hC3⟩
        have hb4 : Below w.heap.size w w3.drew := hb3.drew
        generalize w3.drew = w4 at *
        refine wpAnyH_take (i := 0) (v := ?v17) (at_op rfl) (by kernel_rfl) (by kernel_rfl) (by kernel_rfl) (fun _ _ _ h => h) (Or.inl ⟨by rfl, ?y17⟩) (by assumption) ?r17
        case y17 =>
          intro wx hSx
          obtain ⟨p0, p1, p2, p3, p4, p5, p6, p7, p8, p9, p10⟩ := HBlk.eleven hSx.1; obtain ⟨q0, q1⟩ := two_cells hSx.2
          go_simp
          try with_reducible rfl
        try simp only [Act.put, List.setIfInBounds_toArray, List.set_cons_zero, List.set_cons_succ]
        refine wpAnyH_take (i := 1) (v := ?v18) (at_op rfl) (by kernel_rfl) (by kernel_rfl) (by kernel_rfl) (fun _ _ _ h => h) (Or.inl ⟨by rfl, ?y18⟩) (by assumption) ?r18
        case y18 =>
          intro wx hSx
          obtain ⟨p0, p1, p2, p3, p4, p5, p6, p7, p8, p9, p10⟩ := HBlk.eleven hSx.1; obtain ⟨q0, q1⟩ := two_cells hSx.2
          go_simp
          try with_reducible rfl
        try simp only [Act.put, List.setIfInBounds_toArray, List.set_cons_zero, List.set_cons_succ]
        refine wpAnyH_take (i := 2) (v := ?v19) (at_op rfl) (by kernel_rfl) (by kernel_rfl) (by kernel_rfl) (fun _ _ _ h => h) (Or.inl ⟨by rfl, ?y19⟩) (by assumption) ?r19
        case y19 =>
          intro wx hSx
          obtain ⟨p0, p1, p2, p3, p4, p5, p6, p7, p8, p9, p10⟩ := HBlk.eleven hSx.1; obtain ⟨q0, q1⟩ := two_cells hSx.2
          go_simp
          try with_reducible rfl
        try simp only [Act.put, List.setIfInBounds_toArray, List.set_cons_zero, List.set_cons_succ]
        refine wpAnyH_take (i := 3) (v := ?v20) (at_op rfl) (by kernel_rfl) (by kernel_rfl) (by kernel_rfl) (fun _ _ _ h => h) (Or.inl ⟨by rfl, ?y20⟩) (by assumption) ?r20
        case y20 =>
          intro wx hSx
          obtain ⟨p0, p1, p2, p3, p4, p5, p6, p7, p8, p9, p10⟩ := HBlk.eleven hSx.1; obtain ⟨q0, q1⟩ := two_cells hSx.2
          go_simp
          try with_reducible rfl
        try simp only [Act.put, List.setIfInBounds_toArray, List.set_cons_zero, List.set_cons_succ]
        refine wpAnyH_take (i := 4) (v := ?v21) (at_op rfl) (by kernel_rfl) (by kernel_rfl) (by kernel_rfl) (fun _ _ _ h => h) (Or.inl ⟨by rfl, ?y21⟩) (by assumption) ?r21
        case y21 =>
          intro wx hSx
          obtain ⟨p0, p1, p2, p3, p4, p5, p6, p7, p8, p9, p10⟩ := HBlk.eleven hSx.1; obtain ⟨q0, q1⟩ := two_cells hSx.2
          go_simp
          try with_reducible rfl
        try simp only [Act.put, List.setIfInBounds_toArray, List.set_cons_zero, List.set_cons_succ]
        refine wpAnyH_ready (rs := [5]) (by kernel_rfl) (by simp) ?_
        refine AllReadyH.cons (at_op rfl) (fun K hK => ?_) AllReadyH.nil
        go_simp
        have q := HCL.out w4
        rw [hcl] at q
        refine q.mono ?_
        clear q
        rintro e w5 ⟨rfl, h5⟩
        have hH5 := HBlk.below hHeld.1 h5
        have hC5 := blk h5 hHeld.2
        have hb5 := hb4.trans (h5.mono hb4.size)
        go_wp2_with fail
        refine hK.out _ _ ⟨hH5, hC5⟩ (fun _ => ?_)
        clear hK K
        try simp only [Act.put, List.setIfInBounds_toArray, List.set_cons_zero, List.set_cons_succ]
        refine wpAnyH_take (i := 6) (v := ?v22) (at_op rfl) (by kernel_rfl) (by kernel_rfl) (by kernel_rfl) (fun _ _ _ h => h) (Or.inl ⟨by rfl, ?y22⟩) (by assumption) ?r22
        case y22 =>
          intro wx hSx
          obtain ⟨p0, p1, p2, p3, p4, p5, p6, p7, p8, p9, p10⟩ := HBlk.eleven hSx.1; obtain ⟨q0, q1⟩ := two_cells hSx.2
          go_simp
          try with_reducible rfl
        try simp only [Act.put, List.setIfInBounds_toArray, List.set_cons_zero, List.set_cons_succ]
        refine wpAnyH_take (i := 7) (v := ?v23) (at_op rfl) (by kernel_rfl) (by kernel_rfl) (by kernel_rfl) (fun _ _ _ h => h) (Or.inl ⟨by rfl, ?y23⟩) (by assumption) ?r23
        case y23 =>
          intro wx hSx
          obtain ⟨p0, p1, p2, p3, p4, p5, p6, p7, p8, p9, p10⟩ := HBlk.eleven hSx.1; obtain ⟨q0, q1⟩ := two_cells hSx.2
          go_simp
          try with_reducible rfl
        try simp only [Act.put, List.setIfInBounds_toArray, List.set_cons_zero, List.set_cons_succ]
        refine wpAnyH_take (i := 8) (v := ?v24) (at_op rfl) (by kernel_rfl) (by kernel_rfl) (by kernel_rfl) (fun _ _ _ h => h) (Or.inl ⟨by rfl, ?y24⟩) (by assumption) ?r24
        case y24 =>
          intro wx hSx
          obtain ⟨p0, p1, p2, p3, p4, p5, p6, p7, p8, p9, p10⟩ := HBlk.eleven hSx.1; obtain ⟨q0, q1⟩ := two_cells hSx.2
          go_simp
          try with_reducible rfl
        try simp only [Act.put, List.setIfInBounds_toArray, List.set_cons_zero, List.set_cons_succ]
        refine wpAnyH_take (i := 9) (v := ?v25) (at_op rfl) (by kernel_rfl) (by kernel_rfl) (by kernel_rfl) (fun _ _ _ h => h) (Or.inl ⟨by rfl, ?y25⟩) (by assumption) ?r25
        case y25 =>
          intro wx hSx
          obtain ⟨p0, p1, p2, p3, p4, p5, p6, p7, p8, p9, p10⟩ := HBlk.eleven hSx.1; obtain ⟨q0, q1⟩ := two_cells hSx.2
          go_simp
          try with_reducible rfl
        try simp only [Act.put, List.setIfInBounds_toArray, List.set_cons_zero, List.set_cons_succ]
        refine wpAnyH_take (i := 10) (v := ?v26) (at_op rfl) (by kernel_rfl) (by kernel_rfl) (by kernel_rfl) (fun _ _ _ h => h) (Or.inl ⟨by rfl, ?y26⟩) (by assumption) ?r26
        case y26 =>
          intro wx hSx
          obtain ⟨p0, p1, p2, p3, p4, p5, p6, p7, p8, p9, p10⟩ := HBlk.eleven hSx.1; obtain ⟨q0, q1⟩ := two_cells hSx.2
          go_simp
          try with_reducible rfl
        try simp only [Act.put, List.setIfInBounds_toArray, List.set_cons_zero, List.set_cons_succ]
        refine wpAnyH_take (i := 11) (v := ?v27) (at_op rfl) (by kernel_rfl) (by kernel_rfl) (by kernel_rfl) (fun _ _ _ h => h) (Or.inl ⟨by rfl, ?y27⟩) (by assumption) ?r27
        case y27 =>
          intro wx hSx
          obtain ⟨p0, p1, p2, p3, p4, p5, p6, p7, p8, p9, p10⟩ := HBlk.eleven hSx.1; obtain ⟨q0, q1⟩ := two_cells hSx.2
          go_simp
          try with_reducible rfl
        try simp only [Act.put, List.setIfInBounds_toArray, List.set_cons_zero, List.set_cons_succ]
        refine wpAnyH_take (i := 12) (v := ?v28) (at_op rfl) (by kernel_rfl) (by kernel_rfl) (by kernel_rfl) (fun _ _ _ h => h) (Or.inl ⟨by rfl, ?y28⟩) (by assumption) ?r28
        case y28 =>
          intro wx hSx
          obtain ⟨p0, p1, p2, p3, p4, p5, p6, p7, p8, p9, p10⟩ := HBlk.eleven hSx.1; obtain ⟨q0, q1⟩ := two_cells hSx.2
          go_simp
          try with_reducible rfl
        try simp only [Act.put, List.setIfInBounds_toArray, List.set_cons_zero, List.set_cons_succ]
        refine wpAnyH_take (i := 13) (v := ?v29) (at_op rfl) (by kernel_rfl) (by kernel_rfl) (by kernel_rfl) (fun _ _ _ h => h) (Or.inl ⟨by rfl, ?y29⟩) (by assumption) ?r29
        case y29 =>
          intro wx hSx
          obtain ⟨p0, p1, p2, p3, p4, p5, p6, p7, p8, p9, p10⟩ := HBlk.eleven hSx.1; obtain ⟨q0, q1⟩ := two_cells hSx.2
          go_simp
          try with_reducible rfl
        try simp only [Act.put, List.setIfInBounds_toArray, List.set_cons_zero, List.set_cons_succ]
        refine wpAnyH_take (i := 14) (v := ?v30) (at_op rfl) (by kernel_rfl) (by kernel_rfl) (by kernel_rfl) (fun _ _ _ h => h) (Or.inl ⟨by rfl, ?y30⟩) (by assumption) ?r30
        case y30 =>
          intro wx hSx
          obtain ⟨p0, p1, p2, p3, p4, p5, p6, p7, p8, p9, p10⟩ := HBlk.eleven hSx.1; obtain ⟨q0, q1⟩ := two_cells hSx.2
          go_simp
          try with_reducible rfl
        try simp only [Act.put, List.setIfInBounds_toArray, List.set_cons_zero, List.set_cons_succ]
        refine wpAnyH_take (i := 15) (v := ?v31) (at_op rfl) (by kernel_rfl) (by kernel_rfl) (by kernel_rfl) (fun _ _ _ h => h) (Or.inl ⟨by rfl, ?y31⟩) (by assumption) ?r31
        case y31 =>
          intro wx hSx
          obtain ⟨p0, p1, p2, p3, p4, p5, p6, p7, p8, p9, p10⟩ := HBlk.eleven hSx.1; obtain ⟨q0, q1⟩ := two_cells hSx.2
          go_simp
          try with_reducible rfl
        try simp only [Act.put, List.setIfInBounds_toArray, List.set_cons_zero, List.set_cons_succ]
        refine wpAnyH_take (i := 16) (v := ?v32) (at_op rfl) (by kernel_rfl) (by kernel_rfl) (by kernel_rfl) (fun _ _ _ h => h) (Or.inl ⟨by rfl, ?y32⟩) (by assumption) ?r32
        case y32 =>
          intro wx hSx
          obtain ⟨p0, p1, p2, p3, p4, p5, p6, p7, p8, p9, p10⟩ := HBlk.eleven hSx.1; obtain ⟨q0, q1⟩ := two_cells hSx.2
          go_simp
          try with_reducible rfl
        try simp only [Act.put, List.setIfInBounds_toArray, List.set_cons_zero, List.set_cons_succ]
        refine wpAnyH_take (i := 17) (v := ?v33) (at_op rfl) (by kernel_rfl) (by kernel_rfl) (by kernel_rfl) (fun _ _ _ h => h) (Or.inl ⟨by rfl, ?y33⟩) (by assumption) ?r33
        case y33 =>
          intro wx hSx
          obtain ⟨p0, p1, p2, p3, p4, p5, p6, p7, p8, p9, p10⟩ := HBlk.eleven hSx.1; obtain ⟨q0, q1⟩ := two_cells hSx.2
          go_simp
          try with_reducible rfl
        try simp only [Act.put, List.setIfInBounds_toArray, List.set_cons_zero, List.set_cons_succ]
        refine wpAnyH_take (i := 18) (v := ?v34) (at_op rfl) (by kernel_rfl) (by kernel_rfl) (by kernel_rfl) (fun _ _ _ h => h) (Or.inl ⟨by rfl, ?y34⟩) (by assumption) ?r34
        case y34 =>
          intro wx hSx
          obtain ⟨p0, p1, p2, p3, p4, p5, p6, p7, p8, p9, p10⟩ := HBlk.eleven hSx.1; obtain ⟨q0, q1⟩ := two_cells hSx.2
          go_simp
          try with_reducible rfl
        try simp only [Act.put, List.setIfInBounds_toArray, List.set_cons_zero, List.set_cons_succ]
        refine wpAnyH_ready (rs := [19]) (by kernel_rfl) (by simp) ?_
        refine AllReadyH.cons (at_op rfl) (fun K hK => ?_) AllReadyH.nil
        go_simp
        refine (HCM.out w5 hb5).mono ?_
        rintro e w' ⟨rfl, rfl⟩
        go_wp2_with fail
        refine hK.out _ _ ⟨hH5, hC5⟩ (fun _ => ?_)
        clear hK K
        try simp only [Act.put, List.setIfInBounds_toArray, List.set_cons_zero, List.set_cons_succ]
        refine wpAnyH_take (i := 20) (v := ?v35) (at_op rfl) (by kernel_rfl) (by kernel_rfl) (by kernel_rfl) (fun _ _ _ h => h) (Or.inl ⟨by rfl, ?y35⟩) (by assumption) ?r35
        case y35 =>
          intro wx hSx
          obtain ⟨p0, p1, p2, p3, p4, p5, p6, p7, p8, p9, p10⟩ := HBlk.eleven hSx.1; obtain ⟨q0, q1⟩ := two_cells hSx.2
          go_simp
          try with_reducible rfl
        try simp only [Act.put, List.setIfInBounds_toArray, List.set_cons_zero, List.set_cons_succ]
        refine wpAnyH_take (i := 21) (v := ?v36) (at_op rfl) (by kernel_rfl) (by kernel_rfl) (by kernel_rfl) (fun _ _ _ h => h) (Or.inl ⟨by rfl, ?y36⟩) (by assumption) ?r36
        case y36 =>
          intro wx hSx
          obtain ⟨p0, p1, p2, p3, p4, p5, p6, p7, p8, p9, p10⟩ := HBlk.eleven hSx.1; obtain ⟨q0, q1⟩ := two_cells hSx.2
          go_simp
          try with_reducible rfl
        try simp only [Act.put, List.setIfInBounds_toArray, List.set_cons_zero, List.set_cons_succ]
        refine wpAnyH_take (i := 22) (v := ?v37) (at_op rfl) (by kernel_rfl) (by kernel_rfl) (by kernel_rfl) (fun _ _ _ h => h) (Or.inl ⟨by rfl, ?y37⟩) (by assumption) ?r37
        case y37 =>
          intro wx hSx
          obtain ⟨p0, p1, p2, p3, p4, p5, p6, p7, p8, p9, p10⟩ := HBlk.eleven hSx.1; obtain ⟨q0, q1⟩ := two_cells hSx.2
          go_simp
          try with_reducible rfl
        try simp only [Act.put, List.setIfInBounds_toArray, List.set_cons_zero, List.set_cons_succ]
        refine wpAnyH_done (by kernel_rfl) ?_ _
        have hbt : bq = decide (cmpL vals best < 0) := hbq.out.symm.trans (better_eq hcl)
        by_cases hcm : cmpL vals best < 0
        · rw [decide_eq_true hcm] at hbt
          subst hbt
          clear hbq
          obtain ⟨p0, p1, p2, p3, p4, p5, p6, p7, p8, p9, p10⟩ := HBlk.eleven hH5
          obtain ⟨q0, q1⟩ := two_cells hC5
          have f6 := HBlk.frz hH5 6
          have f7 := HBlk.frz hH5 7
          have f8 := HBlk.frz hH5 8
          have hl5 := HBlk.lt hH5
          go_wp2_with fail
          go_region
          all_goals
            go_wp2
            go_end0
            exact ⟨rfl, (hH5.setBest _).setCost _, ((((Out.of_below hb5).setCell (p := ⟨H, 6, none⟩) (Nat.le_refl _) (Nat.lt_succ_self _) _).setCell (p := ⟨H, 7, none⟩) (Nat.le_refl _) (Nat.lt_succ_self _) _).setCell (p := ⟨H, 8, none⟩) (Nat.le_refl _) (Nat.lt_succ_self _) _).drew⟩
        · rw [decide_eq_false hcm] at hbt
          subst hbt
          clear hbq
          go_wp2
          go_end0
          exact ⟨rfl, hH5, Out.of_below hb5⟩
      · have hyn := better_ne (v := vals) (b := best) hcl hyc
        have hyif : Hid (∀ (α : Type) (A B : α), (if y.over = c.over then if y.sum = c.sum then A else B else B) = B) := fun α A B => cost_ne hyc A B
        clear hyc
        refine wp_region_held_drew (S := fun w' => HBlk x ra rc ca cc sa sc ta tc H wd (.slice ba best.length bc) hv c pops w' ∧ w'.heap[C]? = some (.cells #[.int .i64 y.over, .int .i64 y.sum] 37)) (by kernel_rfl) ?_ (fun hHeld => ?_)
        · exact ⟨hH3, hC3⟩
        have hb4 : Below w.heap.size w w3.drew := hb3.drew
        generalize w3.drew = w4 at *
        refine wpAnyH_take (i := 0) (v := ?v38) (at_op rfl) (by kernel_rfl) (by kernel_rfl) (by kernel_rfl) (fun _ _ _ h => h) (Or.inl ⟨by rfl, ?y38⟩) (by assumption) ?r38
        case y38 =>
          intro wx hSx
          obtain ⟨p0, p1, p2, p3, p4, p5, p6, p7, p8, p9, p10⟩ := HBlk.eleven hSx.1; obtain ⟨q0, q1⟩ := two_cells hSx.2
          go_simp
          try with_reducible rfl
        try simp only [Act.put, List.setIfInBounds_toArray, List.set_cons_zero, List.set_cons_succ]
        refine wpAnyH_take (i := 1) (v := ?v39) (at_op rfl) (by kernel_rfl) (by kernel_rfl) (by kernel_rfl) (fun _ _ _ h => h) (Or.inl ⟨by rfl, ?y39⟩) (by assumption) ?r39
        case y39 =>
          intro wx hSx
          obtain ⟨p0, p1, p2, p3, p4, p5, p6, p7, p8, p9, p10⟩ := HBlk.eleven hSx.1; obtain ⟨q0, q1⟩ := two_cells hSx.2
          go_simp
          try with_reducible rfl
        try simp only [Act.put, List.setIfInBounds_toArray, List.set_cons_zero, List.set_cons_succ]
        refine wpAnyH_take (i := 2) (v := ?v40) (at_op rfl) (by kernel_rfl) (by kernel_rfl) (by kernel_rfl) (fun _ _ _ h => h) (Or.inl ⟨by rfl, ?y40⟩) (by assumption) ?r40
        case y40 =>
          intro wx hSx
          obtain ⟨p0, p1, p2, p3, p4, p5, p6, p7, p8, p9, p10⟩ := HBlk.eleven hSx.1; obtain ⟨q0, q1⟩ := two_cells hSx.2
          go_simp
          try with_reducible rfl
        try simp only [Act.put, List.setIfInBounds_toArray, List.set_cons_zero, List.set_cons_succ]
        refine wpAnyH_take (i := 3) (v := ?v41) (at_op rfl) (by kernel_rfl) (by kernel_rfl) (by kernel_rfl) (fun _ _ _ h => h) (Or.inl ⟨by rfl, ?y41⟩) (by assumption) ?r41
        case y41 =>
          intro wx hSx
          obtain ⟨p0, p1, p2, p3, p4, p5, p6, p7, p8, p9, p10⟩ := HBlk.eleven hSx.1; obtain ⟨q0, q1⟩ := two_cells hSx.2
          go_simp
          try with_reducible rfl
        try simp only [Act.put, List.setIfInBounds_toArray, List.set_cons_zero, List.set_cons_succ]
        refine wpAnyH_take (i := 4) (v := ?v42) (at_op rfl) (by kernel_rfl) (by kernel_rfl) (by kernel_rfl) (fun _ _ _ h => h) (Or.inl ⟨by rfl, ?y42⟩) (by assumption) ?r42
        case y42 =>
          intro wx hSx
          obtain ⟨p0, p1, p2, p3, p4, p5, p6, p7, p8, p9, p10⟩ := HBlk.eleven hSx.1; obtain ⟨q0, q1⟩ := two_cells hSx.2
          go_simp
          try with_reducible rfl
        try simp only [Act.put, List.setIfInBounds_toArray, List.set_cons_zero, List.set_cons_succ]
        refine wpAnyH_ready (rs := [5]) (by kernel_rfl) (by simp) ?_
        refine AllReadyH.cons (at_op rfl) (fun K hK => ?_) AllReadyH.nil
        go_simp
        have q := HCL.out w4
        rw [hcl] at q
        refine q.mono ?_
        clear q
        rintro e w5 ⟨rfl, h5⟩
        have hH5 := HBlk.below hHeld.1 h5
        have hC5 := blk h5 hHeld.2
        have hb5 := hb4.trans (h5.mono hb4.size)
        go_wp2_with fail
        refine hK.out _ _ ⟨hH5, hC5⟩ (fun _ => ?_)
        clear hK K
        try simp only [Act.put, List.setIfInBounds_toArray, List.set_cons_zero, List.set_cons_succ]
        refine wpAnyH_take (i := 6) (v := ?v43) (at_op rfl) (by kernel_rfl) (by kernel_rfl) (by kernel_rfl) (fun _ _ _ h => h) (Or.inl ⟨by rfl, ?y43⟩) (by assumption) ?r43
        case y43 =>
          intro wx hSx
          obtain ⟨p0, p1, p2, p3, p4, p5, p6, p7, p8, p9, p10⟩ := HBlk.eleven hSx.1; obtain ⟨q0, q1⟩ := two_cells hSx.2
          go_simp
          try with_reducible rfl
        try simp only [Act.put, List.setIfInBounds_toArray, List.set_cons_zero, List.set_cons_succ]
        refine wpAnyH_take (i := 7) (v := ?v44) (at_op rfl) (by kernel_rfl) (by kernel_rfl) (by kernel_rfl) (fun _ _ _ h => h) (Or.inl ⟨by rfl, ?y44⟩) (by assumption) ?r44
        case y44 =>
          intro wx hSx
          obtain ⟨p0, p1, p2, p3, p4, p5, p6, p7, p8, p9, p10⟩ := HBlk.eleven hSx.1; obtain ⟨q0, q1⟩ := two_cells hSx.2
          go_simp
          try with_reducible rfl
        try simp only [Act.put, List.setIfInBounds_toArray, List.set_cons_zero, List.set_cons_succ]
        refine wpAnyH_take (i := 8) (v := ?v45) (at_op rfl) (by kernel_rfl) (by kernel_rfl) (by kernel_rfl) (fun _ _ _ h => h) (Or.inl ⟨by rfl, ?y45⟩) (by assumption) ?r45
        case y45 =>
          intro wx hSx
          obtain ⟨p0, p1, p2, p3, p4, p5, p6, p7, p8, p9, p10⟩ := HBlk.eleven hSx.1; obtain ⟨q0, q1⟩ := two_cells hSx.2
          go_simp
          try with_reducible rfl
        try simp only [Act.put, List.setIfInBounds_toArray, List.set_cons_zero, List.set_cons_succ]
        refine wpAnyH_take (i := 9) (v := ?v46) (at_op rfl) (by kernel_rfl) (by kernel_rfl) (by kernel_rfl) (fun _ _ _ h => h) (Or.inl ⟨by rfl, ?y46⟩) (by assumption) ?r46
        case y46 =>
          intro wx hSx
          obtain ⟨p0, p1, p2, p3, p4, p5, p6, p7, p8, p9, p10⟩ := HBlk.eleven hSx.1; obtain ⟨q0, q1⟩ := two_cells hSx.2
          go_simp
          try with_reducible rfl
        try simp only [Act.put, List.setIfInBounds_toArray, List.set_cons_zero, List.set_cons_succ]
        refine wpAnyH_take (i := 10) (v := ?v47) (at_op rfl) (by kernel_rfl) (by kernel_rfl) (by kernel_rfl) (fun _ _ _ h => h) (Or.inl ⟨by rfl, ?y47⟩) (by assumption) ?r47
        case y47 =>
          intro wx hSx
          obtain ⟨p0, p1, p2, p3, p4, p5, p6, p7, p8, p9, p10⟩ := HBlk.eleven hSx.1; obtain ⟨q0, q1⟩ := two_cells hSx.2
          go_simp
          try with_reducible rfl
        try simp only [Act.put, List.setIfInBounds_toArray, List.set_cons_zero, List.set_cons_succ]
        refine wpAnyH_take (i := 11) (v := ?v48) (at_op rfl) (by kernel_rfl) (by kernel_rfl) (by kernel_rfl) (fun _ _ _ h => h) (Or.inl ⟨by rfl, ?y48⟩) (by assumption) ?r48
        case y48 =>
          intro wx hSx
          obtain ⟨p0, p1, p2, p3, p4, p5, p6, p7, p8, p9, p10⟩ := HBlk.eleven hSx.1; obtain ⟨q0, q1⟩ := two_cells hSx.2
          go_simp
          try with_reducible rfl
        try simp only [Act.put, List.setIfInBounds_toArray, List.set_cons_zero, List.set_cons_succ]
        refine wpAnyH_take (i := 12) (v := ?v49) (at_op rfl) (by kernel_rfl) (by kernel_rfl) (by kernel_rfl) (fun _ _ _ h => h) (Or.inl ⟨by rfl, ?y49⟩) (by assumption) ?r49
        case y49 =>
          intro wx hSx
          obtain ⟨p0, p1, p2, p3, p4, p5, p6, p7, p8, p9, p10⟩ := HBlk.eleven hSx.1; obtain ⟨q0, q1⟩ := two_cells hSx.2
          go_simp; try rw [hyif.out]
          try with_reducible rfl
        try simp only [Act.put, List.setIfInBounds_toArray, List.set_cons_zero, List.set_cons_succ]
        refine wpAnyH_take (i := 13) (v := ?v50) (at_op rfl) (by kernel_rfl) (by kernel_rfl) (by kernel_rfl) (fun _ _ _ h => h) (Or.inl ⟨by rfl, ?y50⟩) (by assumption) ?r50
        case y50 =>
          intro wx hSx
          obtain ⟨p0, p1, p2, p3, p4, p5, p6, p7, p8, p9, p10⟩ := HBlk.eleven hSx.1; obtain ⟨q0, q1⟩ := two_cells hSx.2
          go_simp
          try with_reducible rfl
        try simp only [Act.put, List.setIfInBounds_toArray, List.set_cons_zero, List.set_cons_succ]
        refine wpAnyH_take (i := 14) (v := undef) (at_op rfl) (by kernel_rfl) (by kernel_rfl) (by kernel_rfl) (fun _ _ _ h => h) (Or.inr ⟨by rfl, rfl⟩) (by assumption) ?_
        try simp only [Act.put, List.setIfInBounds_toArray, List.set_cons_zero, List.set_cons_succ]
        refine wpAnyH_take (i := 15) (v := undef) (at_op rfl) (by kernel_rfl) (by kernel_rfl) (by kernel_rfl) (fun _ _ _ h => h) (Or.inr ⟨by rfl, rfl⟩) (by assumption) ?_
        try simp only [Act.put, List.setIfInBounds_toArray, List.set_cons_zero, List.set_cons_succ]
        refine wpAnyH_take (i := 16) (v := undef) (at_op rfl) (by kernel_rfl) (by kernel_rfl) (by kernel_rfl) (fun _ _ _ h => h) (Or.inr ⟨by rfl, rfl⟩) (by assumption) ?_
        try simp only [Act.put, List.setIfInBounds_toArray, List.set_cons_zero, List.set_cons_succ]
        refine wpAnyH_take (i := 17) (v := undef) (at_op rfl) (by kernel_rfl) (by kernel_rfl) (by kernel_rfl) (fun _ _ _ h => h) (Or.inr ⟨by rfl, rfl⟩) (by assumption) ?_
        try simp only [Act.put, List.setIfInBounds_toArray, List.set_cons_zero, List.set_cons_succ]
        refine wpAnyH_take (i := 18) (v := undef) (at_op rfl) (by kernel_rfl) (by kernel_rfl) (by kernel_rfl) (fun _ _ _ h => h) (Or.inr ⟨by rfl, rfl⟩) (by assumption) ?_
        try simp only [Act.put, List.setIfInBounds_toArray, List.set_cons_zero, List.set_cons_succ]
        refine wpAnyH_take (i := 19) (v := undef) (at_op rfl) (by kernel_rfl) (by kernel_rfl) (by kernel_rfl) (fun _ _ _ h => h) (Or.inr ⟨by rfl, rfl⟩) (by assumption) ?_
        try simp only [Act.put, List.setIfInBounds_toArray, List.set_cons_zero, List.set_cons_succ]
        refine wpAnyH_take (i := 20) (v := undef) (at_op rfl) (by kernel_rfl) (by kernel_rfl) (by kernel_rfl) (fun _ _ _ h => h) (Or.inr ⟨by rfl, rfl⟩) (by assumption) ?_
        try simp only [Act.put, List.setIfInBounds_toArray, List.set_cons_zero, List.set_cons_succ]
        refine wpAnyH_take (i := 21) (v := ?v51) (at_op rfl) (by kernel_rfl) (by kernel_rfl) (by kernel_rfl) (fun _ _ _ h => h) (Or.inl ⟨by rfl, ?y51⟩) (by assumption) ?r51
        case y51 =>
          intro wx hSx
          obtain ⟨p0, p1, p2, p3, p4, p5, p6, p7, p8, p9, p10⟩ := HBlk.eleven hSx.1; obtain ⟨q0, q1⟩ := two_cells hSx.2
          go_simp
          try with_reducible rfl
        try simp only [Act.put, List.setIfInBounds_toArray, List.set_cons_zero, List.set_cons_succ]
        refine wpAnyH_take (i := 22) (v := ?v52) (at_op rfl) (by kernel_rfl) (by kernel_rfl) (by kernel_rfl) (fun _ _ _ h => h) (Or.inl ⟨by rfl, ?y52⟩) (by assumption) ?r52
        case y52 =>
          intro wx hSx
          obtain ⟨p0, p1, p2, p3, p4, p5, p6, p7, p8, p9, p10⟩ := HBlk.eleven hSx.1; obtain ⟨q0, q1⟩ := two_cells hSx.2
          go_simp
          try with_reducible rfl
        try simp only [Act.put, List.setIfInBounds_toArray, List.set_cons_zero, List.set_cons_succ]
        refine wpAnyH_done (by kernel_rfl) ?_ _
        have hbt : bq = false := hbq.out.symm.trans hyn
        subst hbt
        clear hbq
        go_wp2
        go_end0
        exact ⟨rfl, hH5, Out.of_below hb5⟩
  · go_simp
    have hA0 := heap_alloc_new wD (.cells #[.int .i64 0, .int .i64 0] 37)
    have hbA : Below wD.heap.size wD (wD.alloc (.cells #[.int .i64 0, .int .i64 0] 37)) := (Below.refl _ _).alloc (Nat.le_refl _) _
    have hb1 := hbD.trans (hbA.mono hbD.size)
    have hH1 := HBlk.below hHeld hbA
    have hHC : H ≠ wD.heap.size := Nat.ne_of_lt hsD
    have hwC : w.heap.size ≤ wD.heap.size := hbD.size
    refine hK.out _ _ hH1 (fun _ => ?_)
    clear hK K
    try simp only [Act.put, List.setIfInBounds_toArray, List.set_cons_zero, List.set_cons_succ]
    refine wpAnyH_ready (rs := [9]) (by kernel_rfl) (by simp) ?_
    refine AllReadyH.cons (at_op rfl) (fun K hK => ?_) AllReadyH.nil
    go_simp
    refine (HCO.out _ hb1).mono ?_
    rintro e w1 ⟨rfl, h1⟩
    have hA := blk h1 hA0
    have hH2 := HBlk.below hH1 h1
    have hb2 := hb1.trans (h1.mono hb1.size)
    go_wp2_with fail
    refine hK.out _ _ hH2 (fun _ => ?_)
    clear hK K
    try simp only [Act.put, List.setIfInBounds_toArray, List.set_cons_zero, List.set_cons_succ]
    generalize w1 = w2 at *
    obtain ⟨C, hC⟩ : ∃ C, C = wD.heap.size := ⟨_, rfl⟩
    rw [← hC] at hA hHC hwC ⊢
    clear hC
    obtain ⟨z0, z1⟩ := two_cells hA
    have g0 : w2.frozen? ⟨C, 0, none⟩ = false := frozen_heap hA
    have g1 : w2.frozen? ⟨C, 1, none⟩ = false := frozen_heap hA
    refine wpAnyH_ready (rs := [11]) (by kernel_rfl) (by simp) ?_
    refine AllReadyH.cons (at_op rfl) (fun K hK => ?_) AllReadyH.nil
    go_wp2_with fail
    have hH3 := (hH2.far hHC (j := 0) (.int .i64 y.over)).far hHC (j := 1) (.int .i64 y.sum)
    have hC3 := two_set (u0 := .int .i64 y.over) (u1 := .int .i64 y.sum) hA
    have hb3 : Below w.heap.size w ((w2.setCell ⟨C, 0, none⟩ (.int .i64 y.over)).setCell ⟨C, 1, none⟩ (.int .i64 y.sum)) := (hb2.setCell (p := ⟨C, 0, none⟩) hwC _).setCell (p := ⟨C, 1, none⟩) hwC _
    refine hK.out _ _ hH3 (fun _ => ?_)
    clear hK K
    try simp only [Act.put, List.setIfInBounds_toArray, List.set_cons_zero, List.set_cons_succ]
    refine wpAnyH_done (by kernel_rfl) ?_ _
    clear z0 z1 g0 g1 hA hH2 hb2
    generalize ((w2.setCell ⟨C, 0, none⟩ (.int .i64 y.over)).setCell ⟨C, 1, none⟩ (.int .i64 y.sum)) = w3 at *
    have hs3 := hb3.size
    have hHl3 := HBlk.lt hH3
    go_wp2_with fail
    have HCL := Lib.hid (fun w2 => costLess_impl y c w2)
    cases hcl : costLess y c with
    | true =>
      refine wp_region_held_drew (S := fun w' => HBlk x ra rc ca cc sa sc ta tc H wd (.slice ba best.length bc) hv c pops w' ∧ w'.heap[C]? = some (.cells #[.int .i64 y.over, .int .i64 y.sum] 37)) (by kernel_rfl) ?_ (fun hHeld => ?_)
      · exact ⟨hH3, hC3⟩
      have hb4 : Below w.heap.size w w3.drew := hb3.drew
      generalize w3.drew = w4 at *
      refine wpAnyH_take (i := 0) (v := ?v53) (at_op rfl) (by kernel_rfl) (by kernel_rfl) (by kernel_rfl) (fun _ _ _ h => h) (Or.inl ⟨by rfl, ?y53⟩) (by assumption) ?r53
      case y53 =>
        intro wx hSx
        obtain ⟨p0, p1, p2, p3, p4, p5, p6, p7, p8, p9, p10⟩ := HBlk.eleven hSx.1; obtain ⟨q0, q1⟩ := two_cells hSx.2
        go_simp
        try with_reducible rfl
      try simp only [Act.put, List.setIfInBounds_toArray, List.set_cons_zero, List.set_cons_succ]
      refine wpAnyH_take (i := 1) (v := ?v54) (at_op rfl) (by kernel_rfl) (by kernel_rfl) (by kernel_rfl) (fun _ _ _ h => h) (Or.inl ⟨by rfl, ?y54⟩) (by assumption) ?r54
      case y54 =>
        intro wx hSx
        obtain ⟨p0, p1, p2, p3, p4, p5, p6, p7, p8, p9, p10⟩ := HBlk.eleven hSx.1; obtain ⟨q0, q1⟩ := two_cells hSx.2
        go_simp
        try with_reducible rfl
      try simp only [Act.put, List.setIfInBounds_toArray, List.set_cons_zero, List.set_cons_succ]
      refine wpAnyH_take (i := 2) (v := ?v55) (at_op rfl) (by kernel_rfl) (by kernel_rfl) (by kernel_rfl) (fun _ _ _ h => h) (Or.inl ⟨by rfl, ?y55⟩) (by assumption) ?r55
      case y55 =>
        intro wx hSx
        obtain ⟨p0, p1, p2, p3, p4, p5, p6, p7, p8, p9, p10⟩ := HBlk.eleven hSx.1; obtain ⟨q0, q1⟩ := two_cells hSx.2
        go_simp
        try with_reducible rfl
      try simp only [Act.put, List.setIfInBounds_toArray, List.set_cons_zero, List.set_cons_succ]
      refine wpAnyH_take (i := 3) (v := ?v56) (at_op rfl) (by kernel_rfl) (by kernel_rfl) (by kernel_rfl) (fun _ _ _ h => h) (Or.inl ⟨by rfl, ?y56⟩) (by assumption) ?r56
      case y56 =>
        intro wx hSx
        obtain ⟨p0, p1, p2, p3, p4, p5, p6, p7, p8, p9, p10⟩ := HBlk.eleven hSx.1; obtain ⟨q0, q1⟩ := two_cells hSx.2
        go_simp
        try with_reducible rfl
      try simp only [Act.put, List.setIfInBounds_toArray, List.set_cons_zero, List.set_cons_succ]
      refine wpAnyH_take (i := 4) (v := ?v57) (at_op rfl) (by kernel_rfl) (by kernel_rfl) (by kernel_rfl) (fun _ _ _ h => h) (Or.inl ⟨by rfl, ?y57⟩) (by assumption) ?r57
      case y57 =>
        intro wx hSx
        obtain ⟨p0, p1, p2, p3, p4, p5, p6, p7, p8, p9, p10⟩ := HBlk.eleven hSx.1; obtain ⟨q0, q1⟩ := two_cells hSx.2
        go_simp
        try with_reducible rfl
      try simp only [Act.put, List.setIfInBounds_toArray, List.set_cons_zero, List.set_cons_succ]
      refine wpAnyH_ready (rs := [5]) (by kernel_rfl) (by simp) ?_
      refine AllReadyH.cons (at_op rfl) (fun K hK => ?_) AllReadyH.nil
      go_simp
      have q := HCL.out w4
      rw [hcl] at q
      refine q.mono ?_
      clear q
      rintro e w5 ⟨rfl, h5⟩
      have hH5 := HBlk.below hHeld.1 h5
      have hC5 := blk h5 hHeld.2
      have hb5 := hb4.trans (h5.mono hb4.size)
      go_wp2_with fail
      refine hK.out _ _ ⟨hH5, hC5⟩ (fun _ => ?_)
      clear hK K
      try simp only [Act.put, List.setIfInBounds_toArray, List.set_cons_zero, List.set_cons_succ]
      refine wpAnyH_take (i := 6) (v := ?v58) (at_op rfl) (by kernel_rfl) (by kernel_rfl) (by kernel_rfl) (fun _ _ _ h => h) (Or.inl ⟨by rfl, ?y58⟩) (by assumption) ?r58
      case y58 =>
        intro wx hSx
        obtain ⟨p0, p1, p2, p3, p4, p5, p6, p7, p8, p9, p10⟩ := HBlk.eleven hSx.1; obtain ⟨q0, q1⟩ := two_cells hSx.2
        go_simp
        try with_reducible rfl
      try simp only [Act.put, List.setIfInBounds_toArray, List.set_cons_zero, List.set_cons_succ]
      refine wpAnyH_take (i := 7) (v := undef) (at_op rfl) (by kernel_rfl) (by kernel_rfl) (by kernel_rfl) (fun _ _ _ h => h) (Or.inr ⟨by rfl, rfl⟩) (by assumption) ?_
      try simp only [Act.put, List.setIfInBounds_toArray, List.set_cons_zero, List.set_cons_succ]
      refine wpAnyH_take (i := 8) (v := undef) (at_op rfl) (by kernel_rfl) (by kernel_rfl) (by kernel_rfl) (fun _ _ _ h => h) (Or.inr ⟨by rfl, rfl⟩) (by assumption) ?_
      try simp only [Act.put, List.setIfInBounds_toArray, List.set_cons_zero, List.set_cons_succ]
      refine wpAnyH_take (i := 9) (v := undef) (at_op rfl) (by kernel_rfl) (by kernel_rfl) (by kernel_rfl) (fun _ _ _ h => h) (Or.inr ⟨by rfl, rfl⟩) (by assumption) ?_
      try simp only [Act.put, List.setIfInBounds_toArray, List.set_cons_zero, List.set_cons_succ]
      refine wpAnyH_take (i := 10) (v := undef) (at_op rfl) (by kernel_rfl) (by kernel_rfl) (by kernel_rfl) (fun _ _ _ h => h) (Or.inr ⟨by rfl, rfl⟩) (by assumption) ?_
      try simp only [Act.put, List.setIfInBounds_toArray, List.set_cons_zero, List.set_cons_succ]
      refine wpAnyH_take (i := 11) (v := undef) (at_op rfl) (by kernel_rfl) (by kernel_rfl) (by kernel_rfl) (fun _ _ _ h => h) (Or.inr ⟨by rfl, rfl⟩) (by assumption) ?_
      try simp only [Act.put, List.setIfInBounds_toArray, List.set_cons_zero, List.set_cons_succ]
      refine wpAnyH_take (i := 12) (v := undef) (at_op rfl) (by kernel_rfl) (by kernel_rfl) (by kernel_rfl) (fun _ _ _ h => h) (Or.inr ⟨by rfl, rfl⟩) (by assumption) ?_
      try simp only [Act.put, List.setIfInBounds_toArray, List.set_cons_zero, List.set_cons_succ]
      refine wpAnyH_take (i := 13) (v := undef) (at_op rfl) (by kernel_rfl) (by kernel_rfl) (by kernel_rfl) (fun _ _ _ h => h) (Or.inr ⟨by rfl, rfl⟩) (by assumption) ?_
      try simp only [Act.put, List.setIfInBounds_toArray, List.set_cons_zero, List.set_cons_succ]
      refine wpAnyH_take (i := 14) (v := undef) (at_op rfl) (by kernel_rfl) (by kernel_rfl) (by kernel_rfl) (fun _ _ _ h => h) (Or.inr ⟨by rfl, rfl⟩) (by assumption) ?_
      try simp only [Act.put, List.setIfInBounds_toArray, List.set_cons_zero, List.set_cons_succ]
      refine wpAnyH_take (i := 15) (v := undef) (at_op rfl) (by kernel_rfl) (by kernel_rfl) (by kernel_rfl) (fun _ _ _ h => h) (Or.inr ⟨by rfl, rfl⟩) (by assumption) ?_
      try simp only [Act.put, List.setIfInBounds_toArray, List.set_cons_zero, List.set_cons_succ]
      refine wpAnyH_take (i := 16) (v := undef) (at_op rfl) (by kernel_rfl) (by kernel_rfl) (by kernel_rfl) (fun _ _ _ h => h) (Or.inr ⟨by rfl, rfl⟩) (by assumption) ?_
      try simp only [Act.put, List.setIfInBounds_toArray, List.set_cons_zero, List.set_cons_succ]
      refine wpAnyH_take (i := 17) (v := undef) (at_op rfl) (by kernel_rfl) (by kernel_rfl) (by kernel_rfl) (fun _ _ _ h => h) (Or.inr ⟨by rfl, rfl⟩) (by assumption) ?_
      try simp only [Act.put, List.setIfInBounds_toArray, List.set_cons_zero, List.set_cons_succ]
      refine wpAnyH_take (i := 18) (v := undef) (at_op rfl) (by kernel_rfl) (by kernel_rfl) (by kernel_rfl) (fun _ _ _ h => h) (Or.inr ⟨by rfl, rfl⟩) (by assumption) ?_
      try simp only [Act.put, List.setIfInBounds_toArray, List.set_cons_zero, List.set_cons_succ]
      refine wpAnyH_take (i := 19) (v := undef) (at_op rfl) (by kernel_rfl) (by kernel_rfl) (by kernel_rfl) (fun _ _ _ h => h) (Or.inr ⟨by rfl, rfl⟩) (by assumption) ?_
      try simp only [Act.put, List.setIfInBounds_toArray, List.set_cons_zero, List.set_cons_succ]
      refine wpAnyH_take (i := 20) (v := undef) (at_op rfl) (by kernel_rfl) (by kernel_rfl) (by kernel_rfl) (fun _ _ _ h => h) (Or.inr ⟨by rfl, rfl⟩) (by assumption) ?_
      try simp only [Act.put, List.setIfInBounds_toArray, List.set_cons_zero, List.set_cons_succ]
      refine wpAnyH_take (i := 21) (v := undef) (at_op rfl) (by kernel_rfl) (by kernel_rfl) (by kernel_rfl) (fun _ _ _ h => h) (Or.inr ⟨by rfl, rfl⟩) (by assumption) ?_
      try simp only [Act.put, List.setIfInBounds_toArray, List.set_cons_zero, List.set_cons_succ]
      refine wpAnyH_take (i := 22) (v := ?v59) (at_op rfl) (by kernel_rfl) (by kernel_rfl) (by kernel_rfl) (fun _ _ _ h => h) (Or.inl ⟨by rfl, ?y59⟩) (by assumption) ?r59
      case y59 =>
        intro wx hSx
        obtain ⟨p0, p1, p2, p3, p4, p5, p6, p7, p8, p9, p10⟩ := HBlk.eleven hSx.1; obtain ⟨q0, q1⟩ := two_cells hSx.2
        go_simp
        try with_reducible rfl
      try simp only [Act.put, List.setIfInBounds_toArray, List.set_cons_zero, List.set_cons_succ]
      refine wpAnyH_done (by kernel_rfl) ?_ _
      have hbt : bq = true := hbq.out.symm.trans (better_lt hcl)
      subst hbt
      clear hbq
      obtain ⟨p0, p1, p2, p3, p4, p5, p6, p7, p8, p9, p10⟩ := HBlk.eleven hH5
      obtain ⟨q0, q1⟩ := two_cells hC5
      have f6 := HBlk.frz hH5 6
      have f7 := HBlk.frz hH5 7
      have f8 := HBlk.frz hH5 8
      have hl5 := HBlk.lt hH5
      go_wp2_with fail
      go_region
      all_goals
        go_wp2
        go_end0
        exact ⟨rfl, (hH5.setBest _).setCost _, ((((Out.of_below hb5).setCell (p := ⟨H, 6, none⟩) (Nat.le_refl _) (Nat.lt_succ_self _) _).setCell (p := ⟨H, 7, none⟩) (Nat.le_refl _) (Nat.lt_succ_self _) _).setCell (p := ⟨H, 8, none⟩) (Nat.le_refl _) (Nat.lt_succ_self _) _).drew⟩
    | false =>
      by_cases hyc : y = c
      · subst y
        refine wp_region_held_drew (S := fun w' => HBlk x ra rc ca cc sa sc ta tc H wd (.slice ba best.length bc) hv c pops w' ∧ w'.heap[C]? = some (.cells #[.int .i64 c.over, .int .i64 c.sum] 37)) (by kernel_rfl) ?_ (fun hHeld => ?_)
        · exact ⟨hH3, hC3⟩
        have hb4 : Below w.heap.size w w3.drew := hb3.drew
        generalize w3.drew = w4 at *
        refine wpAnyH_take (i := 0) (v := ?v60) (at_op rfl) (by kernel_rfl) (by kernel_rfl) (by kernel_rfl) (fun _ _ _ h => h) (Or.inl ⟨by rfl, ?y60⟩) (by assumption) ?r60
        case y60 =>
          intro wx hSx
          obtain ⟨p0, p1, p2, p3, p4, p5, p6, p7, p8, p9, p10⟩ := HBlk.eleven hSx.1; obtain ⟨q0, q1⟩ := two_cells hSx.2
          go_simp
          try with_reducible rfl
        try simp only [Act.put, List.setIfInBounds_toArray, List.set_cons_zero, List.set_cons_succ]
        refine wpAnyH_take (i := 1) (v := ?v61) (at_op rfl) (by kernel_rfl) (by kernel_rfl) (by kernel_rfl) (fun _ _ _ h => h) (Or.inl ⟨by rfl, ?y61⟩) (by assumption) ?r61
        case y61 =>
          intro wx hSx
          obtain ⟨p0, p1, p2, p3, p4, p5, p6, p7, p8, p9, p10⟩ := HBlk.eleven hSx.1; obtain ⟨q0, q1⟩ := two_cells hSx.2
          go_simp
          try with_reducible rfl
        try simp only [Act.put, List.setIfInBounds_toArray, List.set_cons_zero, List.set_cons_succ]
        refine wpAnyH_take (i := 2) (v := ?v62) (at_op rfl) (by kernel_rfl) (by kernel_rfl) (by kernel_rfl) (fun _ _ _ h => h) (Or.inl ⟨by rfl, ?y62⟩) (by assumption) ?r62
        case y62 =>
          intro wx hSx
          obtain ⟨p0, p1, p2, p3, p4, p5, p6, p7, p8, p9, p10⟩ := HBlk.eleven hSx.1; obtain ⟨q0, q1⟩ := two_cells hSx.2
          go_simp
          try with_reducible rfl
        try simp only [Act.put, List.setIfInBounds_toArray, List.set_cons_zero, List.set_cons_succ]
        refine wpAnyH_take (i := 3) (v := ?v63) (at_op rfl) (by kernel_rfl) (by kernel_rfl) (by kernel_rfl) (fun _ _ _ h => h) (Or.inl ⟨by rfl, ?y63⟩) (by assumption) ?r63
        case y63 =>
          intro wx hSx
          obtain ⟨p0, p1, p2, p3, p4, p5, p6, p7, p8, p9, p10⟩ := HBlk.eleven hSx.1; obtain ⟨q0, q1⟩ := two_cells hSx.2
          go_simp
          try with_reducible rfl
        try simp only [Act.put, List.setIfInBounds_toArray, List.set_cons_zero, List.set_cons_succ]
        refine wpAnyH_take (i := 4) (v := ?v64) (at_op rfl) (by kernel_rfl) (by kernel_rfl) (by kernel_rfl) (fun _ _ _ h => h) (Or.inl ⟨by rfl, ?y64⟩) (by assumption) ?r64
        case y64 =>
          intro wx hSx
          obtain ⟨p0, p1, p2, p3, p4, p5, p6, p7, p8, p9, p10⟩ := HBlk.eleven hSx.1; obtain ⟨q0, q1⟩ := two_cells hSx.2
          go_simp
          try with_reducible rfl
        try simp only [Act.put, List.setIfInBounds_toArray, List.set_cons_zero, List.set_cons_succ]
        refine wpAnyH_ready (rs := [5]) (by kernel_rfl) (by simp) ?_
        refine AllReadyH.cons (at_op rfl) (fun K hK => ?_) AllReadyH.nil
        go_simp
        have q := HCL.out w4
        rw [hcl] at q
        refine q.mono ?_
        clear q
        rintro e w5 ⟨rfl, h5⟩
        have hH5 := HBlk.below hHeld.1 h5
        have hC5 := blk h5 hHeld.2
        have hb5 := hb4.trans (h5.mono hb4.size)
        go_wp2_with fail
        refine hK.out _ _ ⟨hH5, hC5⟩ (fun _ => ?_)
        clear hK K
        try simp only [Act.put, List.setIfInBounds_toArray, List.set_cons_zero, List.set_cons_succ]
        refine wpAnyH_take (i := 6) (v := ?v65) (at_op rfl) (by kernel_rfl) (by kernel_rfl) (by kernel_rfl) (fun _ _ _ h => h) (Or.inl ⟨by rfl, ?y65⟩) (by assumption) ?r65
        case y65 =>
          intro wx hSx
          obtain ⟨p0, p1, p2, p3, p4, p5, p6, p7, p8, p9, p10⟩ := HBlk.eleven hSx.1; obtain ⟨q0, q1⟩ := two_cells hSx.2
          go_simp
          try with_reducible rfl
        try simp only [Act.put, List.setIfInBounds_toArray, List.set_cons_zero, List.set_cons_succ]
        refine wpAnyH_take (i := 7) (v := ?v66) (at_op rfl) (by kernel_rfl) (by kernel_rfl) (by kernel_rfl) (fun _ _ _ h => h) (Or.inl ⟨by rfl, ?y66⟩) (by assumption) ?r66
        case y66 =>
          intro wx hSx
          obtain ⟨p0, p1, p2, p3, p4, p5, p6, p7, p8, p9, p10⟩ := HBlk.eleven hSx.1; obtain ⟨q0, q1⟩ := two_cells hSx.2
          go_simp
          try with_reducible rfl
        try simp only [Act.put, List.setIfInBounds_toArray, List.set_cons_zero, List.set_cons_succ]
        refine wpAnyH_take (i := 8) (v := ?v67) (at_op rfl) (by kernel_rfl) (by kernel_rfl) (by kernel_rfl) (fun _ _ _ h => h) (Or.inl ⟨by rfl, ?y67⟩) (by assumption) ?r67
        case y67 =>
          intro wx hSx
          obtain ⟨p0, p1, p2, p3, p4, p5, p6, p7, p8, p9, p10⟩ := HBlk.eleven hSx.1; obtain ⟨q0, q1⟩ := two_cells hSx.2
          go_simp
          try with_reducible rfl
        try simp only [Act.put, List.setIfInBounds_toArray, List.set_cons_zero, List.set_cons_succ]
        refine wpAnyH_take (i := 9) (v := ?v68) (at_op rfl) (by kernel_rfl) (by kernel_rfl) (by kernel_rfl) (fun _ _ _ h => h) (Or.inl ⟨by rfl, ?y68⟩) (by assumption) ?r68
        case y68 =>
          intro wx hSx
          obtain ⟨p0, p1, p2, p3, p4, p5, p6, p7, p8, p9, p10⟩ := HBlk.eleven hSx.1; obtain ⟨q0, q1⟩ := two_cells hSx.2
          go_simp
          try with_reducible rfl
        try simp only [Act.put, List.setIfInBounds_toArray, List.set_cons_zero, List.set_cons_succ]
        refine wpAnyH_take (i := 10) (v := ?v69) (at_op rfl) (by kernel_rfl) (by kernel_rfl) (by kernel_rfl) (fun _ _ _ h => h) (Or.inl ⟨by rfl, ?y69⟩) (by assumption) ?r69
        case y69 =>
          intro wx hSx
          obtain ⟨p0, p1, p2, p3, p4, p5, p6, p7, p8, p9, p10⟩ := HBlk.eleven hSx.1; obtain ⟨q0, q1⟩ := two_cells hSx.2
          go_simp
          try with_reducible rfl
        try simp only [Act.put, List.setIfInBounds_toArray, List.set_cons_zero, List.set_cons_succ]
        refine wpAnyH_take (i := 11) (v := ?v70) (at_op rfl) (by kernel_rfl) (by kernel_rfl) (by kernel_rfl) (fun _ _ _ h => h) (Or.inl ⟨by rfl, ?y70⟩) (by assumption) ?r70
        case y70 =>
          intro wx hSx
          obtain ⟨p0, p1, p2, p3, p4, p5, p6, p7, p8, p9, p10⟩ := HBlk.eleven hSx.1; obtain ⟨q0, q1⟩ := two_cells hSx.2
          go_simp
          try with_reducible rfl
        try simp only [Act.put, List.setIfInBounds_toArray, List.set_cons_zero, List.set_cons_succ]
        refine wpAnyH_take (i := 12) (v := ?v71) (at_op rfl) (by kernel_rfl) (by kernel_rfl) (by kernel_rfl) (fun _ _ _ h => h) (Or.inl ⟨by rfl, ?y71⟩) (by assumption) ?r71
        case y71 =>
          intro wx hSx
          obtain ⟨p0, p1, p2, p3, p4, p5, p6, p7, p8, p9, p10⟩ := HBlk.eleven hSx.1; obtain ⟨q0, q1⟩ := two_cells hSx.2
          go_simp
          try with_reducible rfl
        try simp only [Act.put, List.setIfInBounds_toArray, List.set_cons_zero, List.set_cons_succ]
        refine wpAnyH_take (i := 13) (v := ?v72) (at_op rfl) (by kernel_rfl) (by kernel_rfl) (by kernel_rfl) (fun _ _ _ h => h) (Or.inl ⟨by rfl, ?y72⟩) (by assumption) ?r72
        case y72 =>
          intro wx hSx
          obtain ⟨p0, p1, p2, p3, p4, p5, p6, p7, p8, p9, p10⟩ := HBlk.eleven hSx.1; obtain ⟨q0, q1⟩ := two_cells hSx.2
          go_simp
          try with_reducible rfl
        try simp only [Act.put, List.setIfInBounds_toArray, List.set_cons_zero, List.set_cons_succ]
        refine wpAnyH_take (i := 14) (v := ?v73) (at_op rfl) (by kernel_rfl) (by kernel_rfl) (by kernel_rfl) (fun _ _ _ h => h) (Or.inl ⟨by rfl, ?y73⟩) (by assumption) ?r73
        case y73 =>
          intro wx hSx
          obtain ⟨p0, p1, p2, p3, p4, p5, p6, p7, p8, p9, p10⟩ := HBlk.eleven hSx.1; obtain ⟨q0, q1⟩ := two_cells hSx.2
          go_simp
          try with_reducible rfl
        try simp only [Act.put, List.setIfInBounds_toArray, List.set_cons_zero, List.set_cons_succ]
        refine wpAnyH_take (i := 15) (v := ?v74) (at_op rfl) (by kernel_rfl) (by kernel_rfl) (by kernel_rfl) (fun _ _ _ h => h) (Or.inl ⟨by rfl, ?y74⟩) (by assumption) ?r74
        case y74 =>
          intro wx hSx
          obtain ⟨p0, p1, p2, p3, p4, p5, p6, p7, p8, p9, p10⟩ := HBlk.eleven hSx.1; obtain ⟨q0, q1⟩ := two_cells hSx.2
          go_simp
          try with_reducible rfl
        try simp only [Act.put, List.setIfInBounds_toArray, List.set_cons_zero, List.set_cons_succ]
        refine wpAnyH_take (i := 16) (v := ?v75) (at_op rfl) (by kernel_rfl) (by kernel_rfl) (by kernel_rfl) (fun _ _ _ h => h) (Or.inl ⟨by rfl, ?y75⟩) (by assumption) ?r75
        case y75 =>
          intro wx hSx
          obtain ⟨p0, p1, p2, p3, p4, p5, p6, p7, p8, p9, p10⟩ := HBlk.eleven hSx.1; obtain ⟨q0, q1⟩ := two_cells hSx.2
          go_simp
          try with_reducible rfl
        try simp only [Act.put, List.setIfInBounds_toArray, List.set_cons_zero, List.set_cons_succ]
        refine wpAnyH_take (i := 17) (v := ?v76) (at_op rfl) (by kernel_rfl) (by kernel_rfl) (by kernel_rfl) (fun _ _ _ h => h) (Or.inl ⟨by rfl, ?y76⟩) (by assumption) ?r76
        case y76 =>
          intro wx hSx
          obtain ⟨p0, p1, p2, p3, p4, p5, p6, p7, p8, p9, p10⟩ := HBlk.eleven hSx.1; obtain ⟨q0, q1⟩ := two_cells hSx.2
          go_simp
          try with_reducible rfl
        try simp only [Act.put, List.setIfInBounds_toArray, List.set_cons_zero, List.set_cons_succ]
        refine wpAnyH_take (i := 18) (v := ?v77) (at_op rfl) (by kernel_rfl) (by kernel_rfl) (by kernel_rfl) (fun _ _ _ h => h) (Or.inl ⟨by rfl, ?y77⟩) (by assumption) ?r77
        case y77 =>
          intro wx hSx
          obtain ⟨p0, p1, p2, p3, p4, p5, p6, p7, p8, p9, p10⟩ := HBlk.eleven hSx.1; obtain ⟨q0, q1⟩ := two_cells hSx.2
          go_simp
          try with_reducible rfl
        try simp only [Act.put, List.setIfInBounds_toArray, List.set_cons_zero, List.set_cons_succ]
        refine wpAnyH_ready (rs := [19]) (by kernel_rfl) (by simp) ?_
        refine AllReadyH.cons (at_op rfl) (fun K hK => ?_) AllReadyH.nil
        go_simp
        refine (HCM.out w5 hb5).mono ?_
        rintro e w' ⟨rfl, rfl⟩
        go_wp2_with fail
        refine hK.out _ _ ⟨hH5, hC5⟩ (fun _ => ?_)
        clear hK K
        try simp only [Act.put, List.setIfInBounds_toArray, List.set_cons_zero, List.set_cons_succ]
        refine wpAnyH_take (i := 20) (v := ?v78) (at_op rfl) (by kernel_rfl) (by kernel_rfl) (by kernel_rfl) (fun _ _ _ h => h) (Or.inl ⟨by rfl, ?y78⟩) (by assumption) ?r78
        case y78 =>
          intro wx hSx
          obtain ⟨p0, p1, p2, p3, p4, p5, p6, p7, p8, p9, p10⟩ := HBlk.eleven hSx.1; obtain ⟨q0, q1⟩ := two_cells hSx.2
          go_simp
          try with_reducible rfl
        try simp only [Act.put, List.setIfInBounds_toArray, List.set_cons_zero, List.set_cons_succ]
        refine wpAnyH_take (i := 21) (v := ?v79) (at_op rfl) (by kernel_rfl) (by kernel_rfl) (by kernel_rfl) (fun _ _ _ h => h) (Or.inl ⟨by rfl, ?y79⟩) (by assumption) ?r79
        case y79 =>
          intro wx hSx
          obtain ⟨p0, p1, p2, p3, p4, p5, p6, p7, p8, p9, p10⟩ := HBlk.eleven hSx.1; obtain ⟨q0, q1⟩ := two_cells hSx.2
          go_simp
          try with_reducible rfl
        try simp only [Act.put, List.setIfInBounds_toArray, List.set_cons_zero, List.set_cons_succ]
        refine wpAnyH_take (i := 22) (v := ?v80) (at_op rfl) (by kernel_rfl) (by kernel_rfl) (by kernel_rfl) (fun _ _ _ h => h) (Or.inl ⟨by rfl, ?y80⟩) (by assumption) ?r80
        case y80 =>
          intro wx hSx
          obtain ⟨p0, p1, p2, p3, p4, p5, p6, p7, p8, p9, p10⟩ := HBlk.eleven hSx.1; obtain ⟨q0, q1⟩ := two_cells hSx.2
          go_simp
          try with_reducible rfl
        try simp only [Act.put, List.setIfInBounds_toArray, List.set_cons_zero, List.set_cons_succ]
        refine wpAnyH_done (by kernel_rfl) ?_ _
        have hbt : bq = decide (cmpL vals best < 0) := hbq.out.symm.trans (better_eq hcl)
        by_cases hcm : cmpL vals best < 0
        · rw [decide_eq_true hcm] at hbt
          subst hbt
          clear hbq
          obtain ⟨p0, p1, p2, p3, p4, p5, p6, p7, p8, p9, p10⟩ := HBlk.eleven hH5
          obtain ⟨q0, q1⟩ := two_cells hC5
          have f6 := HBlk.frz hH5 6
          have f7 := HBlk.frz hH5 7
          have f8 := HBlk.frz hH5 8
          have hl5 := HBlk.lt hH5
          go_wp2_with fail
          go_region
          all_goals
            go_wp2
            go_end0
            exact ⟨rfl, (hH5.setBest _).setCost _, ((((Out.of_below hb5).setCell (p := ⟨H, 6, none⟩) (Nat.le_refl _) (Nat.lt_succ_self _) _).setCell (p := ⟨H, 7, none⟩) (Nat.le_refl _) (Nat.lt_succ_self _) _).setCell (p := ⟨H, 8, none⟩) (Nat.le_refl _) (Nat.lt_succ_self _) _).drew⟩
        · rw [decide_eq_false hcm] at hbt
          subst hbt
          clear hbq
          go_wp2
          go_end0
          exact ⟨rfl, hH5, Out.of_below hb5⟩
      · have hyn := better_ne (v := vals) (b := best) hcl hyc
        have hyif : Hid (∀ (α : Type) (A B : α), (if y.over = c.over then if y.sum = c.sum then A else B else B) = B) := fun α A B => cost_ne hyc A B
        clear hyc
        refine wp_region_held_drew (S := fun w' => HBlk x ra rc ca cc sa sc ta tc H wd (.slice ba best.length bc) hv c pops w' ∧ w'.heap[C]? = some (.cells #[.int .i64 y.over, .int .i64 y.sum] 37)) (by kernel_rfl) ?_ (fun hHeld => ?_)
        · exact ⟨hH3, hC3⟩
        have hb4 : Below w.heap.size w w3.drew := hb3.drew
        generalize w3.drew = w4 at *
        refine wpAnyH_take (i := 0) (v := ?v81) (at_op rfl) (by kernel_rfl) (by kernel_rfl) (by kernel_rfl) (fun _ _ _ h => h) (Or.inl ⟨by rfl, ?y81⟩) (by assumption) ?r81
        case y81 =>
          intro wx hSx
          obtain ⟨p0, p1, p2, p3, p4, p5, p6, p7, p8, p9, p10⟩ := HBlk.eleven hSx.1; obtain ⟨q0, q1⟩ := two_cells hSx.2
          go_simp
          try with_reducible rfl
        try simp only [Act.put, List.setIfInBounds_toArray, List.set_cons_zero, List.set_cons_succ]
        refine wpAnyH_take (i := 1) (v := ?v82) (at_op rfl) (by kernel_rfl) (by kernel_rfl) (by kernel_rfl) (fun _ _ _ h => h) (Or.inl ⟨by rfl, ?y82⟩) (by assumption) ?r82
        case y82 =>
          intro wx hSx
          obtain ⟨p0, p1, p2, p3, p4, p5, p6, p7, p8, p9, p10⟩ := HBlk.eleven hSx.1; obtain ⟨q0, q1⟩ := two_cells hSx.2
          go_simp
          try with_reducible rfl
        try simp only [Act.put, List.setIfInBounds_toArray, List.set_cons_zero, List.set_cons_succ]
        refine wpAnyH_take (i := 2) (v := ?v83) (at_op rfl) (by kernel_rfl) (by kernel_rfl) (by kernel_rfl) (fun _ _ _ h => h) (Or.inl ⟨by rfl, ?y83⟩) (by assumption) ?r83
        case y83 =>
          intro wx hSx
          obtain ⟨p0, p1, p2, p3, p4, p5, p6, p7, p8, p9, p10⟩ := HBlk.eleven hSx.1; obtain ⟨q0, q1⟩ := two_cells hSx.2
          go_simp
          try with_reducible rfl
        try simp only [Act.put, List.setIfInBounds_toArray, List.set_cons_zero, List.set_cons_succ]
        refine wpAnyH_take (i := 3) (v := ?v84) (at_op rfl) (by kernel_rfl) (by kernel_rfl) (by kernel_rfl) (fun _ _ _ h => h) (Or.inl ⟨by rfl, ?y84⟩) (by assumption) ?r84
        case y84 =>
          intro wx hSx
          obtain ⟨p0, p1, p2, p3, p4, p5, p6, p7, p8, p9, p10⟩ := HBlk.eleven hSx.1; obtain ⟨q0, q1⟩ := two_cells hSx.2
          go_simp
          try with_reducible rfl
        try simp only [Act.put, List.setIfInBounds_toArray, List.set_cons_zero, List.set_cons_succ]
        refine wpAnyH_take (i := 4) (v := ?v85) (at_op rfl) (by kernel_rfl) (by kernel_rfl) (by kernel_rfl) (fun _ _ _ h => h) (Or.inl ⟨by rfl, ?y85⟩) (by assumption) ?r85
        case y85 =>
          intro wx hSx
          obtain ⟨p0, p1, p2, p3, p4, p5, p6, p7, p8, p9, p10⟩ := HBlk.eleven hSx.1; obtain ⟨q0, q1⟩ := two_cells hSx.2
          go_simp
          try with_reducible rfl
        try simp only [Act.put, List.setIfInBounds_toArray, List.set_cons_zero, List.set_cons_succ]
        refine wpAnyH_ready (rs := [5]) (by kernel_rfl) (by simp) ?_
        refine AllReadyH.cons (at_op rfl) (fun K hK => ?_) AllReadyH.nil
        go_simp
        have q := HCL.out w4
        rw [hcl] at q
        refine q.mono ?_
        clear q
        rintro e w5 ⟨rfl, h5⟩
        have hH5 := HBlk.below hHeld.1 h5
        have hC5 := blk h5 hHeld.2
        have hb5 := hb4.trans (h5.mono hb4.size)
        go_wp2_with fail
        refine hK.out _ _ ⟨hH5, hC5⟩ (fun _ => ?_)
        clear hK K
        try simp only [Act.put, List.setIfInBounds_toArray, List.set_cons_zero, List.set_cons_succ]
        refine wpAnyH_take (i := 6) (v := ?v86) (at_op rfl) (by kernel_rfl) (by kernel_rfl) (by kernel_rfl) (fun _ _ _ h => h) (Or.inl ⟨by rfl, ?y86⟩) (by assumption) ?r86
        case y86 =>
          intro wx hSx
          obtain ⟨p0, p1, p2, p3, p4, p5, p6, p7, p8, p9, p10⟩ := HBlk.eleven hSx.1; obtain ⟨q0, q1⟩ := two_cells hSx.2
          go_simp
          try with_reducible rfl
        try simp only [Act.put, List.setIfInBounds_toArray, List.set_cons_zero, List.set_cons_succ]
        refine wpAnyH_take (i := 7) (v := ?v87) (at_op rfl) (by kernel_rfl) (by kernel_rfl) (by kernel_rfl) (fun _ _ _ h => h) (Or.inl ⟨by rfl, ?y87⟩) (by assumption) ?r87
        case y87 =>
          intro wx hSx
          obtain ⟨p0, p1, p2, p3, p4, p5, p6, p7, p8, p9, p10⟩ := HBlk.eleven hSx.1; obtain ⟨q0, q1⟩ := two_cells hSx.2
          go_simp
          try with_reducible rfl
        try simp only [Act.put, List.setIfInBounds_toArray, List.set_cons_zero, List.set_cons_succ]
        refine wpAnyH_take (i := 8) (v := ?v88) (at_op rfl) (by kernel_rfl) (by kernel_rfl) (by kernel_rfl) (fun _ _ _ h => h) (Or.inl ⟨by rfl, ?y88⟩) (by assumption) ?r88
        case y88 =>
          intro wx hSx
          obtain ⟨p0, p1, p2, p3, p4, p5, p6, p7, p8, p9, p10⟩ := HBlk.eleven hSx.1; obtain ⟨q0, q1⟩ := two_cells hSx.2
          go_simp
          try with_reducible rfl
        try simp only [Act.put, List.setIfInBounds_toArray, List.set_cons_zero, List.set_cons_succ]
        refine wpAnyH_take (i := 9) (v := ?v89) (at_op rfl) (by kernel_rfl) (by kernel_rfl) (by kernel_rfl) (fun _ _ _ h => h) (Or.inl ⟨by rfl, ?y89⟩) (by assumption) ?r89
        case y89 =>
          intro wx hSx
          obtain ⟨p0, p1, p2, p3, p4, p5, p6, p7, p8, p9, p10⟩ := HBlk.eleven hSx.1; obtain ⟨q0, q1⟩ := two_cells hSx.2
          go_simp
          try with_reducible rfl
        try simp only [Act.put, List.setIfInBounds_toArray, List.set_cons_zero, List.set_cons_succ]
        refine wpAnyH_take (i := 10) (v := ?v90) (at_op rfl) (by kernel_rfl) (by kernel_rfl) (by kernel_rfl) (fun _ _ _ h => h) (Or.inl ⟨by rfl, ?y90⟩) (by assumption) ?r90
        case y90 =>
          intro wx hSx
          obtain ⟨p0, p1, p2, p3, p4, p5, p6, p7, p8, p9, p10⟩ := HBlk.eleven hSx.1; obtain ⟨q0, q1⟩ := two_cells hSx.2
          go_simp
          try with_reducible rfl
        try simp only [Act.put, List.setIfInBounds_toArray, List.set_cons_zero, List.set_cons_succ]
        refine wpAnyH_take (i := 11) (v := ?v91) (at_op rfl) (by kernel_rfl) (by kernel_rfl) (by kernel_rfl) (fun _ _ _ h => h) (Or.inl ⟨by rfl, ?y91⟩) (by assumption) ?r91
        case y91 =>
          intro wx hSx
          obtain ⟨p0, p1, p2, p3, p4, p5, p6, p7, p8, p9, p10⟩ := HBlk.eleven hSx.1; obtain ⟨q0, q1⟩ := two_cells hSx.2
          go_simp
          try with_reducible rfl
        try simp only [Act.put, List.setIfInBounds_toArray, List.set_cons_zero, List.set_cons_succ]
        refine wpAnyH_take (i := 12) (v := ?v92) (at_op rfl) (by kernel_rfl) (by kernel_rfl) (by kernel_rfl) (fun _ _ _ h => h) (Or.inl ⟨by rfl, ?y92⟩) (by assumption) ?r92
        case y92 =>
          intro wx hSx
          obtain ⟨p0, p1, p2, p3, p4, p5, p6, p7, p8, p9, p10⟩ := HBlk.eleven hSx.1; obtain ⟨q0, q1⟩ := two_cells hSx.2
          go_simp; try rw [hyif.out]
          try with_reducible rfl
        try simp only [Act.put, List.setIfInBounds_toArray, List.set_cons_zero, List.set_cons_succ]
        refine wpAnyH_take (i := 13) (v := ?v93) (at_op rfl) (by kernel_rfl) (by kernel_rfl) (by kernel_rfl) (fun _ _ _ h => h) (Or.inl ⟨by rfl, ?y93⟩) (by assumption) ?r93
        case y93 =>
          intro wx hSx
          obtain ⟨p0, p1, p2, p3, p4, p5, p6, p7, p8, p9, p10⟩ := HBlk.eleven hSx.1; obtain ⟨q0, q1⟩ := two_cells hSx.2
          go_simp
          try with_reducible rfl
        try simp only [Act.put, List.setIfInBounds_toArray, List.set_cons_zero, List.set_cons_succ]
        refine wpAnyH_take (i := 14) (v := undef) (at_op rfl) (by kernel_rfl) (by kernel_rfl) (by kernel_rfl) (fun _ _ _ h => h) (Or.inr ⟨by rfl, rfl⟩) (by assumption) ?_
        try simp only [Act.put, List.setIfInBounds_toArray, List.set_cons_zero, List.set_cons_succ]
        refine wpAnyH_take (i := 15) (v := undef) (at_op rfl) (by kernel_rfl) (by kernel_rfl) (by kernel_rfl) (fun _ _ _ h => h) (Or.inr ⟨by rfl, rfl⟩) (by assumption) ?_
        try simp only [Act.put, List.setIfInBounds_toArray, List.set_cons_zero, List.set_cons_succ]
        refine wpAnyH_take (i := 16) (v := undef) (at_op rfl) (by kernel_rfl) (by kernel_rfl) (by kernel_rfl) (fun _ _ _ h => h) (Or.inr ⟨by rfl, rfl⟩) (by assumption) ?_
        try simp only [Act.put, List.setIfInBounds_toArray, List.set_cons_zero, List.set_cons_succ]
        refine wpAnyH_take (i := 17) (v := undef) (at_op rfl) (by kernel_rfl) (by kernel_rfl) (by kernel_rfl) (fun _ _ _ h => h) (Or.inr ⟨by rfl, rfl⟩) (by assumption) ?_
        try simp only [Act.put, List.setIfInBounds_toArray, List.set_cons_zero, List.set_cons_succ]
        refine wpAnyH_take (i := 18) (v := undef) (at_op rfl) (by kernel_rfl) (by kernel_rfl) (by kernel_rfl) (fun _ _ _ h => h) (Or.inr ⟨by rfl, rfl⟩) (by assumption) ?_
        try simp only [Act.put, List.setIfInBounds_toArray, List.set_cons_zero, List.set_cons_succ]
        refine wpAnyH_take (i := 19) (v := undef) (at_op rfl) (by kernel_rfl) (by kernel_rfl) (by kernel_rfl) (fun _ _ _ h => h) (Or.inr ⟨by rfl, rfl⟩) (by assumption) ?_
        try simp only [Act.put, List.setIfInBounds_toArray, List.set_cons_zero, List.set_cons_succ]
        refine wpAnyH_take (i := 20) (v := undef) (at_op rfl) (by kernel_rfl) (by kernel_rfl) (by kernel_rfl) (fun _ _ _ h => h) (Or.inr ⟨by rfl, rfl⟩) (by assumption) ?_
        try simp only [Act.put, List.setIfInBounds_toArray, List.set_cons_zero, List.set_cons_succ]
        refine wpAnyH_take (i := 21) (v := ?v94) (at_op rfl) (by kernel_rfl) (by kernel_rfl) (by kernel_rfl) (fun _ _ _ h => h) (Or.inl ⟨by rfl, ?y94⟩) (by assumption) ?r94
        case y94 =>
          intro wx hSx
          obtain ⟨p0, p1, p2, p3, p4, p5, p6, p7, p8, p9, p10⟩ := HBlk.eleven hSx.1; obtain ⟨q0, q1⟩ := two_cells hSx.2
          go_simp
          try with_reducible rfl
        try simp only [Act.put, List.setIfInBounds_toArray, List.set_cons_zero, List.set_cons_succ]
        refine wpAnyH_take (i := 22) (v := ?v95) (at_op rfl) (by kernel_rfl) (by kernel_rfl) (by kernel_rfl) (fun _ _ _ h => h) (Or.inl ⟨by rfl, ?y95⟩) (by assumption) ?r95
        case y95 =>
          intro wx hSx
          obtain ⟨p0, p1, p2, p3, p4, p5, p6, p7, p8, p9, p10⟩ := HBlk.eleven hSx.1; obtain ⟨q0, q1⟩ := two_cells hSx.2
          go_simp
          try with_reducible rfl
        try simp only [Act.put, List.setIfInBounds_toArray, List.set_cons_zero, List.set_cons_succ]
        refine wpAnyH_done (by kernel_rfl) ?_ _
        have hbt : bq = false := hbq.out.symm.trans hyn
        subst hbt
        clear hbq
        go_wp2
        go_end0
        exact ⟨rfl, hH5, Out.of_below hb5⟩
end Go.Proofs.Ytllpgomloblfjaa
namespace Go.Proofs.Ytllpgomloblfjaa
open Go.RowKit

theorem SOwn.less {M M' : Kept} {lo hi : Nat} {w : World} {v : Value} {ps : List (StL × SV)} (h : SOwn M lo hi w v ps) (h1 : ∀ p ∈ M'.rows, p ∈ M.rows) (h2 : ∀ q ∈ M'.objs, q ∈ M.objs) : SOwn M' lo hi w v ps := ⟨h.outer, h.inner, fun p hp => h.more p (h1 p hp), fun q hq => h.keep q (h2 q hq)⟩
theorem HOwn.less {M M' : Kept} {lo hi : Nat} {w : World} {v : Value} {xs : List StL} (h : HOwn M lo hi w v xs) (h1 : ∀ p ∈ M'.rows, p ∈ M.rows) (h2 : ∀ q ∈ M'.objs, q ∈ M.objs) : HOwn M' lo hi w v xs := by
  obtain ⟨ps, k1, k2⟩ := h
  exact ⟨ps, k1.less h1 h2, k2⟩
theorem fresh_nil (rows : List (StL × SV)) (v : Value) : Fresh ⟨rows, []⟩ v := fun _ hq => by cases hq
theorem fresh_one (rows : List (StL × SV)) {X : Nat} {u v : Value} {s : Int} {T : TypeId} (h1 : u ≠ v) (h2 : Value.int .i64 s ≠ v) : Fresh ⟨rows, [(X, .cells #[u, .int .i64 s] T)]⟩ v := by
  intro q hq b j w hw hc
  obtain rfl := List.mem_singleton.1 hq
  unfold World.cell? at hc
  rw [hw] at hc
  simp only [Option.isSome_none, Bool.false_eq_true, if_false] at hc
  rcases j with _ | _ | j
  · exact h1 (by simpa using hc)
  · exact h2 (by simpa using hc)
  · simp at hc
theorem upF_len : ∀ (f : Nat) (l : List StL) (i : Nat), (upF f l i).length = l.length
  | 0, _, _ => rfl
  | f + 1, l, i => by
    unfold upF
    split
    · rw [upF_len f, swap_len]
    · rfl
theorem push_len (l : List StL) (x : StL) : (pushL l x).length = l.length + 1 := by unfold pushL; rw [upF_len]; simp
theorem openTo_len (x : Piece) (c : CostL) (vals : List Int) (h : List StL) : ∀ k, (openTo x c vals k h).length ≤ h.length + k
  | 0 => Nat.le_refl _
  | k + 1 => by
    have ih := openTo_len x c vals h k
    unfold openTo
    split
    · rw [push_len]; omega
    · omega
theorem openTo_yes {x : Piece} {c : CostL} {vals : List Int} {h : List StL} {k : Nat} (hp : pushOk x c (vals ++ [(k : Int)]) = true) : openTo x c vals (k + 1) h = pushL (openTo x c vals k h) ⟨vals ++ [(k : Int)], boundOf x (vals ++ [(k : Int)])⟩ := by rw [openTo, if_pos hp]
theorem openTo_no {x : Piece} {c : CostL} {vals : List Int} {h : List StL} {k : Nat} (hp : pushOk x c (vals ++ [(k : Int)]) = false) : openTo x c vals (k + 1) h = openTo x c vals k h := by rw [openTo, if_neg (by rw [hp]; decide)]
theorem valsN_bd {x : Piece} (hx : Right x) {n : Nat} (h : n < x.rules.length) : valsN x n ≤ 3 ∧ x.rules[n].values = ((valsN x n : Nat) : Int) := by
  unfold valsN
  rw [ruleAt_lt h]
  have := hx.rule n h
  omega
theorem bound_bd {x : Piece} (hx : Right x) {v : List Int} (hv : RightV x v) : 0 ≤ boundOf x v ∧ boundOf x v ≤ 1000 := by
  have h5 := costTo_bd hx hv v.length (Nat.le_refl _)
  have h6 := spanTo_bd (v := v) hx x.spans.length (Nat.le_refl _)
  have h7 := hv.len
  have h8 := hx.rules
  have h9 := hx.spans
  unfold boundOf
  omega
theorem HOwn.drewN' {M : Kept} {lo hi : Nat} {w : World} {v : Value} {xs : List StL} (h : HOwn M lo hi w v xs) (n : Nat) : HOwn M lo hi (w.drewN n) v xs := by
  obtain ⟨ps, k1, k2⟩ := h
  exact ⟨ps, k1.drewN n, k2⟩
set_option maxHeartbeats 4000000 in
set_option maxRecDepth 100000 in
theorem open_impl (x : Piece) (xv best : List Int) (ra ca sa ta xa : Option Addr) (rc cc sc tc xc lo hi H : Nat) (wd pops xs : Int) (bv : SV) (hv : Value) (c : CostL) (heap : List StL) (w : World) (hp : PFour x ra rc ca cc sa sc ta tc lo hi w) (hh : hi ≤ H) (hx : Right x) (hxr : RightV x xv) (hxl : xv.length < x.rules.length) (hhl : heap.length ≤ 20000)
    (hH : HBlk x ra rc ca cc sa sc ta tc H wd bv.v hv c pops w) (hS : HOwn ⟨[((⟨best, 0⟩ : StL), bv)], []⟩ (H + 1) w.heap.size w hv heap) (hO : Own intF 3 (H + 1) w.heap.size w (.slice xa xv.length xc) xv) :
    Calls Try.prog 103 #[.pointer (some ⟨H, 0, none⟩), .agg #[.slice xa xv.length xc, .int .i64 xs]] w fun e w' => e = .returned (.tuple #[]) ∧ ∃ hv', HBlk x ra rc ca cc sa sc ta tc H wd bv.v hv' c pops w' ∧ HOwn ⟨[((⟨best, 0⟩ : StL), bv)], []⟩ (H + 1) w'.heap.size w' hv' (openL x c xv heap) ∧ Below H w w' := by
  obtain ⟨i0, hi0, hz0, hz1, hz2⟩ := info_parts Try.infoInt1
  have hHl := hH.lt
  obtain ⟨hr, hc, hsp, ht⟩ := id hp
  obtain ⟨hrl, hr5⟩ := at_rule hr
  obtain ⟨hv1, hv2⟩ := valsN_bd hx hxl
  obtain ⟨N, hN⟩ : ∃ N, Hid (valsN x xv.length = N) := ⟨_, rfl⟩
  rw [hN.out] at hv1 hv2
  have HPP := Lib.hid (fun (w2 : World) (h2 : Below H w w2) => hp.below h2 hh)
  have hX0 := heap_alloc_new w (.cells #[.slice xa xv.length xc, .int .i64 xs] 96)
  have hbX : Below w.heap.size w (w.alloc (.cells #[.slice xa xv.length xc, .int .i64 xs] 96)) := (Below.refl _ _).alloc (Nat.le_refl _) _
  have hsX : w.heap.size < (w.alloc (.cells #[.slice xa xv.length xc, .int .i64 xs] 96)).heap.size := by simp
  have HFN : Hid (∀ vals : List Int, ∀ b n k, w.heap.size < b → vals = vals → Fresh ⟨[((⟨best, 0⟩ : StL), bv), ((⟨xv, 0⟩ : StL), ((xa, xv.length, xc) : SV))], [(w.heap.size, .cells #[.slice xa xv.length xc, .int .i64 xs] 96)]⟩ (.slice (some ⟨b, 0, none⟩) n k)) := fun _ b n k hb _ => fresh_one _ (fun e => by
    injection e with e1 _ _
    subst e1
    have := (hO.below_heap b rfl).2.2
    omega) (fun e => by cases e)
  go_enter Try.func103, Try.ntmps103
  go_wp2_with fail
  generalize w.alloc (.cells #[.slice xa xv.length xc, .int .i64 xs] 96) = w1 at *
  have hS1 : HOwn ⟨[((⟨best, 0⟩ : StL), bv), ((⟨xv, 0⟩ : StL), ((xa, xv.length, xc) : SV))], [(w.heap.size, .cells #[.slice xa xv.length xc, .int .i64 xs] 96)]⟩ (H + 1) w1.heap.size w1 hv heap := by
    obtain ⟨ps, k1, k2⟩ := hS
    have k3 := (k1.below hbX (Nat.le_refl _)).wide (Nat.le_refl _) (Nat.le_of_lt hsX)
    have k4 := (hO.below hbX (Nat.le_refl _)).wide (Nat.le_refl _) (Nat.le_of_lt hsX)
    refine ⟨ps, ⟨k3.outer, k3.inner, fun p hp => ?_, fun q hq => ?_⟩, k2⟩
    · rcases List.mem_cons.1 hp with h | h
      · exact k3.more p (by rw [h]; exact List.mem_singleton.2 rfl)
      · rw [List.mem_singleton.1 h]; exact k4
    · rw [List.mem_singleton.1 hq]
      refine ⟨by omega, hsX, hX0, fun e => ?_⟩
      have := (k1.outer.below_heap _ e).2.2
      exact Nat.lt_irrefl _ this
  have hH1 := hH.below hbX
  have hb1 : Below H w w1 := hbX.mono (Nat.le_of_lt hHl)
  obtain ⟨p0, p1, p2, p3, p4, p5, p6, p7, p8, p9, p10⟩ := hH1.eleven
  obtain ⟨x0, x1⟩ := two_cells hX0
  obtain ⟨b, off, rfl, hlo, hhi, c0, -⟩ := hr5 _ hxl
  have d0 := (hbX.cell (p := ⟨b, _, none⟩) (by show b < _; omega)).trans c0
  rw [hv2] at d0
  have hxi : (xv.length : Int) < (x.rules.length : Int) := by omega
  have hxz : (0 : Int) ≤ (xv.length : Int) := by omega
  clear hr5 c0 hS hO hH hv2 hp hr hc hsp ht
  go_wp2_with fail
  go_quiet (fail)
  clear p0 p1 p2 p3 p4 p5 p6 p7 p8 p9 p10 x0 x1 d0
  have hS2 := hS1.drewN' nq
  have hH2 : HBlk x (some ⟨b, off, none⟩) rc ca cc sa sc ta tc H wd bv.v hv c pops (w1.drewN nq) := hH1
  have hb2 := blw_drewN hb1 nq
  have hs2 : w1.heap.size ≤ (w1.drewN nq).heap.size := Nat.le_refl _
  replace hS2 : HOwn ⟨[((⟨best, 0⟩ : StL), bv), ((⟨xv, 0⟩ : StL), ((xa, xv.length, xc) : SV))], [(w.heap.size, .cells #[.slice xa xv.length xc, .int .i64 xs] 96)]⟩ (H + 1) (w1.drewN nq).heap.size (w1.drewN nq) hv heap := hS2
  clear hS1 hH1 hb1 hX0 hbX
  generalize w1.drewN nq = w2 at *
  go_wp2_with fail
  go_loopw [18] (fun i wr => ∃ (k : Nat) (hv' : Value) (cur : List StL), k ≤ N ∧ i = .int .i64 k ∧ Hid (cur = openTo x c xv k heap) ∧ HBlk x (some ⟨b, off, none⟩) rc ca cc sa sc ta tc H wd bv.v hv' c pops wr ∧ HOwn ⟨[((⟨best, 0⟩ : StL), bv), ((⟨xv, 0⟩ : StL), ((xa, xv.length, xc) : SV))], [(w.heap.size, .cells #[.slice xa xv.length xc, .int .i64 xs] 96)]⟩ (H + 1) wr.heap.size wr hv' cur ∧ Below H w wr ∧ w.heap.size < wr.heap.size) (fun i _ => N - (intOf i).toNat)
  case atStart => exact ⟨0, hv, heap, Nat.zero_le _, rfl, rfl, hH2, hS2, hb2, by omega⟩
  case round =>
    clear hS2 hH2 hb2
    obtain ⟨k, hv', cur, hk, rfl, HCU, hHr, hSr, hbr, hsr⟩ := hrel
    have hHlr := hHr.lt
    by_cases hlt : k < N
    · have hki : (k : Int) < (N : Int) := by omega
      have hkz : (0 : Int) ≤ (k : Int) := by omega
      have HRV : Hid (RightV x (xv ++ [(k : Int)])) := fit_snoc hx hxr hxl (by rw [hN.out]; exact hlt)
      have HYE : Hid (pushOk x c (xv ++ [(k : Int)]) = true → pushL cur ⟨xv ++ [(k : Int)], boundOf x (xv ++ [(k : Int)])⟩ = openTo x c xv (k + 1) heap) := fun h => by rw [openTo_yes h, HCU.out]
      have HNO : Hid (pushOk x c (xv ++ [(k : Int)]) = false → cur = openTo x c xv (k + 1) heap) := fun h => by rw [openTo_no h, HCU.out]
      have hcl : cur.length ≤ 20003 := by have := openTo_len x c xv heap k; rw [HCU.out]; omega
      obtain ⟨hbd1, hbd2⟩ := bound_bd hx HRV.out
      obtain ⟨ps, hSp, hq⟩ := hSr
      have HQ := Lib.hid hq
      have hql : ps.length ≤ 20003 := by have e := congrArg List.length hq; rw [List.length_map] at e; omega
      clear hq HCU
      have hXr := (hSp.keep _ (List.mem_singleton.2 rfl)).2.2.1
      have hOx := hSp.more ((⟨xv, 0⟩ : StL), ((xa, xv.length, xc) : SV)) (List.mem_cons_of_mem _ (List.mem_singleton.2 rfl))
      have hxvl : xv.length ≤ 8 := by have := hx.rules; omega
      obtain ⟨x0, x1⟩ := two_cells hXr
      have hOx2 : Own intF 3 (H + 1) wr.heap.size wr (.slice xa xv.length xc) xv := hOx
      clear hOx
      go_wp2_with fail
      refine (cloneInt_any hOx2.rd (Nat.le_refl _) (by omega)).mono ?_
      rintro e w3 ⟨u3, rfl, hb3, hO3⟩
      have hs3 := hb3.size
      go_wp2_with (at_builtin; refine wp_app1 (F := intF) (P := Try.prog) (y := (k : Int)) rfl (.tmp 23) (.tmp 25) 32 rfl Try.underlying32 hi0 hz0 hz1 hz2 rfl (by decide) rfl (hO3.alloc _) w3.heap.size rfl (heap_alloc_new _ _) rfl (by omega) (by omega) (by simp; omega) ?_; intro v4 w4 hO4 hb4; have hB4 : Below wr.heap.size wr w4 := hb3.trans (blw_al1 hb4 hs3); have hH4 := hHr.below hB4; obtain ⟨p0, p1, p2, p3, p4, p5, p6, p7, p8, p9, p10⟩ := hH4.eleven)
      obtain ⟨va, vc, rfl, -, -, -⟩ := hO4.form
      have hvo : ∃ vb, va = some ⟨vb, 0, none⟩ ∧ w.heap.size < vb := by
        obtain ⟨G, c', e, g1, -, -, -⟩ := own_some hO4 (by simp)
        injection e with e1 _ _
        exact ⟨G, e1, by omega⟩
      obtain ⟨vb, rfl, hvb⟩ := hvo
      generalize hvs : xv ++ [(k : Int)] = vs at *
      clear hvs
      have hs4 := hB4.size
      have hBw4 := hbr.trans (hB4.mono (Nat.le_of_lt hHlr))
      have HBN := Lib.hid (bound_impl x vs _ ca sa ta (some ⟨vb, 0, none⟩) rc cc sc tc vc lo hi wr.heap.size w4.heap.size w4 (HPP.out w4 hBw4) (by omega) hO4.rd (Nat.le_refl _) hx HRV.out)
      unfold Piece.v at HBN
      refine HBN.out.mono ?_
      clear HBN
      rintro e w5 ⟨rfl, hb5⟩
      have hs5 := hb5.size
      have hB5 : Below wr.heap.size wr w5 := hB4.trans (hb5.mono hs4)
      have hBw5 := hbr.trans (hB5.mono (Nat.le_of_lt hHlr))
      have hO5 := (hO4.below hb5 (Nat.le_refl _)).wide (Nat.le_refl _) hs5
      have HTM := Lib.hid (tiesMay_impl x vs _ ca sa ta rc cc sc tc (.slice (some ⟨vb, 0, none⟩) vs.length vc) lo hi wr.heap.size w5.heap.size w5 (HPP.out w5 hBw5) (by omega) hO5.rd (Nat.le_refl _))
      unfold Piece.v at HTM
      clear p0 p1 p2 p3 p4 p5 p6 p7 p8 p9 p10
      obtain ⟨p0, p1, p2, p3, p4, p5, p6, p7, p8, p9, p10⟩ := (hHr.below hB5).eleven
      go_wp2_with fail
      refine HTM.out.mono ?_
      clear HTM
      rintro e w6 ⟨rfl, hb6⟩
      have hs6 := hb6.size
      have hB6 : Below wr.heap.size wr w6 := hB5.trans (hb6.mono (Nat.le_trans hs4 hs5))
      have hBw6 := hbr.trans (hB6.mono (Nat.le_of_lt hHlr))
      have hO6 := (hO5.below hb6 (Nat.le_refl _)).wide (Nat.le_refl _) hs6
      have hH6 := hHr.below hB6
      have hS6 := (hSp.below hB6 (Nat.le_refl _)).wide (Nat.le_refl _) hB6.size
      clear p0 p1 p2 p3 p4 p5 p6 p7 p8 p9 p10
      obtain ⟨p0, p1, p2, p3, p4, p5, p6, p7, p8, p9, p10⟩ := hH6.eleven
      have hf9 := hH6.frz 9
      obtain ⟨bd, hbd⟩ : ∃ bd, Hid (boundOf x vs = bd) := ⟨_, rfl⟩
      rw [hbd.out] at hbd1 hbd2 HYE
      rw [hbd.out]
      have HPK : Hid (pushOk x c vs = (tiesMay x.ties vs && !(decide (c.over = 0) && decide (c.sum < bd)))) := by show _ = _; rw [← hbd.out]; rfl
      obtain ⟨tm, htm⟩ : ∃ tm, Hid (tiesMay x.ties vs = tm) := ⟨_, rfl⟩
      rw [htm.out] at HPK
      rw [htm.out]
      have hgo : w.heap.size < w6.heap.size := by omega
      clear hHr hbr hHlr hSp hXr x0 x1 hOx2 hO3 hO4 hO5 hb3 hb4 hb5 hb6 hH4 hB4 hB5 hBw4 hBw5
      cases tm with
      | false =>
        have HF := Lib.hid (HNO.out (by rw [HPK.out]; rfl))
        clear HYE HNO HPK
        go_wp2
        go_roundw
        case rel => exact ⟨k + 1, hv', cur, by omega, by go_num, HF.out, hH6, ⟨ps, hS6, HQ.out⟩, hBw6, hgo⟩
        case measure => simp [intOf]; omega
      | true =>
        by_cases hz0 : c.over = 0 ∧ c.sum < bd
        · obtain ⟨hz1, hz2⟩ := hz0
          have HF := Lib.hid (HNO.out (by rw [HPK.out, decide_eq_true hz1, decide_eq_true hz2]; rfl))
          have hz3 : ((c.over : Int) == 0) = true := beq_iff_eq.2 hz1
          clear HYE HNO HPK hz1
          go_wp2
          go_roundw
          case rel => exact ⟨k + 1, hv', cur, by omega, by go_num, HF.out, hH6, ⟨ps, hS6, HQ.out⟩, hBw6, hgo⟩
          case measure => simp [intOf]; omega
        · have HF := Lib.hid (HYE.out (by
            rw [HPK.out]
            by_cases h1 : c.over = 0
            · rw [decide_eq_false (fun h2 => hz0 ⟨h1, h2⟩)]; simp
            · rw [decide_eq_false h1]; rfl))
          have HP := Lib.hid (push_impl ps ((⟨vs, bd⟩ : StL), ((some ⟨vb, 0, none⟩, vs.length, vc) : SV)) hv' (H + 1) w6.heap.size w6 hS6 (hO6.wide (by omega) (Nat.le_refl _)) (HFN.out vs vb _ _ hvb trivial) (by omega) (Nat.le_refl _) (by omega))
          rw [HQ.out] at HP
          clear HYE HNO HPK hS6 hO6
          by_cases hz1 : c.over = 0
          · have hz3 : ((c.over : Int) == 0) = true := beq_iff_eq.2 hz1
            have hz2 : ¬ c.sum < bd := fun h2 => hz0 ⟨hz1, h2⟩
            clear hz0 hz1
            go_wp2_with fail
            refine HP.out.mono ?_
            clear HP
            rintro e w7 ⟨u7, rfl, hO7, hb7⟩
            obtain ⟨ua, uc, rfl, -, -⟩ := hO7.form
            obtain ⟨zs, hzs⟩ : ∃ zs, Hid (pushL cur ⟨vs, bd⟩ = zs) := ⟨_, rfl⟩
            rw [hzs.out] at hO7 HF
            rw [hzs.out]
            have hs7 := hb7.size
            have q9 := (hb7.cell (p := ⟨H, 9, none⟩) (Nat.lt_succ_self H)).trans p9
            have f9 := (hb7.frozen (p := ⟨H, 9, none⟩) (Nat.lt_succ_self H)).trans hf9
            have hFA := Lib.hid ((hH6.belowN hb7 (Nat.lt_succ_self H)).setHeap (.slice ua zs.length uc))
            have hFB : Hid (HOwn ⟨[((⟨best, 0⟩ : StL), bv), ((⟨xv, 0⟩ : StL), ((xa, xv.length, xc) : SV))], [(w.heap.size, .cells #[.slice xa xv.length xc, .int .i64 xs] 96)]⟩ (H + 1) (w7.setCell ⟨H, 9, none⟩ (.slice ua zs.length uc)).heap.size (w7.setCell ⟨H, 9, none⟩ (.slice ua zs.length uc)) (.slice ua zs.length uc) zs) := (hO7.same (same_storeAll (g := H) (.inl (Nat.lt_succ_self H)) [.slice ua zs.length uc] 9 w7)).wide (Nat.le_refl _) (by simp [World.setCell])
            have hFC : Hid (Below H w (w7.setCell ⟨H, 9, none⟩ (.slice ua zs.length uc))) := (hBw6.trans (hb7.mono (Nat.le_succ H))).setCell (p := ⟨H, 9, none⟩) (Nat.le_refl _) _
            have hFD : Hid (w.heap.size < (w7.setCell ⟨H, 9, none⟩ (.slice ua zs.length uc)).heap.size) := by show _ < _; simp [World.setCell]; omega
            clear hO7 hb7 hH6 hBw6
            go_wp2
            go_roundw
            case rel => exact ⟨k + 1, _, zs, by omega, by go_num, HF.out, hFA.out, hFB.out, hFC.out, hFD.out⟩
            case measure => simp [intOf]; omega
          · have hz3 : ((c.over : Int) == 0) = false := beq_eq_false_iff_ne.2 hz1
            clear hz0 hz1
            go_wp2_with fail
            refine HP.out.mono ?_
            clear HP
            rintro e w7 ⟨u7, rfl, hO7, hb7⟩
            obtain ⟨ua, uc, rfl, -, -⟩ := hO7.form
            obtain ⟨zs, hzs⟩ : ∃ zs, Hid (pushL cur ⟨vs, bd⟩ = zs) := ⟨_, rfl⟩
            rw [hzs.out] at hO7 HF
            rw [hzs.out]
            have hs7 := hb7.size
            have q9 := (hb7.cell (p := ⟨H, 9, none⟩) (Nat.lt_succ_self H)).trans p9
            have f9 := (hb7.frozen (p := ⟨H, 9, none⟩) (Nat.lt_succ_self H)).trans hf9
            have hFA := Lib.hid ((hH6.belowN hb7 (Nat.lt_succ_self H)).setHeap (.slice ua zs.length uc))
            have hFB : Hid (HOwn ⟨[((⟨best, 0⟩ : StL), bv), ((⟨xv, 0⟩ : StL), ((xa, xv.length, xc) : SV))], [(w.heap.size, .cells #[.slice xa xv.length xc, .int .i64 xs] 96)]⟩ (H + 1) (w7.setCell ⟨H, 9, none⟩ (.slice ua zs.length uc)).heap.size (w7.setCell ⟨H, 9, none⟩ (.slice ua zs.length uc)) (.slice ua zs.length uc) zs) := (hO7.same (same_storeAll (g := H) (.inl (Nat.lt_succ_self H)) [.slice ua zs.length uc] 9 w7)).wide (Nat.le_refl _) (by simp [World.setCell])
            have hFC : Hid (Below H w (w7.setCell ⟨H, 9, none⟩ (.slice ua zs.length uc))) := (hBw6.trans (hb7.mono (Nat.le_succ H))).setCell (p := ⟨H, 9, none⟩) (Nat.le_refl _) _
            have hFD : Hid (w.heap.size < (w7.setCell ⟨H, 9, none⟩ (.slice ua zs.length uc)).heap.size) := by show _ < _; simp [World.setCell]; omega
            clear hO7 hb7 hH6 hBw6
            go_wp2
            go_roundw
            case rel => exact ⟨k + 1, _, zs, by omega, by go_num, HF.out, hFA.out, hFB.out, hFC.out, hFD.out⟩
            case measure => simp [intOf]; omega
    · obtain rfl : k = N := by omega
      have HF : Hid (cur = openL x c xv heap) := by show _ = _; rw [HCU.out, ← hN.out]; rfl
      have hSF := hSr.less (M' := ⟨[((⟨best, 0⟩ : StL), bv)], []⟩) (fun p hp => by rw [List.mem_singleton.1 hp]; exact List.mem_cons_self ..) (fun q hq => by cases hq)
      clear hSr HCU
      go_wp2
      go_end0
      exact ⟨rfl, _, hHr, by rw [← HF.out]; exact hSF, hbr⟩
end Go.Proofs.Ytllpgomloblfjaa
namespace Go.Proofs.Ytllpgomloblfjaa
open Go.RowKit

theorem HOwn.drew' {M : Kept} {lo hi : Nat} {w : World} {v : Value} {xs : List StL} (h : HOwn M lo hi w v xs) : HOwn M lo hi w.drew v xs := by
  obtain ⟨ps, k1, k2⟩ := h
  exact ⟨ps, k1.drew, k2⟩
theorem own_gone {α : Type} {F : Flat α} {T lo hi : Nat} {w : World} {v : Value} {xs : List α} (h : Own F T lo hi w v xs) (H : Nat) (hH : H < lo) (cs : List Value) (o : Nat) : Own F T lo hi (storeAll H cs o w) v xs := h.same (same_storeAll (.inl hH) cs o w)
theorem own_st1 {lo : Nat} {w : World} (T : TypeId) (h : lo ≤ w.heap.size) : Own stF T lo (w.alloc (.cells #[.slice none 0 0, .int .i64 0] T)).heap.size (w.alloc (.cells #[.slice none 0 0, .int .i64 0] T)) (.slice (some ⟨w.heap.size, 0, none⟩) 1 1) [((⟨[], 0⟩ : StL), ((none, 0, 0) : SV))] :=
  ⟨⟨rfl, .inr ⟨w.heap.size, 1, #[.slice none 0 0, .int .i64 0], rfl, h, heap_alloc_new _ _, Nat.le_refl _, by unfold maxLen; omega, rfl, rfl⟩⟩, fun g hg => by
    obtain rfl : w.heap.size = g := by simpa [Value.ownBlock] using hg
    simp⟩
/-- what run leaves -/
def RunPost (x : Piece) (ra : Option Addr) (rc : Nat) (ca : Option Addr) (cc : Nat) (sa : Option Addr) (sc : Nat) (ta : Option Addr) (tc H : Nat) (wd : Int) (w : World) (goal : HuntR) (e : Ending) (w' : World) : Prop :=
  e = .returned (.int .i64 goal.state) ∧ ∃ (bv : SV) (hv : Value) (c : CostL), HBlk x ra rc ca cc sa sc ta tc H wd bv.v hv c goal.pops w' ∧ Own intF 3 (H + 1) w'.heap.size w' bv.v goal.best ∧ Below H w w'
set_option maxHeartbeats 8000000 in
set_option maxRecDepth 100000 in
theorem run_impl (x : Piece) (ra ca sa ta : Option Addr) (rc cc sc tc lo hi H : Nat) (wd budget : Int) (w : World) (hp : PFour x ra rc ca cc sa sc ta tc lo hi w) (hh : hi ≤ H) (hx : Right x) (hz : Sized x)
    (hH : HBlk x ra rc ca cc sa sc ta tc H wd (.slice none 0 0) (.slice none 0 0) ⟨0, 0⟩ 0 w) :
    Calls Try.prog 56 #[.pointer (some ⟨H, 0, none⟩), .int .i64 budget] w (RunPost x ra rc ca cc sa sc ta tc H wd w (huntL x wd budget)) := by
  have hHl := hH.lt
  have HST := Lib.hid (hunt_start hx hz wd budget)
  obtain ⟨goal, hgoal⟩ : ∃ goal, Hid (huntL x wd budget = goal) := ⟨_, rfl⟩
  rw [hgoal.out] at HST
  rw [hgoal.out]
  have HAF := Lib.hid (all_fit hx)
  have HPP := Lib.hid (fun (w2 : World) (h2 : Below H w w2) => hp.below h2 hh)
  obtain ⟨p0, p1, p2, p3, p4, p5, p6, p7, p8, p9, p10⟩ := hH.eleven
  have f6 := hH.frz 6
  have HAS := Lib.hid (allSplit_impl x ra ca sa ta rc cc sc tc lo hi w hp (by omega) hx)
  unfold Piece.v at HAS
  go_enter Try.func56, Try.ntmps56
  go_wp2_with fail
  refine HAS.out.mono ?_
  clear HAS
  rintro e w1 ⟨u1, rfl, hb1, hO1⟩
  obtain ⟨ba, bc, rfl, -, -, -⟩ := hO1.form
  have hs1 := hb1.size
  have hH1 := hH.below hb1
  replace p6 := (hb1.cell (p := ⟨H, 6, none⟩) hHl).trans p6
  replace f6 := (hb1.frozen (p := ⟨H, 6, none⟩) hHl).trans f6
  generalize hal : allL x = al at *
  clear hal p0 p1 p2 p3 p4 p5 p7 p8 p9 p10
  go_upto_region 2 with fail
  have hH2 := hH1.setBest (.slice ba al.length bc)
  have hO2 : Own intF 3 (H + 1) w1.heap.size (w1.setCell ⟨H, 6, none⟩ (.slice ba al.length bc)) (.slice ba al.length bc) al := own_gone (hO1.wide (by omega) (Nat.le_refl _)) H (Nat.lt_succ_self H) [.slice ba al.length bc] 6
  have hb2 : Below H w (w1.setCell ⟨H, 6, none⟩ (.slice ba al.length bc)) := (hb1.mono (Nat.le_of_lt hHl)).setCell (p := ⟨H, 6, none⟩) (Nat.le_refl _) _
  have hs2 : w1.heap.size = (w1.setCell ⟨H, 6, none⟩ (.slice ba al.length bc)).heap.size := by simp [World.setCell]
  rw [hs2] at hO2
  clear hs2 p6 f6 hH1 hO1 hb1 hH
  generalize w1.setCell ⟨H, 6, none⟩ (.slice ba al.length bc) = w2 at *
  have HCO := Lib.hid (fun (w3 : World) (h3 : Below w2.heap.size w2 w3) => costOf_impl x al ra ca sa ta ba rc cc sc tc bc lo hi (H + 1) w2.heap.size wd w3 (HPP.out w3 (hb2.trans (h3.mono (Nat.le_of_lt hH2.lt)))) (by have := h3.size; have := hH2.lt; omega) (hO2.rd.below h3 (Nat.le_refl _)) h3.size hx HAF.out.1 HAF.out.2 hz)
  unfold Piece.v at HCO
  go_wp2_with fail
  have hHd : HBlk x ra rc ca cc sa sc ta tc H wd (.slice ba al.length bc) (.slice none 0 0) ⟨0, 0⟩ 0 w2.drew := hH2
  obtain ⟨p0, p1, p2, p3, p4, p5, p6, -, -, -, -⟩ := hHd.eleven
  have hbd : Below w2.heap.size w2 w2.drew := (Below.refl _ _).drew
  refine wp_region_held_drew (S := fun w' => w'.cell? ⟨H, 0, none⟩ = some (.int .i64 x.indent) ∧ w'.cell? ⟨H, 1, none⟩ = some (.slice ra x.rules.length rc) ∧ w'.cell? ⟨H, 2, none⟩ = some (.slice ca x.chunks.length cc) ∧ w'.cell? ⟨H, 3, none⟩ = some (.slice sa x.spans.length sc) ∧ w'.cell? ⟨H, 4, none⟩ = some (.slice ta x.ties.length tc) ∧ w'.cell? ⟨H, 5, none⟩ = some (.int .i64 wd) ∧ w'.cell? ⟨H, 6, none⟩ = some (.slice ba al.length bc)) (by kernel_rfl) ?_ (fun hHeld => ?_)
  · exact ⟨p0, p1, p2, p3, p4, p5, p6⟩
  clear p0 p1 p2 p3 p4 p5 p6
  generalize w2.drew = wD at *
  refine wpAnyH_take (i := 0) (v := ?v96) (at_op rfl) (by kernel_rfl) (by kernel_rfl) (by kernel_rfl) (fun _ _ _ h => h) (Or.inl ⟨by rfl, ?y96⟩) (by assumption) ?r96
  case y96 =>
    intro wx hSx
    go_simp
    try with_reducible rfl
  try simp only [Act.put, List.setIfInBounds_toArray, List.set_cons_zero, List.set_cons_succ]
  refine wpAnyH_take (i := 1) (v := ?v97) (at_op rfl) (by kernel_rfl) (by kernel_rfl) (by kernel_rfl) (fun _ _ _ h => h) (Or.inl ⟨by rfl, ?y97⟩) (by assumption) ?r97
  case y97 =>
    intro wx hSx
    go_simp
    try with_reducible rfl
  try simp only [Act.put, List.setIfInBounds_toArray, List.set_cons_zero, List.set_cons_succ]
  refine wpAnyH_take (i := 2) (v := ?v98) (at_op rfl) (by kernel_rfl) (by kernel_rfl) (by kernel_rfl) (fun _ _ _ h => h) (Or.inl ⟨by rfl, ?y98⟩) (by assumption) ?r98
  case y98 =>
    intro wx hSx
    go_simp
    try with_reducible rfl
  try simp only [Act.put, List.setIfInBounds_toArray, List.set_cons_zero, List.set_cons_succ]
  refine wpAnyH_take (i := 3) (v := ?v99) (at_op rfl) (by kernel_rfl) (by kernel_rfl) (by kernel_rfl) (fun _ _ _ h => h) (Or.inl ⟨by rfl, ?y99⟩) (by assumption) ?r99
  case y99 =>
    intro wx hSx
    go_simp
    try with_reducible rfl
  try simp only [Act.put, List.setIfInBounds_toArray, List.set_cons_zero, List.set_cons_succ]
  refine wpAnyH_take (i := 4) (v := ?v100) (at_op rfl) (by kernel_rfl) (by kernel_rfl) (by kernel_rfl) (fun _ _ _ h => h) (Or.inl ⟨by rfl, ?y100⟩) (by assumption) ?r100
  case y100 =>
    intro wx hSx
    go_simp
    try with_reducible rfl
  try simp only [Act.put, List.setIfInBounds_toArray, List.set_cons_zero, List.set_cons_succ]
  refine wpAnyH_take (i := 5) (v := ?v101) (at_op rfl) (by kernel_rfl) (by kernel_rfl) (by kernel_rfl) (fun _ _ _ h => h) (Or.inl ⟨by rfl, ?y101⟩) (by assumption) ?r101
  case y101 =>
    intro wx hSx
    go_simp
    try with_reducible rfl
  try simp only [Act.put, List.setIfInBounds_toArray, List.set_cons_zero, List.set_cons_succ]
  refine wpAnyH_take (i := 6) (v := ?v102) (at_op rfl) (by kernel_rfl) (by kernel_rfl) (by kernel_rfl) (fun _ _ _ h => h) (Or.inl ⟨by rfl, ?y102⟩) (by assumption) ?r102
  case y102 =>
    intro wx hSx
    go_simp
    try with_reducible rfl
  try simp only [Act.put, List.setIfInBounds_toArray, List.set_cons_zero, List.set_cons_succ]
  refine wpAnyH_take (i := 7) (v := ?v103) (at_op rfl) (by kernel_rfl) (by kernel_rfl) (by kernel_rfl) (fun _ _ _ h => h) (Or.inl ⟨by rfl, ?y103⟩) (by assumption) ?r103
  case y103 =>
    intro wx hSx
    go_simp
    try with_reducible rfl
  try simp only [Act.put, List.setIfInBounds_toArray, List.set_cons_zero, List.set_cons_succ]
  refine wpAnyH_take (i := 8) (v := ?v104) (at_op rfl) (by kernel_rfl) (by kernel_rfl) (by kernel_rfl) (fun _ _ _ h => h) (Or.inl ⟨by rfl, ?y104⟩) (by assumption) ?r104
  case y104 =>
    intro wx hSx
    go_simp
    try with_reducible rfl
  try simp only [Act.put, List.setIfInBounds_toArray, List.set_cons_zero, List.set_cons_succ]
  refine wpAnyH_take (i := 9) (v := ?v105) (at_op rfl) (by kernel_rfl) (by kernel_rfl) (by kernel_rfl) (fun _ _ _ h => h) (Or.inl ⟨by rfl, ?y105⟩) (by assumption) ?r105
  case y105 =>
    intro wx hSx
    go_simp
    try with_reducible rfl
  try simp only [Act.put, List.setIfInBounds_toArray, List.set_cons_zero, List.set_cons_succ]
  refine wpAnyH_take (i := 10) (v := ?v106) (at_op rfl) (by kernel_rfl) (by kernel_rfl) (by kernel_rfl) (fun _ _ _ h => h) (Or.inl ⟨by rfl, ?y106⟩) (by assumption) ?r106
  case y106 =>
    intro wx hSx
    go_simp
    try with_reducible rfl
  try simp only [Act.put, List.setIfInBounds_toArray, List.set_cons_zero, List.set_cons_succ]
  refine wpAnyH_take (i := 11) (v := ?v107) (at_op rfl) (by kernel_rfl) (by kernel_rfl) (by kernel_rfl) (fun _ _ _ h => h) (Or.inl ⟨by rfl, ?y107⟩) (by assumption) ?r107
  case y107 =>
    intro wx hSx
    go_simp
    try with_reducible rfl
  try simp only [Act.put, List.setIfInBounds_toArray, List.set_cons_zero, List.set_cons_succ]
  refine wpAnyH_take (i := 12) (v := ?v108) (at_op rfl) (by kernel_rfl) (by kernel_rfl) (by kernel_rfl) (fun _ _ _ h => h) (Or.inl ⟨by rfl, ?y108⟩) (by assumption) ?r108
  case y108 =>
    intro wx hSx
    go_simp
    try with_reducible rfl
  try simp only [Act.put, List.setIfInBounds_toArray, List.set_cons_zero, List.set_cons_succ]
  refine wpAnyH_ready (rs := [13]) (by kernel_rfl) (by simp) ?_
  refine AllReadyH.cons (at_op rfl) (fun K hK => ?_) AllReadyH.nil
  go_simp
  refine (HCO.out _ hbd).mono ?_
  clear HCO
  rintro e w3 ⟨rfl, hb3⟩
  have hH3 := hHd.below hb3
  obtain ⟨p0, p1, p2, p3, p4, p5, p6, p7, p8, -, -⟩ := hH3.eleven
  have f7 := hH3.frz 7
  have f8 := hH3.frz 8
  have hbE := hbd.trans (hb3.mono hbd.size)
  go_wp2_with fail
  refine hK.out _ _ ⟨p0, p1, p2, p3, p4, p5, p6⟩ (fun _ => ?_)
  clear hK K
  try simp only [Act.put, List.setIfInBounds_toArray, List.set_cons_zero, List.set_cons_succ]
  refine wpAnyH_take (i := 14) (v := ?v109) (at_op rfl) (by kernel_rfl) (by kernel_rfl) (by kernel_rfl) (fun _ _ _ h => h) (Or.inl ⟨by rfl, ?y109⟩) (by assumption) ?r109
  case y109 =>
    intro wx hSx
    go_simp
    try with_reducible rfl
  try simp only [Act.put, List.setIfInBounds_toArray, List.set_cons_zero, List.set_cons_succ]
  refine wpAnyH_take (i := 15) (v := ?v110) (at_op rfl) (by kernel_rfl) (by kernel_rfl) (by kernel_rfl) (fun _ _ _ h => h) (Or.inl ⟨by rfl, ?y110⟩) (by assumption) ?r110
  case y110 =>
    intro wx hSx
    go_simp
    try with_reducible rfl
  try simp only [Act.put, List.setIfInBounds_toArray, List.set_cons_zero, List.set_cons_succ]
  refine wpAnyH_ready (rs := [16]) (by kernel_rfl) (by simp) ?_
  refine AllReadyH.cons (at_op rfl) (fun K hK => ?_) AllReadyH.nil
  go_wp2_with fail
  have hH4 := hH3.setCost (costR x al wd)
  obtain ⟨q0, q1, q2, q3, q4, q5, q6, -, -, -, -⟩ := hH4.eleven
  refine hK.out _ _ ⟨q0, q1, q2, q3, q4, q5, q6⟩ (fun _ => ?_)
  clear hK K
  try simp only [Act.put, List.setIfInBounds_toArray, List.set_cons_zero, List.set_cons_succ]
  refine wpAnyH_done (by kernel_rfl) ?_ _
  have hs3 := hb3.size
  have hB3 : Below H w w3 := hb2.trans (hbE.mono (by have := hH2.lt; omega))
  have hO3 := (hO2.below hbE (Nat.le_refl _)).wide (Nat.le_refl _) hbE.size
  have hO4 : Own intF 3 (H + 1) ((w3.setCell ⟨H, 7, none⟩ (.int .i64 (costR x al wd).over)).setCell ⟨H, 8, none⟩ (.int .i64 (costR x al wd).sum)).heap.size ((w3.setCell ⟨H, 7, none⟩ (.int .i64 (costR x al wd).over)).setCell ⟨H, 8, none⟩ (.int .i64 (costR x al wd).sum)) (.slice ba al.length bc) al := (own_gone hO3 H (Nat.lt_succ_self H) [.int .i64 (costR x al wd).over, .int .i64 (costR x al wd).sum] 7).wide (Nat.le_refl _) (by simp [World.setCell])
  have hb4 : Below H w ((w3.setCell ⟨H, 7, none⟩ (.int .i64 (costR x al wd).over)).setCell ⟨H, 8, none⟩ (.int .i64 (costR x al wd).sum)) := (hB3.setCell (p := ⟨H, 7, none⟩) (Nat.le_refl _) _).setCell (p := ⟨H, 8, none⟩) (Nat.le_refl _) _
  generalize (w3.setCell ⟨H, 7, none⟩ (.int .i64 (costR x al wd).over)).setCell ⟨H, 8, none⟩ (.int .i64 (costR x al wd).sum) = w4 at *
  clear hH3 hHd hbd hb3 hbE f7 f8 q0 q1 q2 q3 q4 q5 q6 p0 p1 p2 p3 p4 p5 p6 p7 p8 hO2 hO3 hH2 hB3 hb2 hs3
  generalize costR x al wd = cst at *
  have hHl4 := hH4.lt
  have hE := heap_alloc_new w4 (.cells #[.slice none 0 0, .int .i64 0] 96)
  have hbE : Below w4.heap.size w4 (w4.alloc (.cells #[.slice none 0 0, .int .i64 0] 96)) := (Below.refl _ _).alloc (Nat.le_refl _) _
  have hsE : w4.heap.size < (w4.alloc (.cells #[.slice none 0 0, .int .i64 0] 96)).heap.size := by simp
  obtain ⟨-, -, -, -, -, -, -, -, -, p9, -⟩ := (hH4.below hbE).eleven
  have f9 := (hH4.below hbE).frz 9
  go_wp2_with fail
  clear p9 f9 hE hbE hsE
  have he : (w4.setCell ⟨H, 9, none⟩ (.slice (some ⟨w4.heap.size, 0, none⟩) 1 1)).heap.size = w4.heap.size := by simp [World.setCell]
  have hH5 : HBlk x ra rc ca cc sa sc ta tc H wd (.slice ba al.length bc) (.slice (some ⟨w4.heap.size, 0, none⟩) 1 1) cst 0 ((w4.setCell ⟨H, 9, none⟩ (.slice (some ⟨w4.heap.size, 0, none⟩) 1 1)).alloc (.cells #[.slice none 0 0, .int .i64 0] 96)) := (hH4.setHeap _).below ((Below.refl _ _).alloc (Nat.le_refl _) _)
  have hO5 : Own intF 3 (H + 1) ((w4.setCell ⟨H, 9, none⟩ (.slice (some ⟨w4.heap.size, 0, none⟩) 1 1)).alloc (.cells #[.slice none 0 0, .int .i64 0] 96)).heap.size ((w4.setCell ⟨H, 9, none⟩ (.slice (some ⟨w4.heap.size, 0, none⟩) 1 1)).alloc (.cells #[.slice none 0 0, .int .i64 0] 96)) (.slice ba al.length bc) al := ((own_gone hO4 H (Nat.lt_succ_self H) [.slice (some ⟨w4.heap.size, 0, none⟩) 1 1] 9).alloc _).wide (Nat.le_refl _) (by simp [World.setCell])
  have hS5 := own_st1 (lo := H + 1) (w := w4.setCell ⟨H, 9, none⟩ (.slice (some ⟨w4.heap.size, 0, none⟩) 1 1)) 96 (by rw [he]; exact hHl4)
  have hb5 : Below H w ((w4.setCell ⟨H, 9, none⟩ (.slice (some ⟨w4.heap.size, 0, none⟩) 1 1)).alloc (.cells #[.slice none 0 0, .int .i64 0] 96)) := (hb4.setCell (p := ⟨H, 9, none⟩) (Nat.le_refl _) _).alloc (by rw [he]; exact Nat.le_of_lt hHl4) _
  rw [he] at hS5
  clear hH4 hO4 hb4 he
  generalize (w4.setCell ⟨H, 9, none⟩ (.slice (some ⟨w4.heap.size, 0, none⟩) 1 1)).alloc (.cells #[.slice none 0 0, .int .i64 0] 96) = w5 at *
  have hHS : HOwn ⟨[((⟨al, 0⟩ : StL), ((ba, al.length, bc) : SV))], []⟩ (H + 1) w5.heap.size w5 (.slice (some ⟨w4.heap.size, 0, none⟩) 1 1) [⟨[], 0⟩] :=
    ⟨[((⟨[], 0⟩ : StL), ((none, 0, 0) : SV))], ⟨hS5, fun p hp => by rw [List.mem_singleton.1 hp]; exact Own.nil _ _ _ _ _, fun p hp => by rw [List.mem_singleton.1 hp]; exact hO5, fun q hq => by cases hq⟩, rfl⟩
  clear hS5 hO5
  go_loopg [] (sumW x [⟨[], 0⟩]) (fun g wr => ∃ (pops : Nat) (heap : List StL) (best : List Int) (bv : SV) (hv : Value) (c : CostL), g = sumW x heap ∧ Hid (HuntSt x wd budget goal pops heap best c) ∧ HBlk x ra rc ca cc sa sc ta tc H wd bv.v hv c pops wr ∧ HOwn ⟨[((⟨best, 0⟩ : StL), bv)], []⟩ (H + 1) wr.heap.size wr hv heap ∧ Below H w wr)
  case atStart => exact ⟨0, _, _, (ba, al.length, bc), _, _, rfl, HST.out, hH5, hHS, hb5⟩
  case round =>
    clear hH5 hHS hb5 HST HAF
    obtain ⟨pops, heap, best, bv, hv, c, hg, HS, hHr, hSr, hbr⟩ := hrel
    have hHlr := hHr.lt
    obtain ⟨ha, hc, rfl, -, -⟩ := hSr.form
    obtain ⟨p0, p1, p2, p3, p4, p5, p6, p7, p8, p9, p10⟩ := hHr.eleven
    have hlw := len_sumW x heap
    have hleft := HS.out.left
    by_cases h0 : heap.length = 0
    · have h0i : ¬ (heap.length : Int) > 0 := by omega
      have HE := Lib.hid (hunt_end HS.out h0)
      obtain ⟨ps, k1, -⟩ := hSr
      have hbst := k1.more ((⟨best, 0⟩ : StL), bv) (List.mem_singleton.2 rfl)
      clear h0
      go_wp2
      go_ret
      unfold RunPost
      rw [HE.out]
      exact ⟨rfl, bv, _, c, hHr, hbst, hbr⟩
    · have h0i : (heap.length : Int) > 0 := by omega
      by_cases hbu : budget ≤ (pops : Int)
      · have hbg : (pops : Int) ≥ budget := hbu
        have HE := Lib.hid (hunt_stop HS.out (by omega) hbu)
        obtain ⟨ps, k1, -⟩ := hSr
        have hbst := k1.more ((⟨best, 0⟩ : StL), bv) (List.mem_singleton.2 rfl)
        clear h0
        go_wp2
        go_ret
        unfold RunPost
        rw [HE.out]
        exact ⟨rfl, bv, _, c, hHr, hbst, hbr⟩
      · have hbg : ¬ (pops : Int) ≥ budget := hbu
        obtain ⟨ps, hSp, hq⟩ := hSr
        have HQ := Lib.hid hq
        have hql : ps.length = heap.length := by rw [← hq, List.length_map]
        have HP := Lib.hid (pop_impl ps _ (H + 1) wr.heap.size wr hSp (by omega) hHlr (Nat.le_refl _) (by omega))
        rw [hq] at HP
        have HTR := Lib.hid (fun hv => hunt_try hx hz HS.out (show 0 < heap.length by omega) hbu hv)
        have HOP := Lib.hid (fun hv => hunt_open hx HS.out (show 0 < heap.length by omega) hbu hv)
        have HPL : Hid ((popL heap).length ≤ 20000) := by show _ ≤ _; have := pop_short (l := heap); omega
        have HRB := Lib.hid HS.out.rightB
        obtain ⟨rest, hrest⟩ : ∃ rest, Hid (popL heap = rest) := ⟨_, rfl⟩
        obtain ⟨st, hst⟩ : ∃ st, Hid (stA heap 0 = st) := ⟨_, rfl⟩
        rw [hrest.out, hst.out] at HP HTR HOP
        rw [hrest.out] at HPL
        obtain ⟨xv, xs⟩ := st
        replace HP : Hid (Calls Try.prog 101 #[.slice ha heap.length hc] wr fun e w' => ∃ u a n c, e = .returned (.tuple #[u, .agg #[.slice a n c, .int .i64 xs]]) ∧ HOwn ⟨[((⟨best, 0⟩ : StL), bv)], []⟩ (H + 1) w'.heap.size w' u rest ∧ Own intF 3 (H + 1) w'.heap.size w' (.slice a n c) xv ∧ Below (H + 1) wr w') := HP
        clear hq hql hSp HQ hst hrest h0 HS
        go_wp2_with fail
        refine HP.out.mono ?_
        clear HP
        rintro e w6 ⟨u6, xa, xn, xc, rfl, hS6, hO6, hb6⟩
        obtain ⟨ua, uc, rfl, -, -⟩ := hS6.form
        obtain rfl : xn = xv.length := by
          obtain ⟨a, c', e, -, -, -⟩ := hO6.form
          injection e
        have hs6 := hb6.size
        have hH6 := hHr.belowN hb6 (Nat.lt_succ_self H)
        have hB6 := hbr.trans (hb6.mono (Nat.le_succ H))
        clear p0 p1 p2 p3 p4 p5 p6 p7 p8 p9 p10 hHr hbr
        go_upto_region 8 with fail
        have hX := heap_alloc_new w6 (.cells #[.slice xa xv.length xc, .int .i64 xs] 96)
        have hbX : Below w6.heap.size w6 (w6.alloc (.cells #[.slice xa xv.length xc, .int .i64 xs] 96)) := (Below.refl _ _).alloc (Nat.le_refl _) _
        have hsX : w6.heap.size < (w6.alloc (.cells #[.slice xa xv.length xc, .int .i64 xs] 96)).heap.size := by simp
        generalize w6.alloc (.cells #[.slice xa xv.length xc, .int .i64 xs] 96) = w7 at *
        have hS7 : HOwn ⟨[((⟨best, 0⟩ : StL), bv)], []⟩ (H + 1) w7.heap.size w7 (.slice ua rest.length uc) rest := (hS6.below hbX (Nat.le_refl _)).wide (Nat.le_refl _) (Nat.le_of_lt hsX)
        have hO7 := (hO6.below hbX (Nat.le_refl _)).wide (Nat.le_refl _) (Nat.le_of_lt hsX)
        have hH7 := hH6.below hbX
        have hB7 := hB6.trans (hbX.mono (by omega))
        have hHX : H < w6.heap.size := by omega
        clear hS6 hO6 hH6 hB6 hb6 hbX
        obtain ⟨-, -, -, -, -, -, -, -, -, p9, p10⟩ := hH7.eleven
        have f9 := hH7.frz 9
        have f10 := hH7.frz 10
        have hpw : IntKind.i64.wrap ((pops : Int) + 1) = (pops : Int) + 1 := IntWalk.i64_in _ (by omega)
        go_upto_region 10 with fail
        clear p9 p10 f9 f10 hpw
        have hT8 : Out H (H + 1) w7 ((w7.setCell ⟨H, 9, none⟩ (.slice ua rest.length uc)).setCell ⟨H, 10, none⟩ (.int .i64 ((pops : Int) + 1))) := ((Out.refl _ _ _).setCell (p := ⟨H, 9, none⟩) (Nat.le_refl _) (Nat.lt_succ_self _) _).setCell (p := ⟨H, 10, none⟩) (Nat.le_refl _) (Nat.lt_succ_self _) _
        have hH8 := (hH7.setHeap (.slice ua rest.length uc)).setPops ((pops : Int) + 1)
        have hX8 := (hT8.block w6.heap.size hsX (by omega)).trans hX
        have hz8 := hT8.size
        have hS8 := (hS7.same (hT8.same (Nat.le_refl _) (.inr (Nat.le_refl _)))).wide (Nat.le_refl _) hz8
        have hO8 := (hO7.same (hT8.same (Nat.le_refl _) (.inr (Nat.le_refl _)))).wide (Nat.le_refl _) hz8
        have hB8 := hB7.trans (hT8.below (Nat.le_refl _) (by omega))
        clear hS7 hO7 hH7 hB7 hX hT8
        generalize (w7.setCell ⟨H, 9, none⟩ (.slice ua rest.length uc)).setCell ⟨H, 10, none⟩ (.int .i64 ((pops : Int) + 1)) = w8 at *
        obtain ⟨x0, x1⟩ := two_cells hX8
        obtain ⟨p0, p1, p2, p3, p4, p5, p6, p7, p8, p9, p10⟩ := hH8.eleven
        have hHl8 := hH8.lt
        by_cases hv : xv.length = x.rules.length
        · obtain ⟨t1, t2, t3, t4⟩ := HTR.out hv
          have T1 := Lib.hid t1
          have T2 := Lib.hid t2
          have HV := Lib.hid hv
          have hvi : ((xv.length : Int) == (x.rules.length : Int)) = true := beq_iff_eq.2 (by omega)
          clear t1 t2 HTR HOP hv HPL
          go_quiet (fail)
          have hH9 : HBlk x ra rc ca cc sa sc ta tc H wd bv.v (.slice ua rest.length uc) c ((pops : Int) + 1) (w8.drewN nq) := hH8
          have hS9 : HOwn ⟨[((⟨best, 0⟩ : StL), bv)], []⟩ (H + 1) (w8.drewN nq).heap.size (w8.drewN nq) (.slice ua rest.length uc) rest := hS8.drewN' nq
          have hO9 : Own intF 3 (H + 1) (w8.drewN nq).heap.size (w8.drewN nq) (.slice xa xv.length xc) xv := hO8
          have hB9 := blw_drewN hB8 nq
          have hX9 : (w8.drewN nq).heap[w6.heap.size]? = some (.cells #[.slice xa xv.length xc, .int .i64 xs] 96) := hX8
          clear hH8 hS8 hO8 hB8 hX8 x0 x1 p0 p1 p2 p3 p4 p5 p6 p7 p8 p9 p10 hHl8
          generalize w8.drewN nq = w9 at *
          have hHl9 := hH9.lt
          obtain ⟨x0, x1⟩ := two_cells hX9
          have hbst : Own intF 3 (H + 1) w9.heap.size w9 bv.v best := by
            obtain ⟨ps2, k1, -⟩ := hS9
            exact k1.more ((⟨best, 0⟩ : StL), bv) (List.mem_singleton.2 rfl)
          have HTY := Lib.hid (try_impl x xv best ra ca sa ta xa rc cc sc tc xc lo hi (H + 1) w9.heap.size (H + 1) w9.heap.size H wd ((pops : Int) + 1) bv.v (.slice ua rest.length uc) c w9 (HPP.out w9 hB9) (by omega) hO9.rd (Nat.le_refl _) hbst.rd (Nat.le_refl _) hx t4 HV.out hz hH9)
          clear hbst hX9
          go_wp2_with fail
          refine HTY.out.mono ?_
          clear HTY x0 x1
          rintro e w10 ⟨rfl, hHa, hTa⟩
          have hza := hTa.size
          have hSa := (hS9.same (hTa.same (Nat.le_refl _) (.inr (Nat.le_refl _)))).wide (Nat.le_refl _) hza
          have hOa := (hO9.same (hTa.same (Nat.le_refl _) (.inr (Nat.le_refl _)))).wide (Nat.le_refl _) hza
          have hBa := hB9.trans (hTa.below (Nat.le_refl _) (by omega))
          clear hS9 hO9 hB9 hTa hH9
          cases hBB : betterB (costR x xv wd) c xv best with
          | true =>
            rw [hBB, if_pos rfl, if_pos rfl] at hHa
            have hSb : HOwn ⟨[((⟨xv, 0⟩ : StL), ((xa, xv.length, xc) : SV))], []⟩ (H + 1) w10.heap.size w10 (.slice ua rest.length uc) rest := by
              obtain ⟨ps2, k1, k2⟩ := hSa
              exact ⟨ps2, ⟨k1.outer, k1.inner, fun p hp => by rw [List.mem_singleton.1 hp]; exact hOa, fun q hq => by cases hq⟩, k2⟩
            have HN := Lib.hid (T1.out hBB)
            clear hBB T1 T2 HV hSa hOa
            go_wp2_with fail
            go_roundg (sumW x rest)
            case measure => omega
            case rel => exact ⟨pops + 1, rest, xv, (xa, xv.length, xc), _, _, rfl, HN.out, hHa, hSb, hBa⟩
          | false =>
            rw [hBB, if_neg (by decide), if_neg (by decide)] at hHa
            have HN := Lib.hid (T2.out hBB)
            clear hBB T1 T2 HV hOa
            go_wp2_with fail
            go_roundg (sumW x rest)
            case measure => omega
            case rel => exact ⟨pops + 1, rest, best, bv, _, _, rfl, HN.out, hHa, hSa, hBa⟩
        · obtain ⟨t1, t2, t3, t4⟩ := HOP.out hv
          have T1 := Lib.hid t1
          have hvi : ((xv.length : Int) == (x.rules.length : Int)) = false := beq_eq_false_iff_ne.2 (by omega)
          clear t1 HTR HOP hv
          go_quiet (fail)
          have hH9 : HBlk x ra rc ca cc sa sc ta tc H wd bv.v (.slice ua rest.length uc) c ((pops : Int) + 1) (w8.drewN nq) := hH8
          have hS9 : HOwn ⟨[((⟨best, 0⟩ : StL), bv)], []⟩ (H + 1) (w8.drewN nq).heap.size (w8.drewN nq) (.slice ua rest.length uc) rest := hS8.drewN' nq
          have hO9 : Own intF 3 (H + 1) (w8.drewN nq).heap.size (w8.drewN nq) (.slice xa xv.length xc) xv := hO8
          have hB9 := blw_drewN hB8 nq
          have hX9 : (w8.drewN nq).heap[w6.heap.size]? = some (.cells #[.slice xa xv.length xc, .int .i64 xs] 96) := hX8
          clear hH8 hS8 hO8 hB8 hX8 x0 x1 p0 p1 p2 p3 p4 p5 p6 p7 p8 p9 p10 hHl8
          generalize w8.drewN nq = w9 at *
          obtain ⟨x0, x1⟩ := two_cells hX9
          have HOY := Lib.hid (open_impl x xv best ra ca sa ta xa rc cc sc tc xc lo hi H wd ((pops : Int) + 1) xs bv (.slice ua rest.length uc) c rest w9 (HPP.out w9 hB9) hh hx t2 t3 HPL.out hH9 hS9 hO9)
          clear hX9 hH9 hS9 hO9
          go_wp2_with fail
          refine HOY.out.mono ?_
          clear HOY x0 x1
          rintro e w10 ⟨rfl, hva, hHa, hSa, hba⟩
          have hBa := hB9.trans hba
          clear hB9 hba
          go_wp2_with fail
          go_roundg (sumW x (openL x c xv rest))
          case measure => omega
          case rel => exact ⟨pops + 1, _, best, bv, _, _, rfl, T1.out, hHa, hSa, hBa⟩
end Go.Proofs.Ytllpgomloblfjaa
namespace Go.Proofs.Ytllpgomloblfjaa
open Go.RowKit

theorem sum_mem {α : Type} (f : α → Nat) : ∀ (xs : List α) (x : α), x ∈ xs → f x ≤ sumOf f xs
  | [], _, h => by cases h
  | a :: xs, x, h => by
    have e : sumOf f (a :: xs) = f a + sumOf f xs := by simp [sumOf]
    rcases List.mem_cons.1 h with h1 | h1
    · rw [e, h1]; omega
    · have := sum_mem f xs x h1
      omega
theorem sized_wt {x : Piece} (h : x.wt ≤ 1048576) : Sized x := ⟨fun c hc => by
  have h1 := sum_mem (fun c : Chunk => c.text.size) x.chunks c hc
  unfold Piece.wt Chunk.wts at h
  omega⟩
/-- what a search tells -/
def searchB (x : Piece) (wd budget : Int) : List Int := if pieceOk x then (huntL x wd budget).best else []
def searchS (x : Piece) (wd budget : Int) : Int := if pieceOk x then (huntL x wd budget).state else 0
def popsB (x : Piece) (wd budget : Int) : Int := if pieceOk x then (huntL x wd budget).pops else 0
set_option maxHeartbeats 4000000 in
set_option maxRecDepth 100000 in
theorem search_impl (x : Piece) (ra ca sa ta : Option Addr) (rc cc sc tc lo hi : Nat) (wd budget : Int) (w : World) (hp : PFour x ra rc ca cc sa sc ta tc lo hi w) (hh : hi ≤ w.heap.size) (hz : Sized x) :
    Calls Try.prog 11 #[x.v ra rc ca cc sa sc ta tc, .int .i64 wd, .int .i64 budget] w fun e w' => ∃ u, e = .returned (.tuple #[u, .int .i64 (searchS x wd budget)]) ∧ Below w.heap.size w w' ∧ Own intF 3 w.heap.size w'.heap.size w' u (searchB x wd budget) := by
  obtain ⟨B, HB⟩ : ∃ B, Hid (B = w.heap.size) := ⟨_, rfl⟩
  have hBw : B ≤ w.heap.size := Nat.le_of_eq HB.out
  have hBw' : w.heap.size ≤ B := Nat.le_of_eq HB.out.symm
  have hT : ∀ c ∈ x.chunks, c.text.size ≤ maxLen := fun c hc => by have := hz.text c hc; unfold maxLen; omega
  have HPP := Lib.hid (fun (w2 : World) (h2 : Below B w w2) => hp.below h2 (Nat.le_trans hh hBw'))
  have hhB : hi ≤ B := Nat.le_trans hh hBw'
  have hX0 := PBox.new x ra ca sa ta rc cc sc tc w
  have hb0 : Below B w (w.alloc (.cells #[.int .i64 x.indent, .slice ra x.rules.length rc, .slice ca x.chunks.length cc, .slice sa x.spans.length sc, .slice ta x.ties.length tc] 29)) := (Below.refl _ _).alloc hBw _
  obtain ⟨sb, hsb⟩ : ∃ sb, Hid (searchB x wd budget = sb) := ⟨_, rfl⟩
  obtain ⟨ss, hss⟩ : ∃ ss, Hid (searchS x wd budget = ss) := ⟨_, rfl⟩
  rw [hsb.out, hss.out]
  unfold Piece.v
  go_enter Try.func11, Try.ntmps11
  go_wp2_with fail
  generalize w.alloc (.cells #[.int .i64 x.indent, .slice ra x.rules.length rc, .slice ca x.chunks.length cc, .slice sa x.spans.length sc, .slice ta x.ties.length tc] 29) = w0 at *
  have hs0 := hb0.size
  have hxl0 := hX0.lt
  have HPK := Lib.hid (pieceOk_impl x ra ca sa ta rc cc sc tc lo hi w0 (HPP.out w0 hb0) (by omega) hT)
  unfold Piece.v at HPK
  obtain ⟨p0, p1, p2, p3, p4⟩ := hX0.five
  go_wp2_with fail
  refine HPK.out.mono ?_
  clear HPK
  rintro e w1 ⟨rfl, k1⟩
  have hb1 := hb0.trans (k1.mono (by omega))
  have hs1 := hb1.size
  have hX1 := hX0.below k1
  clear p0 p1 p2 p3 p4 hX0 hb0 k1
  cases g2 : pieceOk x with
  | false =>
    obtain rfl : ([] : List Int) = sb := by rw [← hsb.out]; unfold searchB; rw [g2]; rfl
    obtain rfl : (0 : Int) = ss := by rw [← hss.out]; unfold searchS; rw [g2]; rfl
    clear hsb hss
    go_wp2
    refine bodyPost_ret (v := .tuple #[.slice none 0 0, .int .i64 0]) (by simp [results, Try.results11, go_sem]) rfl ?_
    exact ⟨_, rfl, by rw [← HB.out]; exact hb1, Own.nil _ _ _ _ _⟩
  | true =>
  have hx := right_of g2
  have HGO : Hid ((huntL x wd budget).best = sb ∧ (huntL x wd budget).state = ss) := ⟨by rw [← hsb.out]; unfold searchB; rw [g2]; rfl, by rw [← hss.out]; unfold searchS; rw [g2]; rfl⟩
  obtain ⟨p0, p1, p2, p3, p4⟩ := hX1.five
  clear g2 hsb hss
  go_upto_region 4 with fail
  have hH1 : HBlk x ra rc ca cc sa sc ta tc w1.heap.size wd (.slice none 0 0) (.slice none 0 0) ⟨0, 0⟩ 0 (w1.alloc (.cells #[.int .i64 x.indent, .slice ra x.rules.length rc, .slice ca x.chunks.length cc, .slice sa x.spans.length sc, .slice ta x.ties.length tc, .int .i64 wd, .slice none 0 0, .int .i64 0, .int .i64 0, .slice none 0 0, .int .i64 0] 88)) := heap_alloc_new _ _
  have hb2 : Below B w (w1.alloc (.cells #[.int .i64 x.indent, .slice ra x.rules.length rc, .slice ca x.chunks.length cc, .slice sa x.spans.length sc, .slice ta x.ties.length tc, .int .i64 wd, .slice none 0 0, .int .i64 0, .int .i64 0, .slice none 0 0, .int .i64 0] 88)) := hb1.alloc (by omega) _
  clear p0 p1 p2 p3 p4 hX1
  generalize w1.alloc (.cells #[.int .i64 x.indent, .slice ra x.rules.length rc, .slice ca x.chunks.length cc, .slice sa x.spans.length sc, .slice ta x.ties.length tc, .int .i64 wd, .slice none 0 0, .int .i64 0, .int .i64 0, .slice none 0 0, .int .i64 0] 88) = w2 at *
  have HRU := Lib.hid (run_impl x ra ca sa ta rc cc sc tc lo hi w1.heap.size wd budget w2 (HPP.out w2 hb2) (by omega) hx hz hH1)
  go_wp2_with fail
  refine HRU.out.mono ?_
  clear HRU hH1
  rintro e w3 ⟨rfl, bv, hv, c, hH3, hO3, hb3⟩
  have hb4 := hb2.trans (hb3.mono (by omega))
  obtain ⟨p0, p1, p2, p3, p4, p5, p6, p7, p8, p9, p10⟩ := hH3.eleven
  obtain ⟨HG1, HG2⟩ := HGO.out
  rw [HG1] at hO3
  have HG3 := Lib.hid HG2
  clear HGO HG1 HG2 hH3
  obtain ⟨st, hst⟩ : ∃ st, Hid ((huntL x wd budget).state = st) := ⟨_, rfl⟩
  rw [hst.out] at HG3
  rw [hst.out]
  go_wp2_with fail
  refine bodyPost_ret (v := .tuple #[bv.v, .int .i64 st]) (by simp [results, Try.results11, go_sem]) rfl ?_
  exact ⟨_, by rw [HG3.out], by rw [← HB.out]; exact hb4, hO3.wide (by omega) (Nat.le_refl _)⟩
set_option maxHeartbeats 4000000 in
set_option maxRecDepth 100000 in
theorem popsOf_impl (x : Piece) (ra ca sa ta : Option Addr) (rc cc sc tc lo hi : Nat) (wd budget : Int) (w : World) (hp : PFour x ra rc ca cc sa sc ta tc lo hi w) (hh : hi ≤ w.heap.size) (hz : Sized x) :
    Calls Try.prog 46 #[x.v ra rc ca cc sa sc ta tc, .int .i64 wd, .int .i64 budget] w fun e w' => e = .returned (.int .i64 (popsB x wd budget)) ∧ Below w.heap.size w w' := by
  obtain ⟨B, HB⟩ : ∃ B, Hid (B = w.heap.size) := ⟨_, rfl⟩
  have hBw : B ≤ w.heap.size := Nat.le_of_eq HB.out
  have hBw' : w.heap.size ≤ B := Nat.le_of_eq HB.out.symm
  have hT : ∀ c ∈ x.chunks, c.text.size ≤ maxLen := fun c hc => by have := hz.text c hc; unfold maxLen; omega
  have HPP := Lib.hid (fun (w2 : World) (h2 : Below B w w2) => hp.below h2 (Nat.le_trans hh hBw'))
  have hhB : hi ≤ B := Nat.le_trans hh hBw'
  have hX0 := PBox.new x ra ca sa ta rc cc sc tc w
  have hb0 : Below B w (w.alloc (.cells #[.int .i64 x.indent, .slice ra x.rules.length rc, .slice ca x.chunks.length cc, .slice sa x.spans.length sc, .slice ta x.ties.length tc] 29)) := (Below.refl _ _).alloc hBw _
  obtain ⟨ss, hss⟩ : ∃ ss, Hid (popsB x wd budget = ss) := ⟨_, rfl⟩
  rw [hss.out]
  unfold Piece.v
  go_enter Try.func46, Try.ntmps46
  go_wp2_with fail
  generalize w.alloc (.cells #[.int .i64 x.indent, .slice ra x.rules.length rc, .slice ca x.chunks.length cc, .slice sa x.spans.length sc, .slice ta x.ties.length tc] 29) = w0 at *
  have hs0 := hb0.size
  have hxl0 := hX0.lt
  have HPK := Lib.hid (pieceOk_impl x ra ca sa ta rc cc sc tc lo hi w0 (HPP.out w0 hb0) (by omega) hT)
  unfold Piece.v at HPK
  obtain ⟨p0, p1, p2, p3, p4⟩ := hX0.five
  go_wp2_with fail
  refine HPK.out.mono ?_
  clear HPK
  rintro e w1 ⟨rfl, k1⟩
  have hb1 := hb0.trans (k1.mono (by omega))
  have hs1 := hb1.size
  have hX1 := hX0.below k1
  clear p0 p1 p2 p3 p4 hX0 hb0 k1
  cases g2 : pieceOk x with
  | false =>
    obtain rfl : (0 : Int) = ss := by rw [← hss.out]; unfold popsB; rw [g2]; rfl
    clear hss
    go_wp2
    go_ret
    exact ⟨rfl, by rw [← HB.out]; exact hb1⟩
  | true =>
  have hx := right_of g2
  have HGO : Hid ((huntL x wd budget).pops = ss) := by show _ = _; rw [← hss.out]; unfold popsB; rw [g2]; rfl
  obtain ⟨p0, p1, p2, p3, p4⟩ := hX1.five
  clear g2 hss
  go_upto_region 4 with fail
  have hH1 : HBlk x ra rc ca cc sa sc ta tc w1.heap.size wd (.slice none 0 0) (.slice none 0 0) ⟨0, 0⟩ 0 (w1.alloc (.cells #[.int .i64 x.indent, .slice ra x.rules.length rc, .slice ca x.chunks.length cc, .slice sa x.spans.length sc, .slice ta x.ties.length tc, .int .i64 wd, .slice none 0 0, .int .i64 0, .int .i64 0, .slice none 0 0, .int .i64 0] 88)) := heap_alloc_new _ _
  have hb2 : Below B w (w1.alloc (.cells #[.int .i64 x.indent, .slice ra x.rules.length rc, .slice ca x.chunks.length cc, .slice sa x.spans.length sc, .slice ta x.ties.length tc, .int .i64 wd, .slice none 0 0, .int .i64 0, .int .i64 0, .slice none 0 0, .int .i64 0] 88)) := hb1.alloc (by omega) _
  clear p0 p1 p2 p3 p4 hX1
  generalize w1.alloc (.cells #[.int .i64 x.indent, .slice ra x.rules.length rc, .slice ca x.chunks.length cc, .slice sa x.spans.length sc, .slice ta x.ties.length tc, .int .i64 wd, .slice none 0 0, .int .i64 0, .int .i64 0, .slice none 0 0, .int .i64 0] 88) = w2 at *
  have HRU := Lib.hid (run_impl x ra ca sa ta rc cc sc tc lo hi w1.heap.size wd budget w2 (HPP.out w2 hb2) (by omega) hx hz hH1)
  go_wp2_with fail
  refine HRU.out.mono ?_
  clear HRU hH1
  rintro e w3 ⟨rfl, bv, hv, c, hH3, hO3, hb3⟩
  have hb4 := hb2.trans (hb3.mono (by omega))
  obtain ⟨p0, p1, p2, p3, p4, p5, p6, p7, p8, p9, p10⟩ := hH3.eleven
  obtain ⟨st, hst⟩ : ∃ st, Hid ((huntL x wd budget).state = st) := ⟨_, rfl⟩
  rw [hst.out]
  obtain ⟨pn, hpn⟩ : ∃ pn, Hid ((huntL x wd budget).pops = pn) := ⟨_, rfl⟩
  rw [hpn.out] at p10 HGO
  clear hH3 hO3 hst hpn
  go_wp2
  go_ret
  exact ⟨ret_int HGO.out, by rw [← HB.out]; exact hb4⟩
end Go.Proofs.Ytllpgomloblfjaa
