/- One state drawn. -/
import Derived.Test.YtjaginciejljkaaHeapJ
import Derived.Test.YtjaginciejljkaaDrawB
namespace Go.Proofs.Ytjaginciejljkaa
open Go.RowKit

/-- a small state -/
def SmallS (x : StL) : Prop := x.vals.length ≤ 3 ∧ 0 ≤ x.sum ∧ x.sum ≤ 3
theorem out_new {lo hi : Nat} {a w : World} (h : Out lo hi a w) {p : Addr} (hp : a.heap.size ≤ p.block) (u : Value) : Out lo hi a (w.setCell p u) :=
  h.then ((Below.refl p.block _).setCell (p := p) (Nat.le_refl _) u) hp
set_option maxHeartbeats 4000000 in
set_option maxRecDepth 100000 in
theorem l11State_any {g lo hi : Nat} {xs : List Int} {w : World} (hc : Cur g lo hi xs w) :
    Calls Try.prog 22 #[.pointer (some ⟨g, 0, none⟩)] w fun e w' => ∃ u n c x, e = .returned (.agg #[.slice u n c, .int .i64 (x : StL).sum]) ∧ SmallS x ∧ Own intF 3 w.heap.size w'.heap.size w' (.slice u n c) x.vals ∧ Out g (g + 1) w w' ∧ Cur g lo hi xs w' := by
  obtain ⟨j0, hj0, hy0, hy1, hy2⟩ := info_parts Try.infoInt1
  have hgl := hc.lt
  go_enter Try.func22, Try.ntmps22
  go_upto_region 1 with fail
  have hA := heap_alloc_new w (.cells #[.slice none 0 0, .int .i64 0] 28)
  have hbA : Below w.heap.size w (w.alloc (.cells #[.slice none 0 0, .int .i64 0] 28)) := (Below.refl _ _).alloc (Nat.le_refl _) _
  have hsA : w.heap.size < (w.alloc (.cells #[.slice none 0 0, .int .i64 0] 28)).heap.size := by simp
  have hcA := hc.below hbA hgl
  have hoA : Out g (g + 1) w (w.alloc (.cells #[.slice none 0 0, .int .i64 0] 28)) := Out.of_below hbA
  generalize w.alloc (.cells #[.slice none 0 0, .int .i64 0] 28) = wA at *
  have z0 : wA.cell? ⟨w.heap.size, 0, none⟩ = some (.slice none 0 0) := cell_heap0 hA rfl
  have z1 : wA.cell? ⟨w.heap.size, 1, none⟩ = some (.int .i64 0) := cell_heap0 hA rfl
  have g0 : wA.frozen? ⟨w.heap.size, 0, none⟩ = false := frozen_heap0 hA
  have g1 : wA.frozen? ⟨w.heap.size, 1, none⟩ = false := frozen_heap0 hA
  clear hA
  go_wp2_with fail
  refine (l01Below_any hcA (by omega) (by omega)).mono ?_
  rintro e w1 ⟨s, rfl, s1, s2, ho1, hc1⟩
  have hb1 : Same w.heap.size wA.heap.size wA w1 := ho1.same (Nat.le_refl _) (.inr (by omega))
  have hs1 := ho1.size
  replace z0 := (cells_same hb1 (j := 0) (Nat.le_refl _) hsA).trans z0
  replace z1 := (cells_same hb1 (j := 1) (Nat.le_refl _) hsA).trans z1
  replace g0 := (frz_same hb1 (j := 0) (Nat.le_refl _) hsA).trans g0
  replace g1 := (frz_same hb1 (j := 1) (Nat.le_refl _) hsA).trans g1
  have ho2 := hoA.trans ho1
  clear hb1 ho1 hcA hoA hbA
  go_wp2_with fail
  have hB := heap_alloc_new w1 (.cells #[.slice none 0 0, .int .i64 s] 28)
  have hbB : Below w1.heap.size w1 (w1.alloc (.cells #[.slice none 0 0, .int .i64 s] 28)) := (Below.refl _ _).alloc (Nat.le_refl _) _
  have hsB : w1.heap.size < (w1.alloc (.cells #[.slice none 0 0, .int .i64 s] 28)).heap.size := by simp
  generalize w1.alloc (.cells #[.slice none 0 0, .int .i64 s] 28) = w2 at *
  have p0 : w2.cell? ⟨w1.heap.size, 0, none⟩ = some (.slice none 0 0) := cell_heap0 hB rfl
  have p1 : w2.cell? ⟨w1.heap.size, 1, none⟩ = some (.int .i64 s) := cell_heap0 hB rfl
  have p2 : w2.frozen? ⟨w1.heap.size, 0, none⟩ = false := frozen_heap0 hB
  have hw1 : w.heap.size < w1.heap.size := by omega
  replace z0 := (hbB.cell (p := ⟨w.heap.size, 0, none⟩) hw1).trans z0
  replace z1 := (hbB.cell (p := ⟨w.heap.size, 1, none⟩) hw1).trans z1
  replace g0 := (hbB.frozen (p := ⟨w.heap.size, 0, none⟩) hw1).trans g0
  replace g1 := (hbB.frozen (p := ⟨w.heap.size, 1, none⟩) hw1).trans g1
  have hc2 := hc1.below hbB (by omega)
  have ho3 := ho2.then hbB (by omega)
  clear hB hbB ho2 hc1 hc
  go_loopw [4] (fun i wr => ∃ (k : Nat) (ys : List Int) (v : Value), k ≤ 2 ∧ i = .int .i64 k ∧ ys.length = k ∧ wr.cell? ⟨w1.heap.size, 0, none⟩ = some v ∧ wr.cell? ⟨w1.heap.size, 1, none⟩ = some (.int .i64 s) ∧ wr.frozen? ⟨w1.heap.size, 0, none⟩ = false ∧ Own intF 3 w2.heap.size wr.heap.size wr v ys ∧ Same w.heap.size (w.heap.size + 1) w2 wr ∧ Out g (g + 1) w wr ∧ Cur g lo hi xs wr ∧ w2.heap.size ≤ wr.heap.size) (fun i _ => 3 - (intOf i).toNat)
  case atStart => exact ⟨0, [], _, Nat.zero_le _, rfl, rfl, p0, p1, p2, Own.nil _ _ _ _ _, Same.refl _ _ _, ho3, hc2, Nat.le_refl _⟩
  case round =>
    obtain ⟨k, ys, v, hk, rfl, hyl0, c0, d0, f0, hO, hsm, hor, hcr, hsr⟩ := hrel
    have hyl := Lib.hid hyl0
    clear hyl0
    have hXB : w1.heap.size < w2.heap.size := hsB
    go_wp2_with fail
    refine (l01Below_any hcr (by omega) (by omega)).mono ?_
    rintro e w3 ⟨x, rfl, x1, x2, hor3, hcr3⟩
    have hSr : Same (g + 1) wr.heap.size wr w3 := hor3.same (Nat.le_refl _) (.inr (Nat.le_refl _))
    have s3 := hor3.size
    have cD : w3.cell? ⟨w1.heap.size, 0, none⟩ = some v := (cells_same hSr (by omega) (by omega)).trans c0
    have dD : w3.cell? ⟨w1.heap.size, 1, none⟩ = some (.int .i64 s) := (cells_same hSr (by omega) (by omega)).trans d0
    have fD : w3.frozen? ⟨w1.heap.size, 0, none⟩ = false := (frz_same hSr (by omega) (by omega)).trans f0
    have hOD : Own intF 3 w2.heap.size w3.heap.size w3 v ys := (hO.same (hSr.narrow (by omega) (Nat.le_refl _))).wide (Nat.le_refl _) s3
    have hoD := hor.trans hor3
    have hsD : Same w.heap.size (w.heap.size + 1) w2 w3 := hsm.trans (hSr.narrow (by omega) (by omega))
    have hcD := hcr3
    clear hor hor3 hsm hO c0 d0 f0 hcr hcr3 p0 p1 p2 hc2 ho3 hSr
    by_cases hlt : (k : Int) < x
    · replace cD : w3.drew.cell? ⟨w1.heap.size, 0, none⟩ = some v := cD
      replace dD : w3.drew.cell? ⟨w1.heap.size, 1, none⟩ = some (.int .i64 s) := dD
      replace fD : w3.drew.frozen? ⟨w1.heap.size, 0, none⟩ = false := fD
      replace hOD : Own intF 3 w2.heap.size w3.drew.heap.size w3.drew v ys := hOD
      replace hoD := hoD.drew
      replace hsD : Same w.heap.size (w.heap.size + 1) w2 w3.drew := hsD
      replace hcD : Cur g lo hi xs w3.drew := hcD
      replace s3 : wr.heap.size ≤ w3.drew.heap.size := s3
      have hyk : ys.length ≤ 2 := by rw [hyl.out]; exact hk
      go_wp2_with fail
      refine wp_region_held_drew (S := fun _ => True) (by kernel_rfl) ?_ (fun hHeld => ?_)
      · exact trivial
      generalize w3.drew = wD at *
      refine wpAnyH_take (i := 0) (v := ?v1) (at_op rfl) (by kernel_rfl) (by kernel_rfl) (by kernel_rfl) (fun _ _ _ h => h) (Or.inl ⟨by rfl, ?y1⟩) (by assumption) ?r1
      case y1 =>
        intro wx hSx
        go_simp
        try with_reducible rfl
      try simp only [Act.put, List.setIfInBounds_toArray, List.set_cons_zero, List.set_cons_succ]
      refine wpAnyH_take (i := 2) (v := ?v2) (at_op rfl) (by kernel_rfl) (by kernel_rfl) (by kernel_rfl) (fun _ _ _ h => h) (Or.inl ⟨by rfl, ?y2⟩) (by assumption) ?r2
      case y2 =>
        intro wx hSx
        go_simp
        try with_reducible rfl
      try simp only [Act.put, List.setIfInBounds_toArray, List.set_cons_zero, List.set_cons_succ]
      refine wpAnyH_ready (rs := [1, 3]) (by kernel_rfl) (by simp) ?_
      refine AllReadyH.cons (at_op rfl) (fun K hK => ?_) (AllReadyH.cons (at_op rfl) (fun K hK => ?_) AllReadyH.nil)
      · go_simp
        refine hK.out _ _ trivial (fun _ => ?_)
        clear hK K
        try simp only [Act.put, List.setIfInBounds_toArray, List.set_cons_zero, List.set_cons_succ]
        refine wpAnyH_ready (rs := [3]) (by kernel_rfl) (by simp) ?_
        refine AllReadyH.cons (at_op rfl) (fun K hK => ?_) AllReadyH.nil
        go_simp
        refine (l01Below_any hcD (by omega) (by omega)).mono ?_
        rintro e w4 ⟨y, rfl, y1, y2, ho4, hc4⟩
        go_wp2_with fail
        refine hK.out _ _ trivial (fun _ => ?_)
        clear hK K
        try simp only [Act.put, List.setIfInBounds_toArray, List.set_cons_zero, List.set_cons_succ]
        have hSX : Same (g + 1) wD.heap.size wD w4 := ho4.same (Nat.le_refl _) (.inr (Nat.le_refl _))
        have s4 := ho4.size
        have c4 : w4.cell? ⟨w1.heap.size, 0, none⟩ = some v := (cells_same hSX (by omega) (by omega)).trans cD
        have d4 : w4.cell? ⟨w1.heap.size, 1, none⟩ = some (.int .i64 s) := (cells_same hSX (by omega) (by omega)).trans dD
        have f4 : w4.frozen? ⟨w1.heap.size, 0, none⟩ = false := (frz_same hSX (by omega) (by omega)).trans fD
        have hO4 : Own intF 3 w2.heap.size w4.heap.size w4 v ys := (hOD.same (hSX.narrow (by omega) (Nat.le_refl _))).wide (Nat.le_refl _) s4
        have ho5 := hoD.trans ho4
        have hbE : Below w4.heap.size w4 (w4.alloc (.cells #[.int .i64 y] 3)) := (Below.refl _ _).alloc (Nat.le_refl _) _
        have cE : (w4.alloc (.cells #[.int .i64 y] 3)).cell? ⟨w1.heap.size, 0, none⟩ = some v := (hbE.cell (p := ⟨w1.heap.size, 0, none⟩) (by show w1.heap.size < _; omega)).trans c4
        have dE : (w4.alloc (.cells #[.int .i64 y] 3)).cell? ⟨w1.heap.size, 1, none⟩ = some (.int .i64 s) := (hbE.cell (p := ⟨w1.heap.size, 1, none⟩) (by show w1.heap.size < _; omega)).trans d4
        have fE : (w4.alloc (.cells #[.int .i64 y] 3)).frozen? ⟨w1.heap.size, 0, none⟩ = false := (hbE.frozen (p := ⟨w1.heap.size, 0, none⟩) (by show w1.heap.size < _; omega)).trans f4
        have hcE : Cur g lo hi xs (w4.alloc (.cells #[.int .i64 y] 3)) := hc4.below hbE (by omega)
        have hoE : Out g (g + 1) w (w4.alloc (.cells #[.int .i64 y] 3)) := ho5.then hbE (by omega)
        have hsE : Same w.heap.size (w.heap.size + 1) w2 (w4.alloc (.cells #[.int .i64 y] 3)) := (hsD.trans (hSX.narrow (by omega) (by omega))).trans (.of_below hbE (by omega))
        clear hOD hoD hcD hsD cD dD fD hSX ho4 hc4 d4 f4 ho5
        refine wpAnyH_ready (rs := [4]) (by kernel_rfl) (by simp) ?_
        refine AllReadyH.cons (at_op rfl) (fun K hK => ?_) AllReadyH.nil
        go_simp
        refine hK.out _ _ trivial (fun _ => ?_)
        clear hK K
        try simp only [Act.put, List.setIfInBounds_toArray, List.set_cons_zero, List.set_cons_succ]
        refine wpAnyH_ready (rs := [5]) (by kernel_rfl) (by simp) ?_
        refine ready_list (at_op rfl) (fun K hK => ?_)
        refine wp_app1g (F := intF) (P := Try.prog) (y := y) rfl (.tmp 15) (.tmp 18) 26 rfl Try.underlying26 hj0 hy0 hy1 hy2 rfl (by decide) rfl (hO4.alloc _) w4.heap.size rfl (heap_alloc_new _ _) rfl (by omega) (by omega) (by simp; omega) ?_
        intro v6 w6 hO6 hb6 hg6
        clear hg6
        obtain ⟨sa, sn, sc, rfl⟩ : ∃ a n c, v6 = .slice a n c := by
          obtain ⟨a, c, e, _⟩ := hO6.form
          exact ⟨a, _, c, e⟩
        refine hK.out _ _ trivial (fun _ => ?_)
        clear hK K
        try simp only [Act.put, List.setIfInBounds_toArray, List.set_cons_zero, List.set_cons_succ]
        have c6 : w6.cell? ⟨w1.heap.size, 0, none⟩ = some v := (hb6.cell (p := ⟨w1.heap.size, 0, none⟩) hXB).trans cE
        have d6 : w6.cell? ⟨w1.heap.size, 1, none⟩ = some (.int .i64 s) := (hb6.cell (p := ⟨w1.heap.size, 1, none⟩) hXB).trans dE
        have f6 : w6.frozen? ⟨w1.heap.size, 0, none⟩ = false := (hb6.frozen (p := ⟨w1.heap.size, 0, none⟩) hXB).trans fE
        have s6 : w4.heap.size + 1 ≤ w6.heap.size := by simpa using hb6.size
        have hF1 : Hid (Out g (g + 1) w (w6.setCell ⟨w1.heap.size, 0, none⟩ (.slice sa sn sc))) := out_new (hoE.then hb6 (by omega)) (p := ⟨w1.heap.size, 0, none⟩) (by show _ ≤ w1.heap.size; omega) (.slice sa sn sc)
        have hF2 : Hid (Same w.heap.size (w.heap.size + 1) w2 (w6.setCell ⟨w1.heap.size, 0, none⟩ (.slice sa sn sc))) := (hsE.trans (.of_below hb6 (by omega))).trans (same_storeAll (g := w1.heap.size) (.inr (by omega)) [(.slice sa sn sc)] 0 w6)
        have hF3 : Hid (Cur g lo hi xs (w6.setCell ⟨w1.heap.size, 0, none⟩ (.slice sa sn sc))) := (hcE.below hb6 (by omega)).below ((Below.refl w1.heap.size _).setCell (p := ⟨w1.heap.size, 0, none⟩) (Nat.le_refl _) (.slice sa sn sc)) (by omega)
        have hF4 : Hid (Own intF 3 w2.heap.size (w6.setCell ⟨w1.heap.size, 0, none⟩ (.slice sa sn sc)).heap.size (w6.setCell ⟨w1.heap.size, 0, none⟩ (.slice sa sn sc)) (.slice sa sn sc) (ys ++ [y])) := (hO6.far (p := ⟨w1.heap.size, 0, none⟩) (.inr hXB) (.slice sa sn sc)).wide (Nat.le_refl _) (by simp [World.setCell])
        have hF5 : Hid ((w6.setCell ⟨w1.heap.size, 0, none⟩ (.slice sa sn sc)).cell? ⟨w1.heap.size, 0, none⟩ = some (.slice sa sn sc)) := World.cell?_setCell_same (w := w6) (a := ⟨w1.heap.size, 0, none⟩) (v := (.slice sa sn sc)) c6
        have hF6 : Hid ((w6.setCell ⟨w1.heap.size, 0, none⟩ (.slice sa sn sc)).cell? ⟨w1.heap.size, 1, none⟩ = some (.int .i64 s)) := (World.cell?_setCell_other _ _ _ _ (fun c => by injection c with _ c _; omega)).trans d6
        have hF7 : Hid ((w6.setCell ⟨w1.heap.size, 0, none⟩ (.slice sa sn sc)).frozen? ⟨w1.heap.size, 0, none⟩ = false) := by show _ = _; rw [World.frozen?_setCell]; exact f6
        have hF8 : Hid (w2.heap.size ≤ (w6.setCell ⟨w1.heap.size, 0, none⟩ (.slice sa sn sc)).heap.size) := by show _ ≤ _; simp [World.setCell]; omega
        clear cE dE fE d6 hO6 hoE hcE hsE hO4
        refine wpAnyH_take (i := 6) (v := ?v3) (at_op rfl) (by kernel_rfl) (by kernel_rfl) (by kernel_rfl) (fun _ _ _ h => h) (Or.inl ⟨by rfl, ?y3⟩) (by assumption) ?r3
        case y3 =>
          intro wx hSx
          go_simp
          try with_reducible rfl
        try simp only [Act.put, List.setIfInBounds_toArray, List.set_cons_zero, List.set_cons_succ]
        refine wpAnyH_ready (rs := [7]) (by kernel_rfl) (by simp) ?_
        refine AllReadyH.cons (at_op rfl) (fun K hK => ?_) AllReadyH.nil
        go_wp2_with fail
        refine hK.out _ _ trivial (fun _ => ?_)
        clear hK K
        try simp only [Act.put, List.setIfInBounds_toArray, List.set_cons_zero, List.set_cons_succ]
        refine wpAnyH_done (by kernel_rfl) ?_ _
        go_wp2
        go_roundw
        case rel => exact ⟨k + 1, ys ++ [y], (.slice sa sn sc), by omega, by go_num, by rw [List.length_append, hyl.out]; rfl, hF5.out, hF6.out, hF7.out, hF4.out, hF2.out, hF1.out, hF3.out, hF8.out⟩
        case measure => simp [intOf]; omega
      · go_simp
        refine (l01Below_any hcD (by omega) (by omega)).mono ?_
        rintro e w4 ⟨y, rfl, y1, y2, ho4, hc4⟩
        go_wp2_with fail
        refine hK.out _ _ trivial (fun _ => ?_)
        clear hK K
        try simp only [Act.put, List.setIfInBounds_toArray, List.set_cons_zero, List.set_cons_succ]
        have hSX : Same (g + 1) wD.heap.size wD w4 := ho4.same (Nat.le_refl _) (.inr (Nat.le_refl _))
        have s4 := ho4.size
        have c4 : w4.cell? ⟨w1.heap.size, 0, none⟩ = some v := (cells_same hSX (by omega) (by omega)).trans cD
        have d4 : w4.cell? ⟨w1.heap.size, 1, none⟩ = some (.int .i64 s) := (cells_same hSX (by omega) (by omega)).trans dD
        have f4 : w4.frozen? ⟨w1.heap.size, 0, none⟩ = false := (frz_same hSX (by omega) (by omega)).trans fD
        have hO4 : Own intF 3 w2.heap.size w4.heap.size w4 v ys := (hOD.same (hSX.narrow (by omega) (Nat.le_refl _))).wide (Nat.le_refl _) s4
        have ho5 := hoD.trans ho4
        have hbE : Below w4.heap.size w4 (w4.alloc (.cells #[.int .i64 y] 3)) := (Below.refl _ _).alloc (Nat.le_refl _) _
        have cE : (w4.alloc (.cells #[.int .i64 y] 3)).cell? ⟨w1.heap.size, 0, none⟩ = some v := (hbE.cell (p := ⟨w1.heap.size, 0, none⟩) (by show w1.heap.size < _; omega)).trans c4
        have dE : (w4.alloc (.cells #[.int .i64 y] 3)).cell? ⟨w1.heap.size, 1, none⟩ = some (.int .i64 s) := (hbE.cell (p := ⟨w1.heap.size, 1, none⟩) (by show w1.heap.size < _; omega)).trans d4
        have fE : (w4.alloc (.cells #[.int .i64 y] 3)).frozen? ⟨w1.heap.size, 0, none⟩ = false := (hbE.frozen (p := ⟨w1.heap.size, 0, none⟩) (by show w1.heap.size < _; omega)).trans f4
        have hcE : Cur g lo hi xs (w4.alloc (.cells #[.int .i64 y] 3)) := hc4.below hbE (by omega)
        have hoE : Out g (g + 1) w (w4.alloc (.cells #[.int .i64 y] 3)) := ho5.then hbE (by omega)
        have hsE : Same w.heap.size (w.heap.size + 1) w2 (w4.alloc (.cells #[.int .i64 y] 3)) := (hsD.trans (hSX.narrow (by omega) (by omega))).trans (.of_below hbE (by omega))
        clear hOD hoD hcD hsD cD dD fD hSX ho4 hc4 d4 f4 ho5
        refine wpAnyH_ready (rs := [1, 4]) (by kernel_rfl) (by simp) ?_
        refine AllReadyH.cons (at_op rfl) (fun K hK => ?_) (AllReadyH.cons (at_op rfl) (fun K hK => ?_) AllReadyH.nil)
        · go_simp
          refine hK.out _ _ trivial (fun _ => ?_)
          clear hK K
          try simp only [Act.put, List.setIfInBounds_toArray, List.set_cons_zero, List.set_cons_succ]
          refine wpAnyH_ready (rs := [4]) (by kernel_rfl) (by simp) ?_
          refine AllReadyH.cons (at_op rfl) (fun K hK => ?_) AllReadyH.nil
          go_simp
          refine hK.out _ _ trivial (fun _ => ?_)
          clear hK K
          try simp only [Act.put, List.setIfInBounds_toArray, List.set_cons_zero, List.set_cons_succ]
          refine wpAnyH_ready (rs := [5]) (by kernel_rfl) (by simp) ?_
          refine ready_list (at_op rfl) (fun K hK => ?_)
          refine wp_app1g (F := intF) (P := Try.prog) (y := y) rfl (.tmp 15) (.tmp 18) 26 rfl Try.underlying26 hj0 hy0 hy1 hy2 rfl (by decide) rfl (hO4.alloc _) w4.heap.size rfl (heap_alloc_new _ _) rfl (by omega) (by omega) (by simp; omega) ?_
          intro v6 w6 hO6 hb6 hg6
          clear hg6
          obtain ⟨sa, sn, sc, rfl⟩ : ∃ a n c, v6 = .slice a n c := by
            obtain ⟨a, c, e, _⟩ := hO6.form
            exact ⟨a, _, c, e⟩
          refine hK.out _ _ trivial (fun _ => ?_)
          clear hK K
          try simp only [Act.put, List.setIfInBounds_toArray, List.set_cons_zero, List.set_cons_succ]
          have c6 : w6.cell? ⟨w1.heap.size, 0, none⟩ = some v := (hb6.cell (p := ⟨w1.heap.size, 0, none⟩) hXB).trans cE
          have d6 : w6.cell? ⟨w1.heap.size, 1, none⟩ = some (.int .i64 s) := (hb6.cell (p := ⟨w1.heap.size, 1, none⟩) hXB).trans dE
          have f6 : w6.frozen? ⟨w1.heap.size, 0, none⟩ = false := (hb6.frozen (p := ⟨w1.heap.size, 0, none⟩) hXB).trans fE
          have s6 : w4.heap.size + 1 ≤ w6.heap.size := by simpa using hb6.size
          have hF1 : Hid (Out g (g + 1) w (w6.setCell ⟨w1.heap.size, 0, none⟩ (.slice sa sn sc))) := out_new (hoE.then hb6 (by omega)) (p := ⟨w1.heap.size, 0, none⟩) (by show _ ≤ w1.heap.size; omega) (.slice sa sn sc)
          have hF2 : Hid (Same w.heap.size (w.heap.size + 1) w2 (w6.setCell ⟨w1.heap.size, 0, none⟩ (.slice sa sn sc))) := (hsE.trans (.of_below hb6 (by omega))).trans (same_storeAll (g := w1.heap.size) (.inr (by omega)) [(.slice sa sn sc)] 0 w6)
          have hF3 : Hid (Cur g lo hi xs (w6.setCell ⟨w1.heap.size, 0, none⟩ (.slice sa sn sc))) := (hcE.below hb6 (by omega)).below ((Below.refl w1.heap.size _).setCell (p := ⟨w1.heap.size, 0, none⟩) (Nat.le_refl _) (.slice sa sn sc)) (by omega)
          have hF4 : Hid (Own intF 3 w2.heap.size (w6.setCell ⟨w1.heap.size, 0, none⟩ (.slice sa sn sc)).heap.size (w6.setCell ⟨w1.heap.size, 0, none⟩ (.slice sa sn sc)) (.slice sa sn sc) (ys ++ [y])) := (hO6.far (p := ⟨w1.heap.size, 0, none⟩) (.inr hXB) (.slice sa sn sc)).wide (Nat.le_refl _) (by simp [World.setCell])
          have hF5 : Hid ((w6.setCell ⟨w1.heap.size, 0, none⟩ (.slice sa sn sc)).cell? ⟨w1.heap.size, 0, none⟩ = some (.slice sa sn sc)) := World.cell?_setCell_same (w := w6) (a := ⟨w1.heap.size, 0, none⟩) (v := (.slice sa sn sc)) c6
          have hF6 : Hid ((w6.setCell ⟨w1.heap.size, 0, none⟩ (.slice sa sn sc)).cell? ⟨w1.heap.size, 1, none⟩ = some (.int .i64 s)) := (World.cell?_setCell_other _ _ _ _ (fun c => by injection c with _ c _; omega)).trans d6
          have hF7 : Hid ((w6.setCell ⟨w1.heap.size, 0, none⟩ (.slice sa sn sc)).frozen? ⟨w1.heap.size, 0, none⟩ = false) := by show _ = _; rw [World.frozen?_setCell]; exact f6
          have hF8 : Hid (w2.heap.size ≤ (w6.setCell ⟨w1.heap.size, 0, none⟩ (.slice sa sn sc)).heap.size) := by show _ ≤ _; simp [World.setCell]; omega
          clear cE dE fE d6 hO6 hoE hcE hsE hO4
          refine wpAnyH_take (i := 6) (v := ?v4) (at_op rfl) (by kernel_rfl) (by kernel_rfl) (by kernel_rfl) (fun _ _ _ h => h) (Or.inl ⟨by rfl, ?y4⟩) (by assumption) ?r4
          case y4 =>
            intro wx hSx
            go_simp
            try with_reducible rfl
          try simp only [Act.put, List.setIfInBounds_toArray, List.set_cons_zero, List.set_cons_succ]
          refine wpAnyH_ready (rs := [7]) (by kernel_rfl) (by simp) ?_
          refine AllReadyH.cons (at_op rfl) (fun K hK => ?_) AllReadyH.nil
          go_wp2_with fail
          refine hK.out _ _ trivial (fun _ => ?_)
          clear hK K
          try simp only [Act.put, List.setIfInBounds_toArray, List.set_cons_zero, List.set_cons_succ]
          refine wpAnyH_done (by kernel_rfl) ?_ _
          go_wp2
          go_roundw
          case rel => exact ⟨k + 1, ys ++ [y], (.slice sa sn sc), by omega, by go_num, by rw [List.length_append, hyl.out]; rfl, hF5.out, hF6.out, hF7.out, hF4.out, hF2.out, hF1.out, hF3.out, hF8.out⟩
          case measure => simp [intOf]; omega
        · go_simp
          refine hK.out _ _ trivial (fun _ => ?_)
          clear hK K
          try simp only [Act.put, List.setIfInBounds_toArray, List.set_cons_zero, List.set_cons_succ]
          refine wpAnyH_ready (rs := [1]) (by kernel_rfl) (by simp) ?_
          refine AllReadyH.cons (at_op rfl) (fun K hK => ?_) AllReadyH.nil
          go_simp
          refine hK.out _ _ trivial (fun _ => ?_)
          clear hK K
          try simp only [Act.put, List.setIfInBounds_toArray, List.set_cons_zero, List.set_cons_succ]
          refine wpAnyH_ready (rs := [5]) (by kernel_rfl) (by simp) ?_
          refine ready_list (at_op rfl) (fun K hK => ?_)
          refine wp_app1g (F := intF) (P := Try.prog) (y := y) rfl (.tmp 15) (.tmp 18) 26 rfl Try.underlying26 hj0 hy0 hy1 hy2 rfl (by decide) rfl (hO4.alloc _) w4.heap.size rfl (heap_alloc_new _ _) rfl (by omega) (by omega) (by simp; omega) ?_
          intro v6 w6 hO6 hb6 hg6
          clear hg6
          obtain ⟨sa, sn, sc, rfl⟩ : ∃ a n c, v6 = .slice a n c := by
            obtain ⟨a, c, e, _⟩ := hO6.form
            exact ⟨a, _, c, e⟩
          refine hK.out _ _ trivial (fun _ => ?_)
          clear hK K
          try simp only [Act.put, List.setIfInBounds_toArray, List.set_cons_zero, List.set_cons_succ]
          have c6 : w6.cell? ⟨w1.heap.size, 0, none⟩ = some v := (hb6.cell (p := ⟨w1.heap.size, 0, none⟩) hXB).trans cE
          have d6 : w6.cell? ⟨w1.heap.size, 1, none⟩ = some (.int .i64 s) := (hb6.cell (p := ⟨w1.heap.size, 1, none⟩) hXB).trans dE
          have f6 : w6.frozen? ⟨w1.heap.size, 0, none⟩ = false := (hb6.frozen (p := ⟨w1.heap.size, 0, none⟩) hXB).trans fE
          have s6 : w4.heap.size + 1 ≤ w6.heap.size := by simpa using hb6.size
          have hF1 : Hid (Out g (g + 1) w (w6.setCell ⟨w1.heap.size, 0, none⟩ (.slice sa sn sc))) := out_new (hoE.then hb6 (by omega)) (p := ⟨w1.heap.size, 0, none⟩) (by show _ ≤ w1.heap.size; omega) (.slice sa sn sc)
          have hF2 : Hid (Same w.heap.size (w.heap.size + 1) w2 (w6.setCell ⟨w1.heap.size, 0, none⟩ (.slice sa sn sc))) := (hsE.trans (.of_below hb6 (by omega))).trans (same_storeAll (g := w1.heap.size) (.inr (by omega)) [(.slice sa sn sc)] 0 w6)
          have hF3 : Hid (Cur g lo hi xs (w6.setCell ⟨w1.heap.size, 0, none⟩ (.slice sa sn sc))) := (hcE.below hb6 (by omega)).below ((Below.refl w1.heap.size _).setCell (p := ⟨w1.heap.size, 0, none⟩) (Nat.le_refl _) (.slice sa sn sc)) (by omega)
          have hF4 : Hid (Own intF 3 w2.heap.size (w6.setCell ⟨w1.heap.size, 0, none⟩ (.slice sa sn sc)).heap.size (w6.setCell ⟨w1.heap.size, 0, none⟩ (.slice sa sn sc)) (.slice sa sn sc) (ys ++ [y])) := (hO6.far (p := ⟨w1.heap.size, 0, none⟩) (.inr hXB) (.slice sa sn sc)).wide (Nat.le_refl _) (by simp [World.setCell])
          have hF5 : Hid ((w6.setCell ⟨w1.heap.size, 0, none⟩ (.slice sa sn sc)).cell? ⟨w1.heap.size, 0, none⟩ = some (.slice sa sn sc)) := World.cell?_setCell_same (w := w6) (a := ⟨w1.heap.size, 0, none⟩) (v := (.slice sa sn sc)) c6
          have hF6 : Hid ((w6.setCell ⟨w1.heap.size, 0, none⟩ (.slice sa sn sc)).cell? ⟨w1.heap.size, 1, none⟩ = some (.int .i64 s)) := (World.cell?_setCell_other _ _ _ _ (fun c => by injection c with _ c _; omega)).trans d6
          have hF7 : Hid ((w6.setCell ⟨w1.heap.size, 0, none⟩ (.slice sa sn sc)).frozen? ⟨w1.heap.size, 0, none⟩ = false) := by show _ = _; rw [World.frozen?_setCell]; exact f6
          have hF8 : Hid (w2.heap.size ≤ (w6.setCell ⟨w1.heap.size, 0, none⟩ (.slice sa sn sc)).heap.size) := by show _ ≤ _; simp [World.setCell]; omega
          clear cE dE fE d6 hO6 hoE hcE hsE hO4
          refine wpAnyH_take (i := 6) (v := ?v5) (at_op rfl) (by kernel_rfl) (by kernel_rfl) (by kernel_rfl) (fun _ _ _ h => h) (Or.inl ⟨by rfl, ?y5⟩) (by assumption) ?r5
          case y5 =>
            intro wx hSx
            go_simp
            try with_reducible rfl
          try simp only [Act.put, List.setIfInBounds_toArray, List.set_cons_zero, List.set_cons_succ]
          refine wpAnyH_ready (rs := [7]) (by kernel_rfl) (by simp) ?_
          refine AllReadyH.cons (at_op rfl) (fun K hK => ?_) AllReadyH.nil
          go_wp2_with fail
          refine hK.out _ _ trivial (fun _ => ?_)
          clear hK K
          try simp only [Act.put, List.setIfInBounds_toArray, List.set_cons_zero, List.set_cons_succ]
          refine wpAnyH_done (by kernel_rfl) ?_ _
          go_wp2
          go_roundw
          case rel => exact ⟨k + 1, ys ++ [y], (.slice sa sn sc), by omega, by go_num, by rw [List.length_append, hyl.out]; rfl, hF5.out, hF6.out, hF7.out, hF4.out, hF2.out, hF1.out, hF3.out, hF8.out⟩
          case measure => simp [intOf]; omega
    · replace z0 := (cells_same hsD (j := 0) (Nat.le_refl _) (Nat.lt_succ_self _)).trans z0
      replace z1 := (cells_same hsD (j := 1) (Nat.le_refl _) (Nat.lt_succ_self _)).trans z1
      replace g0 := (frz_same hsD (j := 0) (Nat.le_refl _) (Nat.lt_succ_self _)).trans g0
      replace g1 := (frz_same hsD (j := 1) (Nat.le_refl _) (Nat.lt_succ_self _)).trans g1
      obtain ⟨a, n, c, rfl⟩ : ∃ a n c, v = .slice a n c := by
        obtain ⟨a, c, e, _⟩ := hOD.form
        exact ⟨a, _, c, e⟩
      have r0 : ((w3.setCell ⟨w.heap.size, 0, none⟩ (.slice a n c)).setCell ⟨w.heap.size, 1, none⟩ (.int .i64 s)).cell? ⟨w.heap.size, 0, none⟩ = some (.slice a n c) :=
        (World.cell?_setCell_other _ _ _ _ (fun c => by injection c with _ c _; omega)).trans (World.cell?_setCell_same (w := w3) (a := ⟨w.heap.size, 0, none⟩) (v := .slice a n c) z0)
      have r1 : ((w3.setCell ⟨w.heap.size, 0, none⟩ (.slice a n c)).setCell ⟨w.heap.size, 1, none⟩ (.int .i64 s)).cell? ⟨w.heap.size, 1, none⟩ = some (.int .i64 s) :=
        World.cell?_setCell_same (w := w3.setCell ⟨w.heap.size, 0, none⟩ (.slice a n c)) (a := ⟨w.heap.size, 1, none⟩) (v := .int .i64 s) ((World.cell?_setCell_other _ _ _ _ (fun c => by injection c with _ c _; omega)).trans z1)
      have hW := ((Below.refl w.heap.size w3).setCell (p := ⟨w.heap.size, 0, none⟩) (Nat.le_refl _) (.slice a n c)).setCell (p := ⟨w.heap.size, 1, none⟩) (Nat.le_refl _) (.int .i64 s)
      have hSm : Hid (Same w2.heap.size w3.heap.size w3 ((w3.setCell ⟨w.heap.size, 0, none⟩ (.slice a n c)).setCell ⟨w.heap.size, 1, none⟩ (.int .i64 s))) := same_storeAll (g := w.heap.size) (.inl (by omega)) [.slice a n c, .int .i64 s] 0 w3
      have hF1 := Lib.hid (hoD.then hW (Nat.le_refl _))
      have hF2 := Lib.hid (hcD.below hW hgl)
      have hF3 := Lib.hid ((hOD.same hSm.out).wide (lo' := w.heap.size) (by omega) hW.size)
      have hyk : ys.length ≤ 3 := by rw [hyl.out]; omega
      clear hW hSm hoD hcD hOD hsD
      go_wp2_with fail
      refine bodyPost_ret (v := .agg #[.slice a n c, .int .i64 s]) (by simp [results, Try.results22, go_sem, r0, r1]) rfl ?_
      exact ⟨_, _, _, ⟨ys, s⟩, rfl, ⟨hyk, s1, by show s ≤ 3; omega⟩, hF3.out, hF1.out, hF2.out⟩
end Go.Proofs.Ytjaginciejljkaa
