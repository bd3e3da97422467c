/- Node: the law's helpers for rows of them. -/
import Derived.Test.YtoloplpmjcgbdaaGreatDoorHNode
import Derived.Test.YtoloplpmjcgbdaaGreatDoorHeap
namespace Go.Proofs.YtoloplpmjcgbdaaGreatDoor
open Go.RowKit
theorem set4 {w : World} {b : Nat} {v0 v1 v2 v3 u0 u1 u2 u3 : Value} (h0 : w.cell? ⟨b, 0, none⟩ = some u0) (h1 : w.cell? ⟨b, 1, none⟩ = some u1) (h2 : w.cell? ⟨b, 2, none⟩ = some u2) (h3 : w.cell? ⟨b, 3, none⟩ = some u3) :
    ((((w.setCell ⟨b, 0, none⟩ v0).setCell ⟨b, 1, none⟩ v1).setCell ⟨b, 2, none⟩ v2).setCell ⟨b, 3, none⟩ v3).cell? ⟨b, 0, none⟩ = some v0 ∧ ((((w.setCell ⟨b, 0, none⟩ v0).setCell ⟨b, 1, none⟩ v1).setCell ⟨b, 2, none⟩ v2).setCell ⟨b, 3, none⟩ v3).cell? ⟨b, 1, none⟩ = some v1 ∧
    ((((w.setCell ⟨b, 0, none⟩ v0).setCell ⟨b, 1, none⟩ v1).setCell ⟨b, 2, none⟩ v2).setCell ⟨b, 3, none⟩ v3).cell? ⟨b, 2, none⟩ = some v2 ∧ ((((w.setCell ⟨b, 0, none⟩ v0).setCell ⟨b, 1, none⟩ v1).setCell ⟨b, 2, none⟩ v2).setCell ⟨b, 3, none⟩ v3).cell? ⟨b, 3, none⟩ = some v3 := by
  have ne : ∀ {i j : Nat}, i ≠ j → (⟨b, i, none⟩ : Addr) ≠ ⟨b, j, none⟩ := fun h e => h (by injection e)
  refine ⟨?_, ?_, ?_, ?_⟩
  · rw [World.cell?_setCell_other _ _ _ _ (ne (by decide)), World.cell?_setCell_other _ _ _ _ (ne (by decide)), World.cell?_setCell_other _ _ _ _ (ne (by decide))]
    exact World.cell?_setCell_same _ _ _ h0
  · rw [World.cell?_setCell_other _ _ _ _ (ne (by decide)), World.cell?_setCell_other _ _ _ _ (ne (by decide))]
    exact World.cell?_setCell_same _ _ _ ((World.cell?_setCell_other _ _ _ _ (ne (by decide))).trans h1)
  · rw [World.cell?_setCell_other _ _ _ _ (ne (by decide))]
    exact World.cell?_setCell_same _ _ _ ((World.cell?_setCell_other _ _ _ _ (ne (by decide))).trans ((World.cell?_setCell_other _ _ _ _ (ne (by decide))).trans h2))
  · exact World.cell?_setCell_same _ _ _ ((World.cell?_setCell_other _ _ _ _ (ne (by decide))).trans ((World.cell?_setCell_other _ _ _ _ (ne (by decide))).trans ((World.cell?_setCell_other _ _ _ _ (ne (by decide))).trans h3)))
set_option maxHeartbeats 400000 in
set_option maxRecDepth 100000 in
theorem toNode_any (x : Node) (ka : Option Addr) (kc lo hi : Nat) (w : World) (hr : Rd intF.shape lo hi w (.slice ka x.kids.length kc) x.kids) (hh : hi ≤ w.heap.size) (hl : x.kids.length ≤ 1048576) :
    Calls Tryz.prog 18 #[x.v ka kc] w fun e w' => ∃ s : SV, e = .returned (.agg #[.int .i64 x.kind, .string x.text, s.v, .bool x.blank]) ∧ Below w.heap.size w w' ∧ Own intF 3 w.heap.size w'.heap.size w' s.v x.kids := by
  obtain ⟨kind, text, kids, blank⟩ := x
  unfold Node.v
  simp only at hl hr ⊢
  go_enter Tryz.func18, Tryz.ntmps18
  go_wp2_with fail
  generalize hA : Obj.cells #[Value.int IntKind.i64 kind, Value.string text, Value.slice ka kids.length kc, Value.bool blank] 36 = A
  generalize hZ : Obj.cells #[Value.int IntKind.i64 0, Value.string { data := #[] }, Value.slice none 0 0, Value.bool false] 38 = Z
  generalize hC : Obj.cells #[Value.int IntKind.i64 kind, Value.string text, Value.slice none 0 0, Value.bool false] 38 = C
  have hb0 : Below w.heap.size w (((w.alloc A).alloc Z).alloc C) := (((Below.refl _ _).alloc (Nat.le_refl _) _).alloc (by simp) _).alloc (by simp; omega) _
  have hs0 : (((w.alloc A).alloc Z).alloc C).heap.size = w.heap.size + 3 := by simp
  obtain ⟨p0, p1, p2⟩ := heap_three w A Z C
  replace hr := hr.below hb0 hh
  generalize ((w.alloc A).alloc Z).alloc C = w0 at *
  refine (toIntS_any kids _ lo hi _ hr (by omega) hl).mono ?_
  rintro e w1 ⟨u, rfl, hb1, ho⟩
  obtain ⟨a, c, rfl, _, _, _⟩ := ho.form
  have hs1 := hb1.size
  have r0 := (hb1.block w.heap.size (by omega)).trans p0
  have r1 := (hb1.block (w.heap.size + 1) (by omega)).trans p1
  have r2 := (hb1.block (w.heap.size + 1 + 1) (by omega)).trans p2
  rw [← hA] at r0
  rw [← hZ] at r1
  rw [← hC] at r2
  have c3 := cell_heap (j := 3) r0 rfl
  have y0 := cell_heap (j := 0) r1 rfl
  have y1 := cell_heap (j := 1) r1 rfl
  have y2 := cell_heap (j := 2) r1 rfl
  have y3 := cell_heap (j := 3) r1 rfl
  have x0 := cell_heap (j := 0) r2 rfl
  have x1 := cell_heap (j := 1) r2 rfl
  have x2 := cell_heap (j := 2) r2 rfl
  have x3 := cell_heap (j := 3) r2 rfl
  have f0 := frozen_heap (j := 0) r1
  have f1 := frozen_heap (j := 1) r1
  have f2 := frozen_heap (j := 2) r1
  have f3 := frozen_heap (j := 3) r1
  have g2 := frozen_heap (j := 2) r2
  have g3 := frozen_heap (j := 3) r2
  have hf : ∀ g, (Value.slice a kids.length c).ownBlock = some g → w.heap.size + 3 ≤ g := fun g hg => by have := (ho.below_heap g hg).1; omega
  clear r0 r1 r2 p0 p1 p2 hr
  have hbA : Below w.heap.size w w1 := hb0.trans (hb1.mono (by omega))
  clear hb0 hb1
  have hoB := fun g hg => (ho.below_heap g hg).1
  generalize hB : w.heap.size = B at *
  go_wp2
  have nb : ∀ {i j : Nat}, (⟨B + 1 + 1, i, none⟩ : Addr) ≠ ⟨B + 1, j, none⟩ := fun h => by injection h; omega
  have oth : ∀ j, ((w1.setCell ⟨B + 1 + 1, 2, none⟩ (.slice a kids.length c)).setCell ⟨B + 1 + 1, 3, none⟩ (.bool blank)).cell? ⟨B + 1, j, none⟩ = w1.cell? ⟨B + 1, j, none⟩ := fun j => (World.cell?_setCell_other _ _ _ _ nb).trans (World.cell?_setCell_other _ _ _ _ nb)
  obtain ⟨z0, z1, z2, z3⟩ := set4 (v0 := .int .i64 kind) (v1 := .string text) (v2 := .slice a kids.length c) (v3 := .bool blank) ((oth 0).trans y0) ((oth 1).trans y1) ((oth 2).trans y2) ((oth 3).trans y3)
  have hb9 := (((((hbA.setCell (p := ⟨B + 1 + 1, 2, none⟩) (by show B ≤ B + 1 + 1; omega) (.slice a kids.length c)).setCell (p := ⟨B + 1 + 1, 3, none⟩) (by show B ≤ B + 1 + 1; omega) (.bool blank)).setCell (p := ⟨B + 1, 0, none⟩) (by show B ≤ B + 1; omega) (.int .i64 kind)).setCell (p := ⟨B + 1, 1, none⟩) (by show B ≤ B + 1; omega) (.string text)).setCell (p := ⟨B + 1, 2, none⟩) (by show B ≤ B + 1; omega) (.slice a kids.length c)).setCell (p := ⟨B + 1, 3, none⟩) (by show B ≤ B + 1; omega) (.bool blank)
  have n1 : (Value.slice a kids.length c).ownBlock ≠ some (B + 1) := fun e => by have := hoB _ e; omega
  have n2 : (Value.slice a kids.length c).ownBlock ≠ some (B + 1 + 1) := fun e => by have := hoB _ e; omega
  have ho9 := ((((((ho.keepFar n2 2 (.slice a kids.length c)).keepFar n2 3 (.bool blank)).keepFar n1 0 (.int .i64 kind)).keepFar n1 1 (.string text)).keepFar n1 2 (.slice a kids.length c)).keepFar n1 3 (.bool blank)).up.wide (Nat.le_trans (by omega : B ≤ w0.heap.size) (Nat.le_refl _)) (Nat.le_refl _)
  generalize ((((((w1.setCell ⟨B + 1 + 1, 2, none⟩ (.slice a kids.length c)).setCell ⟨B + 1 + 1, 3, none⟩ (.bool blank)).setCell ⟨B + 1, 0, none⟩ (.int .i64 kind)).setCell ⟨B + 1, 1, none⟩ (.string text)).setCell ⟨B + 1, 2, none⟩ (.slice a kids.length c)).setCell ⟨B + 1, 3, none⟩ (.bool blank)) = w9 at *
  subst hB
  refine bodyPost_ret (v := .agg #[.int .i64 kind, .string text, .slice a kids.length c, .bool blank]) (by simp [results, Tryz.results18, go_sem, z0, z1, z2, z3]) rfl ⟨(a, kids.length, c), rfl, hb9, ho9⟩
end Go.Proofs.YtoloplpmjcgbdaaGreatDoor
namespace Go.Proofs.YtoloplpmjcgbdaaGreatDoor
open Go.RowKit
theorem Tryz.infoNode : (Tryz.prog.info? 38).map (fun i => (i.zero, i.size, i.bytes)) = some (some (.agg #[.int .i64 0, .string ByteArray.empty, .slice none 0 0, .bool false]), 4, 56) := by kernel_rfl
theorem rep_own {n : Nat} {T TI lo hi : Nat} {w : World} {v : Value} (h : Own nodeF T lo hi w v (List.replicate n (Node.zero, ((none, 0, 0) : SV)))) : FOwn nodeF Node.kids T TI lo hi w v (List.replicate n (Node.zero, ((none, 0, 0) : SV))) := by
  refine ⟨h, fun i hi => ?_, fun i j hi hj hne g hg => ?_⟩
  · rw [List.getElem_replicate]; exact Own.nil _ _ _ _ _
  · rw [List.getElem_replicate] at hg
    simp [SV.v, Value.ownBlock] at hg
set_option maxHeartbeats 1000000 in
set_option maxRecDepth 100000 in
theorem toNodeS_any (xs : List Node) (v : Value) (lo hi : Nat) (w : World) (hr : Rd nodeS lo hi w v xs) (hh : hi ≤ w.heap.size) (hl : xs.length ≤ 1048576) (hlk : ∀ x ∈ xs, x.kids.length ≤ 1048576) :
    Calls Tryz.prog 7 #[v] w fun e w' => ∃ u, e = .returned u ∧ Below w.heap.size w w' ∧ NOwn w.heap.size w'.heap.size w' u xs := by
  obtain ⟨a, c, rfl, h2, h3, h4, h5⟩ := hr.nodeS
  unfold maxLen at h3
  obtain ⟨i0, hi0, hz0, hz1, hz2⟩ := info_parts Tryz.infoNode
  go_enter Tryz.func7, Tryz.ntmps7
  go_wp2_with (at_make; refine wpList_make_full _ rfl _ _ 25 rfl w.heap.size 38 i0 _ 4 Tryz.underlying25 hi0 hz0 hz1 _ _ _ _ xs.length rfl rfl rfl rfl ?b1 ?b2 ?b3 ?_)
  case b1 => rw [hz2]; omega
  case b2 => unfold maxLen; omega
  case b3 => exact Nat.le_refl _
  intro w1 hown hg
  have hb1 : Below w.heap.size w w1 := (Below.refl _ _).grown hg (Nat.le_refl _) (fun k hk => by cases hk)
  have hO : Own nodeF 38 w.heap.size w1.heap.size w1 (.slice (some ⟨w.heap.size, 0, none⟩) xs.length xs.length) (List.replicate xs.length (Node.zero, ((none, 0, 0) : SV))) :=
    Own.of_row hown (by simp) (made_cells nodeF (by decide) (Node.zero, ((none, 0, 0) : SV)) _ rfl _) (Nat.le_refl _)
  replace hO := rep_own (TI := 3) hO
  clear hown hg
  generalize hB : w.heap.size = B at *
  go_wp2
  go_loopw [4] (fun i wr => ∃ (k : Nat) (ps : List (Node × SV)), k ≤ xs.length ∧ i = .int .i64 k ∧ ps.length = xs.length ∧ (ps.map (·.1)).take k = xs.take k ∧ Below B w wr ∧ FOwn nodeF Node.kids 38 3 B wr.heap.size wr (.slice (some ⟨B, 0, none⟩) xs.length xs.length) ps) (fun i _ => xs.length - (intOf i).toNat)
  case atStart => exact ⟨0, _, Nat.zero_le _, rfl, by simp, by simp, hb1, hO⟩
  case round =>
    obtain ⟨k, ps, hk, rfl, hyl, hyt, hb, hO⟩ := hrel
    by_cases hlt : k < xs.length
    · obtain ⟨b, off, ka, kc, rfl, hlo, hhi, c0, c1, c2, c3, hrk⟩ := h5 k hlt
      have d0 := (hb.cell (p := ⟨b, _, none⟩) (by show b < _; omega)).trans c0
      have d1 := (hb.cell (p := ⟨b, _, none⟩) (by show b < _; omega)).trans c1
      have d2 := (hb.cell (p := ⟨b, _, none⟩) (by show b < _; omega)).trans c2
      have d3 := (hb.cell (p := ⟨b, _, none⟩) (by show b < _; omega)).trans c3
      have hrk' := hrk.below hb hh
      have hlx := hlk _ (List.getElem_mem hlt)
      have hsz : w.heap.size ≤ wr.heap.size := hb.size
      have hy := Lib.hid (fun s : SV => map_set_take (s := s) hlt hyl hyt rfl)
      have hyl' := Lib.hid hyl
      clear c0 c1 c2 c3 hyt hrk
      generalize xs[k] = x at *
      obtain ⟨kind, text, kids, blank⟩ := x
      simp only at d0 d1 d2 d3 hrk' hlx
      go_wp2_with fail
      refine (toNode_any ⟨kind, text, kids, blank⟩ ka kc lo hi _ hrk' (by omega) hlx).mono ?_
      rintro e w2 ⟨⟨sa, sn, sc⟩, he, hb2, hos⟩
      obtain rfl : e = .returned (.agg #[.int .i64 kind, .string text, .slice sa sn sc, .bool blank]) := he
      have hO2 := hO.below hb2 (Nat.le_refl _)
      have hkp : k < ps.length := by rw [hyl]; exact hlt
      obtain ⟨u0, f0⟩ : ∃ u, w2.cell? ⟨B, k * 4, none⟩ = some u := ⟨_, (hO2.outer.cell (j := 0) hyl.symm hkp (by decide)).trans rfl⟩
      have g0 : w2.frozen? ⟨B, k * 4, none⟩ = false := hO2.outer.frozen hyl.symm _
      obtain ⟨u1, f1⟩ : ∃ u, w2.cell? ⟨B, k * 4 + 1, none⟩ = some u := ⟨_, (hO2.outer.cell (j := 1) hyl.symm hkp (by decide)).trans rfl⟩
      have g1 : w2.frozen? ⟨B, k * 4 + 1, none⟩ = false := hO2.outer.frozen hyl.symm _
      obtain ⟨u2, f2⟩ : ∃ u, w2.cell? ⟨B, k * 4 + 2, none⟩ = some u := ⟨_, (hO2.outer.cell (j := 2) hyl.symm hkp (by decide)).trans rfl⟩
      have g2 : w2.frozen? ⟨B, k * 4 + 2, none⟩ = false := hO2.outer.frozen hyl.symm _
      obtain ⟨u3, f3⟩ : ∃ u, w2.cell? ⟨B, k * 4 + 3, none⟩ = some u := ⟨_, (hO2.outer.cell (j := 3) hyl.symm hkp (by decide)).trans rfl⟩
      have g3 : w2.frozen? ⟨B, k * 4 + 3, none⟩ = false := hO2.outer.frozen hyl.symm _
      clear hyl d0 d1 d2 d3
      go_wp2
      have hs2 := hb2.size
      have hb3 : Below B w (storeAll B (nodeF.enc (⟨kind, text, kids, blank⟩, (sa, sn, sc))) (k * 4) w2) := blw_storeAll (hb.trans (hb2.mono (by omega))) (Nat.le_refl _) _ _
      have hO3 := (hO2.plantAll (k := k) ⟨kind, text, kids, blank⟩ (sa, sn, sc) (by decide) hyl'.out.symm hkp hos (by omega) hs2 (fun g hg => (hos.below_heap g hg).1)).wide (Nat.le_refl _) (Nat.le_of_eq (size_storeAll B (nodeF.enc (⟨kind, text, kids, blank⟩, (sa, sn, sc))) (k * 4) w2).symm)
      go_roundw
      case rel => exact ⟨k + 1, _, by omega, by go_num, by simpa using hyl'.out, hy.out _, hb3, hO3⟩
      case measure => simp [intOf]; omega
    · have hkk : k = xs.length := by omega
      have HK := Lib.hid hkk
      clear hkk
      go_wp2
      go_ret
      have e := HK.out
      subst e
      rw [List.take_length, List.take_of_length_le (by simp; omega)] at hyt
      subst hB
      exact ⟨_, rfl, hb, ps, hO, hyt⟩

set_option maxHeartbeats 400000 in
set_option maxRecDepth 100000 in
theorem eqNode_any (x : Node) (ka ka' : Option Addr) (kc kc' lo hi lo' hi' : Nat) (w : World) (hr : Rd intF.shape lo hi w (.slice ka x.kids.length kc) x.kids) (hh : hi ≤ w.heap.size) (hr' : Rd intF.shape lo' hi' w (.slice ka' x.kids.length kc') x.kids) (hh' : hi' ≤ w.heap.size) :
    Calls Tryz.prog 21 #[x.v ka kc, x.v ka' kc'] w fun e w' => e = .returned (.bool true) ∧ Below w.heap.size w w' := by
  obtain ⟨kind, text, kids, blank⟩ := x
  unfold Node.v
  simp only at hr hr' ⊢
  go_enter Tryz.func21, Tryz.ntmps21
  go_wp2_with fail
  generalize hA : Obj.cells #[Value.int IntKind.i64 kind, Value.string text, Value.slice ka kids.length kc, Value.bool blank] 38 = A
  generalize hC : Obj.cells #[Value.int IntKind.i64 kind, Value.string text, Value.slice ka' kids.length kc', Value.bool blank] 38 = C
  have hb0 : Below w.heap.size w ((w.alloc A).alloc C) := ((Below.refl _ _).alloc (Nat.le_refl _) _).alloc (by simp) _
  have hs0 : ((w.alloc A).alloc C).heap.size = w.heap.size + 2 := by simp
  obtain ⟨p0, p1⟩ := heap_two w A C
  replace hr := hr.below hb0 hh
  replace hr' := hr'.below hb0 hh'
  generalize (w.alloc A).alloc C = w0 at *
  refine (eqIntS_any kids _ _ _ _ _ _ _ hr (by omega) hr' (by omega)).mono ?_
  rintro e w1 ⟨rfl, hb1⟩
  have hs1 := hb1.size
  have r0 := (hb1.block w.heap.size (by omega)).trans p0
  have r1 := (hb1.block (w.heap.size + 1) (by omega)).trans p1
  rw [← hA] at r0
  rw [← hC] at r1
  have c3 : w1.cell? ⟨w.heap.size, 3, none⟩ = some (.bool blank) := cell_heap (j := 3) r0 rfl
  have y3 : w1.cell? ⟨w.heap.size + 1, 3, none⟩ = some (.bool blank) := cell_heap (j := 3) r1 rfl
  clear r0 r1 p0 p1 hr hr'
  go_wp2
  go_ret
  exact ⟨rfl, hb0.trans (hb1.mono (by omega))⟩

set_option maxHeartbeats 400000 in
set_option maxRecDepth 100000 in
theorem eqNodeS_any (xs : List Node) (v u : Value) (lo hi lo' hi' : Nat) (w : World) (hr : Rd nodeS lo hi w v xs) (hh : hi ≤ w.heap.size) (hr' : Rd nodeS lo' hi' w u xs) (hh' : hi' ≤ w.heap.size) :
    Calls Tryz.prog 9 #[v, u] w fun e w' => e = .returned (.bool true) ∧ Below w.heap.size w w' := by
  have hl := hr.len_le
  obtain ⟨a, c, rfl, h2, h3, h4, h5⟩ := hr.nodeS
  obtain ⟨a', c', rfl, h2', h3', h4', h5'⟩ := hr'.nodeS
  unfold maxLen at h3 h3'
  go_enter Tryz.func9, Tryz.ntmps9
  go_wp2
  go_loopw [5] (fun i wr => ∃ k : Nat, k ≤ xs.length ∧ i = .int .i64 k ∧ Below w.heap.size w wr) (fun i _ => xs.length - (intOf i).toNat)
  case atStart => exact ⟨0, Nat.zero_le _, rfl, Below.refl _ _⟩
  case round =>
    obtain ⟨k, hk, rfl, hb⟩ := hrel
    by_cases hlt : k < xs.length
    · obtain ⟨b, off, ka, kc, rfl, hlo, hhi, c0, c1, c2, c3, hrk⟩ := h5 k hlt
      obtain ⟨b', off', ka', kc', rfl, hlo', hhi', q0, q1, q2, q3, hrq⟩ := h5' k hlt
      have d0 := (hb.cell (p := ⟨b, _, none⟩) (by show b < _; omega)).trans c0
      have r0 := (hb.cell (p := ⟨b', _, none⟩) (by show b' < _; omega)).trans q0
      have d1 := (hb.cell (p := ⟨b, _, none⟩) (by show b < _; omega)).trans c1
      have r1 := (hb.cell (p := ⟨b', _, none⟩) (by show b' < _; omega)).trans q1
      have d2 := (hb.cell (p := ⟨b, _, none⟩) (by show b < _; omega)).trans c2
      have r2 := (hb.cell (p := ⟨b', _, none⟩) (by show b' < _; omega)).trans q2
      have d3 := (hb.cell (p := ⟨b, _, none⟩) (by show b < _; omega)).trans c3
      have r3 := (hb.cell (p := ⟨b', _, none⟩) (by show b' < _; omega)).trans q3
      clear c0 q0 c1 q1 c2 q2 c3 q3
      generalize xs[k] = x at *
      obtain ⟨kind, text, kids, blank⟩ := x
      simp only at d0 r0 d1 r1 d2 r2 d3 r3 hrk hrq
      go_wp2_with fail
      go_still_tail 8, (by kernel_rfl)
      change wpList _ _ _ _ _ wr.drew
      generalize hw : wr.drew = w2
      have hb2 : Below w.heap.size w w2 := by rw [← hw]; exact hb.drew
      have hs2 := hb2.size
      clear hw
      go_wp2_with fail
      refine (eqNode_any ⟨kind, text, kids, blank⟩ ka ka' kc kc' _ _ _ _ _ (hrk.below hb2 hh) (by omega) (hrq.below hb2 hh') (by omega)).mono ?_
      rintro e w1 ⟨rfl, hb1⟩
      go_wp2
      go_roundw
      case rel => exact ⟨k + 1, by omega, by go_num, hb2.trans (hb1.mono hb2.size)⟩
      case measure => simp [intOf]; omega
    · go_wp2
      go_ret
      exact ⟨rfl, hb⟩
theorem Node.kids_le {n : Nat} (xs : List Node) (h : Node.wts xs ≤ n) : ∀ x ∈ xs, x.kids.length ≤ n := by
  intro x hx
  obtain ⟨k, hk, rfl⟩ := List.mem_iff_getElem.1 hx
  have h1 := sumOf_succ Node.wt xs k hk
  have h2 := sumOf_le Node.wt xs (k + 1)
  unfold Node.wts at h
  have h3 : Node.wt xs[k] = xs[k].text.size + xs[k].kids.length := rfl
  omega
end Go.Proofs.YtoloplpmjcgbdaaGreatDoor
