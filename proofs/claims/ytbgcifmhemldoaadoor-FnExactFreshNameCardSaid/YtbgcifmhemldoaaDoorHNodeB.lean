/- Node: the law's helpers that copy and compare. -/
import Derived.Test.YtbgcifmhemldoaaDoorHNode
import Derived.Test.YtbgcifmhemldoaaDoorHeap
namespace Go.Proofs.YtbgcifmhemldoaaDoor
open Go.RowKit
theorem set4 {w : World} {b : Nat} {v0 v1 v2 v3 u0 u1 u2 u3 : Value} (h0 : w.cell? ⟨b, 0, none⟩ = some u0) (h1 : w.cell? ⟨b, 1, none⟩ = some u1) (h2 : w.cell? ⟨b, 2, none⟩ = some u2) (h3 : w.cell? ⟨b, 3, none⟩ = some u3) :
    ((((w.setCell ⟨b, 0, none⟩ v0).setCell ⟨b, 1, none⟩ v1).setCell ⟨b, 2, none⟩ v2).setCell ⟨b, 3, none⟩ v3).cell? ⟨b, 0, none⟩ = some v0 ∧ ((((w.setCell ⟨b, 0, none⟩ v0).setCell ⟨b, 1, none⟩ v1).setCell ⟨b, 2, none⟩ v2).setCell ⟨b, 3, none⟩ v3).cell? ⟨b, 1, none⟩ = some v1 ∧
    ((((w.setCell ⟨b, 0, none⟩ v0).setCell ⟨b, 1, none⟩ v1).setCell ⟨b, 2, none⟩ v2).setCell ⟨b, 3, none⟩ v3).cell? ⟨b, 2, none⟩ = some v2 ∧ ((((w.setCell ⟨b, 0, none⟩ v0).setCell ⟨b, 1, none⟩ v1).setCell ⟨b, 2, none⟩ v2).setCell ⟨b, 3, none⟩ v3).cell? ⟨b, 3, none⟩ = some v3 := by
  have ne : ∀ {i j : Nat}, i ≠ j → (⟨b, i, none⟩ : Addr) ≠ ⟨b, j, none⟩ := fun h e => h (by injection e)
  refine ⟨?_, ?_, ?_, ?_⟩
  · rw [World.cell?_setCell_other _ _ _ _ (ne (by decide)), World.cell?_setCell_other _ _ _ _ (ne (by decide)), World.cell?_setCell_other _ _ _ _ (ne (by decide))]
    exact World.cell?_setCell_same _ _ _ h0
  · rw [World.cell?_setCell_other _ _ _ _ (ne (by decide)), World.cell?_setCell_other _ _ _ _ (ne (by decide))]
    exact World.cell?_setCell_same _ _ _ ((World.cell?_setCell_other _ _ _ _ (ne (by decide))).trans h1)
  · rw [World.cell?_setCell_other _ _ _ _ (ne (by decide))]
    exact World.cell?_setCell_same _ _ _ ((World.cell?_setCell_other _ _ _ _ (ne (by decide))).trans ((World.cell?_setCell_other _ _ _ _ (ne (by decide))).trans h2))
  · exact World.cell?_setCell_same _ _ _ ((World.cell?_setCell_other _ _ _ _ (ne (by decide))).trans ((World.cell?_setCell_other _ _ _ _ (ne (by decide))).trans ((World.cell?_setCell_other _ _ _ _ (ne (by decide))).trans h3)))
set_option maxHeartbeats 400000 in
set_option maxRecDepth 100000 in
theorem toNode_any (x : Node) (ka : Option Addr) (kc lo hi : Nat) (w : World) (hr : Rd intF.shape lo hi w (.slice ka x.kids.length kc) x.kids) (hh : hi ≤ w.heap.size) (hl : x.kids.length ≤ 1048576) :
    Calls Tryd.prog 18 #[x.v ka kc] w fun e w' => ∃ s : SV, e = .returned (.agg #[.int .i64 x.kind, .string x.text, s.v, .bool x.blank]) ∧ Below w.heap.size w w' ∧ Own intF 3 w.heap.size w'.heap.size w' s.v x.kids := by
  obtain ⟨kind, text, kids, blank⟩ := x
  unfold Node.v
  simp only at hl hr ⊢
  go_enter Tryd.func18, Tryd.ntmps18
  go_wp2_with fail
  generalize hA : Obj.cells #[Value.int IntKind.i64 kind, Value.string text, Value.slice ka kids.length kc, Value.bool blank] 37 = A
  generalize hZ : Obj.cells #[Value.int IntKind.i64 0, Value.string { data := #[] }, Value.slice none 0 0, Value.bool false] 40 = Z
  generalize hC : Obj.cells #[Value.int IntKind.i64 kind, Value.string text, Value.slice none 0 0, Value.bool false] 40 = C
  have hb0 : Below w.heap.size w (((w.alloc A).alloc Z).alloc C) := (((Below.refl _ _).alloc (Nat.le_refl _) _).alloc (by simp) _).alloc (by simp; omega) _
  have hs0 : (((w.alloc A).alloc Z).alloc C).heap.size = w.heap.size + 3 := by simp
  obtain ⟨p0, p1, p2⟩ := heap_three w A Z C
  replace hr := hr.below hb0 hh
  generalize ((w.alloc A).alloc Z).alloc C = w0 at *
  refine (toIntS_any kids _ lo hi _ hr (by omega) hl).mono ?_
  rintro e w1 ⟨u, rfl, hb1, ho⟩
  obtain ⟨a, c, rfl, _, _, _⟩ := ho.form
  have hs1 := hb1.size
  have r0 := (hb1.block w.heap.size (by omega)).trans p0
  have r1 := (hb1.block (w.heap.size + 1) (by omega)).trans p1
  have r2 := (hb1.block (w.heap.size + 1 + 1) (by omega)).trans p2
  rw [← hA] at r0
  rw [← hZ] at r1
  rw [← hC] at r2
  have c3 := cell_heap (j := 3) r0 rfl
  have y0 := cell_heap (j := 0) r1 rfl
  have y1 := cell_heap (j := 1) r1 rfl
  have y2 := cell_heap (j := 2) r1 rfl
  have y3 := cell_heap (j := 3) r1 rfl
  have x0 := cell_heap (j := 0) r2 rfl
  have x1 := cell_heap (j := 1) r2 rfl
  have x2 := cell_heap (j := 2) r2 rfl
  have x3 := cell_heap (j := 3) r2 rfl
  have f0 := frozen_heap (j := 0) r1
  have f1 := frozen_heap (j := 1) r1
  have f2 := frozen_heap (j := 2) r1
  have f3 := frozen_heap (j := 3) r1
  have g2 := frozen_heap (j := 2) r2
  have g3 := frozen_heap (j := 3) r2
  have hf : ∀ g, (Value.slice a kids.length c).ownBlock = some g → w.heap.size + 3 ≤ g := fun g hg => by have := (ho.below_heap g hg).1; omega
  clear r0 r1 r2 p0 p1 p2 hr
  have hbA : Below w.heap.size w w1 := hb0.trans (hb1.mono (by omega))
  clear hb0 hb1
  have hoB := fun g hg => (ho.below_heap g hg).1
  generalize hB : w.heap.size = B at *
  go_wp2
  have nb : ∀ {i j : Nat}, (⟨B + 1 + 1, i, none⟩ : Addr) ≠ ⟨B + 1, j, none⟩ := fun h => by injection h; omega
  have oth : ∀ j, ((w1.setCell ⟨B + 1 + 1, 2, none⟩ (.slice a kids.length c)).setCell ⟨B + 1 + 1, 3, none⟩ (.bool blank)).cell? ⟨B + 1, j, none⟩ = w1.cell? ⟨B + 1, j, none⟩ := fun j => (World.cell?_setCell_other _ _ _ _ nb).trans (World.cell?_setCell_other _ _ _ _ nb)
  obtain ⟨z0, z1, z2, z3⟩ := set4 (v0 := .int .i64 kind) (v1 := .string text) (v2 := .slice a kids.length c) (v3 := .bool blank) ((oth 0).trans y0) ((oth 1).trans y1) ((oth 2).trans y2) ((oth 3).trans y3)
  have hb9 := (((((hbA.setCell (p := ⟨B + 1 + 1, 2, none⟩) (by show B ≤ B + 1 + 1; omega) (.slice a kids.length c)).setCell (p := ⟨B + 1 + 1, 3, none⟩) (by show B ≤ B + 1 + 1; omega) (.bool blank)).setCell (p := ⟨B + 1, 0, none⟩) (by show B ≤ B + 1; omega) (.int .i64 kind)).setCell (p := ⟨B + 1, 1, none⟩) (by show B ≤ B + 1; omega) (.string text)).setCell (p := ⟨B + 1, 2, none⟩) (by show B ≤ B + 1; omega) (.slice a kids.length c)).setCell (p := ⟨B + 1, 3, none⟩) (by show B ≤ B + 1; omega) (.bool blank)
  have n1 : (Value.slice a kids.length c).ownBlock ≠ some (B + 1) := fun e => by have := hoB _ e; omega
  have n2 : (Value.slice a kids.length c).ownBlock ≠ some (B + 1 + 1) := fun e => by have := hoB _ e; omega
  have ho9 := ((((((ho.keepFar n2 2 (.slice a kids.length c)).keepFar n2 3 (.bool blank)).keepFar n1 0 (.int .i64 kind)).keepFar n1 1 (.string text)).keepFar n1 2 (.slice a kids.length c)).keepFar n1 3 (.bool blank)).up.wide (Nat.le_trans (by omega : B ≤ w0.heap.size) (Nat.le_refl _)) (Nat.le_refl _)
  generalize ((((((w1.setCell ⟨B + 1 + 1, 2, none⟩ (.slice a kids.length c)).setCell ⟨B + 1 + 1, 3, none⟩ (.bool blank)).setCell ⟨B + 1, 0, none⟩ (.int .i64 kind)).setCell ⟨B + 1, 1, none⟩ (.string text)).setCell ⟨B + 1, 2, none⟩ (.slice a kids.length c)).setCell ⟨B + 1, 3, none⟩ (.bool blank)) = w9 at *
  subst hB
  refine bodyPost_ret (v := .agg #[.int .i64 kind, .string text, .slice a kids.length c, .bool blank]) (by simp [results, Tryd.results18, go_sem, z0, z1, z2, z3]) rfl ⟨(a, kids.length, c), rfl, hb9, ho9⟩
end Go.Proofs.YtbgcifmhemldoaaDoor
