/- Ran: how it lies in memory; the law's helpers for it; SameRan of the program and of the reference. -/
import Derived.Test.YthfeochekadhcaaHNodeC
namespace Go.Proofs.Ythfeochekadhcaa
open Go.RowKit
structure Ran where
  out : List Int
  ret : Int
  code : Int
  steps : Int
def ranS : Shape Ran :=
  { size := 4, rel := fun lo hi w x cs => ∃ v, cs = [v, .int .i64 x.ret, .int .i64 x.code, .int .i64 x.steps] ∧ Rd intF.shape lo hi w v x.out,
    len := by rintro _ _ _ _ _ ⟨v, rfl, _⟩; rfl
    same := by rintro _ _ _ _ _ _ ⟨v, rfl, h⟩ hs; exact ⟨v, rfl, h.same hs⟩
    wide := by rintro _ _ _ _ _ _ _ ⟨v, rfl, h⟩ h1 h2; exact ⟨v, rfl, h.wide h1 h2⟩ }
def Ran.v (x : Ran) (oa : Option Addr) (oc : Nat) : Value := .agg #[.slice oa x.out.length oc, .int .i64 x.ret, .int .i64 x.code, .int .i64 x.steps]
theorem Try.cells48 : Try.prog.cellsOf 48 = 4 := by kernel_rfl
theorem opens_Ran : Opens Try.prog ranS 48 (fun _ => True) := by
  intro H enc w base spare held fuel cs x hx
  obtain ⟨ys, m, _, _, hlen, hl, hf⟩ := DataW.trod_struct Try.underlying48 hx
  rw [Try.cells48] at hlen
  obtain ⟨c0, r0, rfl, hn0⟩ := list_cons hlen
  obtain ⟨c1, r1, rfl, hn1⟩ := list_cons hn0
  obtain ⟨c2, r2, rfl, hn2⟩ := list_cons hn1
  obtain ⟨c3, r3, rfl, hn3⟩ := list_cons hn2
  obtain rfl := list_nil hn3
  have h0 : DataW.trod enc Try.prog w base spare held m 46 ((([c0, c1, c2, c3] : List Value).drop 0).take (Try.prog.cellsOf 46)) = ys[0]? := hf 0 _ rfl
  rw [Try.cellsInts, List.getElem?_eq_getElem (show 0 < ys.length by rw [hl]; exact of_decide_eq_true rfl)] at h0
  obtain ⟨a0, ⟨v0, e0, hr0⟩, _⟩ := opens_sl Try.underlying46 Try.cellsInt (by decide) (opens_int Try.underlying3) H enc w base spare held m _ _ h0
  have h1 : DataW.trod enc Try.prog w base spare held m 3 ((([c0, c1, c2, c3] : List Value).drop 1).take (Try.prog.cellsOf 3)) = ys[1]? := hf 1 _ rfl
  rw [Try.cellsInt, List.getElem?_eq_getElem (show 1 < ys.length by rw [hl]; exact of_decide_eq_true rfl)] at h1
  obtain ⟨a1, e1, _⟩ := opens_int Try.underlying3 H enc w base spare held m _ _ h1
  have h2 : DataW.trod enc Try.prog w base spare held m 3 ((([c0, c1, c2, c3] : List Value).drop 2).take (Try.prog.cellsOf 3)) = ys[2]? := hf 2 _ rfl
  rw [Try.cellsInt, List.getElem?_eq_getElem (show 2 < ys.length by rw [hl]; exact of_decide_eq_true rfl)] at h2
  obtain ⟨a2, e2, _⟩ := opens_int Try.underlying3 H enc w base spare held m _ _ h2
  have h3 : DataW.trod enc Try.prog w base spare held m 3 ((([c0, c1, c2, c3] : List Value).drop 3).take (Try.prog.cellsOf 3)) = ys[3]? := hf 3 _ rfl
  rw [Try.cellsInt, List.getElem?_eq_getElem (show 3 < ys.length by rw [hl]; exact of_decide_eq_true rfl)] at h3
  obtain ⟨a3, e3, _⟩ := opens_int Try.underlying3 H enc w base spare held m _ _ h3
  obtain rfl : c0 = v0 := (List.cons.inj e0).1
  obtain rfl : c1 = .int .i64 a1 := (List.cons.inj e1).1
  obtain rfl : c2 = .int .i64 a2 := (List.cons.inj e2).1
  obtain rfl : c3 = .int .i64 a3 := (List.cons.inj e3).1
  exact ⟨⟨a0, a1, a2, a3⟩, ⟨c0, rfl, hr0⟩, trivial⟩

set_option maxHeartbeats 400000 in
theorem szRan_any (x : Ran) (oa : Option Addr) (oc lo hi : Nat) (left : Int) (w : World) (hr : Rd intF.shape lo hi w (.slice oa x.out.length oc) x.out) (hh : hi ≤ w.heap.size) (h0 : 0 ≤ left) (h1 : left ≤ 1048576) :
    Calls Try.prog 32 #[x.v oa oc, .int .i64 left] w fun e w' => e = .returned (.int .i64 (szR left x.out.length)) ∧ Below w.heap.size w w' := by
  have hl := hr.len_le
  obtain ⟨out, ret, code, steps⟩ := x
  unfold Ran.v
  simp only at hr hl ⊢
  have hba : ∀ A, Below w.heap.size w (w.alloc A) := fun A => (Below.refl _ _).alloc (Nat.le_refl _) A
  go_enter Try.func32, Try.ntmps32
  go_wp2_with fail
  have hs1 := (hba (.cells #[.slice oa out.length oc, .int .i64 ret, .int .i64 code, .int .i64 steps] 48)).size
  refine (szIntS_any out _ lo hi _ _ (hr.below (hba _) hh) (by omega) (by omega) (by omega)).mono ?_
  rintro e w1 ⟨rfl, hb1⟩
  have hb2 := (hba (.cells #[.slice oa out.length oc, .int .i64 ret, .int .i64 code, .int .i64 steps] 48)).trans (hb1.mono hs1)
  by_cases hz : left - (out.length : Nat) < 0
  · have hz' := Lib.hid (szR_no hz)
    rw [show szR left (intWts out) = -1 from hz'.out.symm]
    go_wp2
    go_ret
    exact ⟨ret_int hz'.out, hb2⟩
  · have hz' := Lib.hid (szR_yes (Int.not_lt.1 hz))
    rw [show szR left (intWts out) = left - (out.length : Nat) from hz'.out.symm]
    go_wp2
    go_ret
    exact ⟨ret_int hz'.out, hb2⟩

set_option maxHeartbeats 400000 in
set_option maxRecDepth 100000 in
theorem toRan_any (x : Ran) (oa : Option Addr) (oc lo hi : Nat) (w : World) (hr : Rd intF.shape lo hi w (.slice oa x.out.length oc) x.out) (hh : hi ≤ w.heap.size) (hl : x.out.length ≤ 1048576) :
    Calls Try.prog 34 #[x.v oa oc] w fun e w' => ∃ sa sc, e = .returned (x.v sa sc) ∧ Below w.heap.size w w' ∧ Own intF 3 w.heap.size w'.heap.size w' (.slice sa x.out.length sc) x.out := by
  obtain ⟨out, ret, code, steps⟩ := x
  unfold Ran.v
  simp only at hl hr ⊢
  go_enter Try.func34, Try.ntmps34
  go_wp2_with fail
  generalize hA : Obj.cells #[Value.slice oa out.length oc, Value.int IntKind.i64 ret, Value.int IntKind.i64 code, Value.int IntKind.i64 steps] 48 = A
  generalize hZ : Obj.cells #[Value.slice none 0 0, Value.int IntKind.i64 0, Value.int IntKind.i64 0, Value.int IntKind.i64 0] 51 = Z
  have hb0 : Below w.heap.size w (((w.alloc A).alloc Z).alloc Z) := (((Below.refl _ _).alloc (Nat.le_refl _) _).alloc (by simp) _).alloc (by simp; omega) _
  have hs0 : (((w.alloc A).alloc Z).alloc Z).heap.size = w.heap.size + 3 := by simp
  obtain ⟨p0, p1, p2⟩ := heap_three w A Z Z
  replace hr := hr.below hb0 hh
  generalize ((w.alloc A).alloc Z).alloc Z = w0 at *
  refine (toIntS_any out _ lo hi _ hr (by omega) hl).mono ?_
  rintro e w1 ⟨u, rfl, hb1, ho⟩
  obtain ⟨a, c, rfl, _, _, _⟩ := ho.form
  have hs1 := hb1.size
  have r0 := (hb1.block w.heap.size (by omega)).trans p0
  have r1 := (hb1.block (w.heap.size + 1) (by omega)).trans p1
  have r2 := (hb1.block (w.heap.size + 1 + 1) (by omega)).trans p2
  rw [← hA] at r0
  rw [← hZ] at r1 r2
  have c1 := cell_heap (j := 1) r0 rfl
  have c2 := cell_heap (j := 2) r0 rfl
  have c3 := cell_heap (j := 3) r0 rfl
  have y0 := cell_heap (j := 0) r1 rfl
  have y1 := cell_heap (j := 1) r1 rfl
  have y2 := cell_heap (j := 2) r1 rfl
  have y3 := cell_heap (j := 3) r1 rfl
  have x0 := cell_heap (j := 0) r2 rfl
  have x1 := cell_heap (j := 1) r2 rfl
  have x2 := cell_heap (j := 2) r2 rfl
  have x3 := cell_heap (j := 3) r2 rfl
  have f0 := frozen_heap (j := 0) r1
  have f1 := frozen_heap (j := 1) r1
  have f2 := frozen_heap (j := 2) r1
  have f3 := frozen_heap (j := 3) r1
  have g0 := frozen_heap (j := 0) r2
  have g1 := frozen_heap (j := 1) r2
  have g2 := frozen_heap (j := 2) r2
  have g3 := frozen_heap (j := 3) r2
  clear r0 r1 r2 p0 p1 p2 hr
  have hbA : Below w.heap.size w w1 := hb0.trans (hb1.mono (by omega))
  clear hb0 hb1
  have hoB := fun g hg => (ho.below_heap g hg).1
  generalize hB : w.heap.size = B at *
  go_wp2
  obtain ⟨hb8, ho8, hs8, oth⟩ : Below B w ((((w1.setCell ⟨B + 1 + 1, 0, none⟩ (.slice a out.length c)).setCell ⟨B + 1 + 1, 1, none⟩ (.int .i64 ret)).setCell ⟨B + 1 + 1, 2, none⟩ (.int .i64 code)).setCell ⟨B + 1 + 1, 3, none⟩ (.int .i64 steps)) ∧
      Own intF 3 w0.heap.size w1.heap.size ((((w1.setCell ⟨B + 1 + 1, 0, none⟩ (.slice a out.length c)).setCell ⟨B + 1 + 1, 1, none⟩ (.int .i64 ret)).setCell ⟨B + 1 + 1, 2, none⟩ (.int .i64 code)).setCell ⟨B + 1 + 1, 3, none⟩ (.int .i64 steps)) (.slice a out.length c) out ∧
      w1.heap.size ≤ ((((w1.setCell ⟨B + 1 + 1, 0, none⟩ (.slice a out.length c)).setCell ⟨B + 1 + 1, 1, none⟩ (.int .i64 ret)).setCell ⟨B + 1 + 1, 2, none⟩ (.int .i64 code)).setCell ⟨B + 1 + 1, 3, none⟩ (.int .i64 steps)).heap.size ∧
      ∀ j, ((((w1.setCell ⟨B + 1 + 1, 0, none⟩ (.slice a out.length c)).setCell ⟨B + 1 + 1, 1, none⟩ (.int .i64 ret)).setCell ⟨B + 1 + 1, 2, none⟩ (.int .i64 code)).setCell ⟨B + 1 + 1, 3, none⟩ (.int .i64 steps)).cell? ⟨B + 1, j, none⟩ = w1.cell? ⟨B + 1, j, none⟩ := by
    have n2 : (Value.slice a out.length c).ownBlock ≠ some (B + 1 + 1) := fun e => by have := hoB _ e; omega
    have nb : ∀ {i j : Nat}, (⟨B + 1 + 1, i, none⟩ : Addr) ≠ ⟨B + 1, j, none⟩ := fun h => by injection h; omega
    exact ⟨(((hbA.setCell (p := ⟨B + 1 + 1, 0, none⟩) (by show B ≤ B + 1 + 1; omega) _).setCell (p := ⟨B + 1 + 1, 1, none⟩) (by show B ≤ B + 1 + 1; omega) _).setCell (p := ⟨B + 1 + 1, 2, none⟩) (by show B ≤ B + 1 + 1; omega) _).setCell (p := ⟨B + 1 + 1, 3, none⟩) (by show B ≤ B + 1 + 1; omega) _,
      (((ho.keepFar n2 0 _).keepFar n2 1 _).keepFar n2 2 _).keepFar n2 3 _, by simp [World.setCell],
      fun j => (World.cell?_setCell_other _ _ _ _ nb).trans ((World.cell?_setCell_other _ _ _ _ nb).trans ((World.cell?_setCell_other _ _ _ _ nb).trans (World.cell?_setCell_other _ _ _ _ nb)))⟩
  generalize ((((w1.setCell ⟨B + 1 + 1, 0, none⟩ (.slice a out.length c)).setCell ⟨B + 1 + 1, 1, none⟩ (.int .i64 ret)).setCell ⟨B + 1 + 1, 2, none⟩ (.int .i64 code)).setCell ⟨B + 1 + 1, 3, none⟩ (.int .i64 steps)) = w8 at *
  obtain ⟨z0, z1, z2, z3⟩ := set4 (v0 := .slice a out.length c) (v1 := .int .i64 ret) (v2 := .int .i64 code) (v3 := .int .i64 steps) ((oth 0).trans y0) ((oth 1).trans y1) ((oth 2).trans y2) ((oth 3).trans y3)
  have hb9 := (((hb8.setCell (p := ⟨B + 1, 0, none⟩) (by show B ≤ B + 1; omega) (.slice a out.length c)).setCell (p := ⟨B + 1, 1, none⟩) (by show B ≤ B + 1; omega) (.int .i64 ret)).setCell (p := ⟨B + 1, 2, none⟩) (by show B ≤ B + 1; omega) (.int .i64 code)).setCell (p := ⟨B + 1, 3, none⟩) (by show B ≤ B + 1; omega) (.int .i64 steps)
  have n1 : (Value.slice a out.length c).ownBlock ≠ some (B + 1) := fun e => by have := hoB _ e; omega
  have ho9 := ((((ho8.keepFar n1 0 (.slice a out.length c)).keepFar n1 1 (.int .i64 ret)).keepFar n1 2 (.int .i64 code)).keepFar n1 3 (.int .i64 steps)).up.wide (Nat.le_trans (by omega : B ≤ w0.heap.size) (Nat.le_refl _)) (Nat.le_refl _)
  generalize ((((w8.setCell ⟨B + 1, 0, none⟩ (.slice a out.length c)).setCell ⟨B + 1, 1, none⟩ (.int .i64 ret)).setCell ⟨B + 1, 2, none⟩ (.int .i64 code)).setCell ⟨B + 1, 3, none⟩ (.int .i64 steps)) = w9 at *
  subst hB
  refine bodyPost_ret (v := .agg #[.slice a out.length c, .int .i64 ret, .int .i64 code, .int .i64 steps]) (by simp [results, Try.results34, go_sem, z0, z1, z2, z3]) rfl ⟨a, c, rfl, hb9, ho9⟩

set_option maxHeartbeats 400000 in
set_option maxRecDepth 100000 in
theorem eqRan_any (x : Ran) (ka ka' : Option Addr) (kc kc' lo hi lo' hi' : Nat) (w : World) (hr : Rd intF.shape lo hi w (.slice ka x.out.length kc) x.out) (hh : hi ≤ w.heap.size) (hr' : Rd intF.shape lo' hi' w (.slice ka' x.out.length kc') x.out) (hh' : hi' ≤ w.heap.size) :
    Calls Try.prog 36 #[x.v ka kc, x.v ka' kc'] w fun e w' => e = .returned (.bool true) ∧ Below w.heap.size w w' := by
  obtain ⟨out, ret, code, steps⟩ := x
  unfold Ran.v
  simp only at hr hr' ⊢
  go_enter Try.func36, Try.ntmps36
  go_wp2_with fail
  generalize hA : Obj.cells #[Value.slice ka out.length kc, Value.int IntKind.i64 ret, Value.int IntKind.i64 code, Value.int IntKind.i64 steps] 51 = A
  generalize hC : Obj.cells #[Value.slice ka' out.length kc', Value.int IntKind.i64 ret, Value.int IntKind.i64 code, Value.int IntKind.i64 steps] 51 = C
  have hb0 : Below w.heap.size w ((w.alloc A).alloc C) := ((Below.refl _ _).alloc (Nat.le_refl _) _).alloc (by simp) _
  have hs0 : ((w.alloc A).alloc C).heap.size = w.heap.size + 2 := by simp
  obtain ⟨p0, p1⟩ := heap_two w A C
  replace hr := hr.below hb0 hh
  replace hr' := hr'.below hb0 hh'
  generalize (w.alloc A).alloc C = w0 at *
  refine (eqIntS_any out _ _ _ _ _ _ _ hr (by omega) hr' (by omega)).mono ?_
  rintro e w1 ⟨rfl, hb1⟩
  have hs1 := hb1.size
  have r0 := (hb1.block w.heap.size (by omega)).trans p0
  have r1 := (hb1.block (w.heap.size + 1) (by omega)).trans p1
  rw [← hA] at r0
  rw [← hC] at r1
  have c1 : w1.cell? ⟨w.heap.size, 1, none⟩ = some (.int .i64 ret) := cell_heap (j := 1) r0 rfl
  have y1 : w1.cell? ⟨w.heap.size + 1, 1, none⟩ = some (.int .i64 ret) := cell_heap (j := 1) r1 rfl
  have c2 : w1.cell? ⟨w.heap.size, 2, none⟩ = some (.int .i64 code) := cell_heap (j := 2) r0 rfl
  have y2 : w1.cell? ⟨w.heap.size + 1, 2, none⟩ = some (.int .i64 code) := cell_heap (j := 2) r1 rfl
  have c3 : w1.cell? ⟨w.heap.size, 3, none⟩ = some (.int .i64 steps) := cell_heap (j := 3) r0 rfl
  have y3 : w1.cell? ⟨w.heap.size + 1, 3, none⟩ = some (.int .i64 steps) := cell_heap (j := 3) r1 rfl
  clear r0 r1 p0 p1 hr hr'
  go_wp2
  go_ret
  exact ⟨rfl, hb0.trans (hb1.mono (by omega))⟩
end Go.Proofs.Ythfeochekadhcaa
