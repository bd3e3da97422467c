/- The walk of FnExactSameRan: the law answers true and leaves the old blocks alone. -/
import Derived.Test.YthfeochekadhcaaSameRan
import Derived.Deep.RegionHeld3
namespace Go.Proofs.Ythfeochekadhcaa
open Go.ChangeShapes Go.WideShapes Go.ChangeAt Go.RowKit
open Go.ChangeMaps (open_string shut_string)
theorem keepC {w w' : World} {p : Addr} {v : Value} (h : w.cell? p = some v) (hb : Below w.heap.size w w') : w'.cell? p = some v := (hb.cell (Go.block_lt_of_cell h)).trans h
theorem keepS {W w w' : World} {p0 p1 p2 p3 q0 q1 q2 q3 : Addr} {u0 u1 u2 u3 v0 v1 v2 v3 : Value}
    (h : w.cell? p0 = some u0 ∧ w.cell? p1 = some u1 ∧ w.cell? p2 = some u2 ∧ w.cell? p3 = some u3 ∧ w.cell? q0 = some v0 ∧ w.cell? q1 = some v1 ∧ w.cell? q2 = some v2 ∧ w.cell? q3 = some v3 ∧ Below W.heap.size W w) (hb : Below w.heap.size w w') :
    w'.cell? p0 = some u0 ∧ w'.cell? p1 = some u1 ∧ w'.cell? p2 = some u2 ∧ w'.cell? p3 = some u3 ∧ w'.cell? q0 = some v0 ∧ w'.cell? q1 = some v1 ∧ w'.cell? q2 = some v2 ∧ w'.cell? q3 = some v3 ∧ Below W.heap.size W w' := by
  obtain ⟨h0, h1, h2, h3, h4, h5, h6, h7, h8⟩ := h
  exact ⟨keepC h0 hb, keepC h1 hb, keepC h2 hb, keepC h3 hb, keepC h4 hb, keepC h5 hb, keepC h6 hb, keepC h7 hb, h8.trans (hb.mono h8.size)⟩
theorem rdS {c0 c1 c2 c3 c4 c5 c6 c7 : Prop} {W w : World} {v : Value} {xs : List Int} {lo hi : Nat} (h : Rd intF.shape lo hi W v xs) (hh : hi ≤ W.heap.size) (hS : c0 ∧ c1 ∧ c2 ∧ c3 ∧ c4 ∧ c5 ∧ c6 ∧ c7 ∧ Below W.heap.size W w) : Rd intF.shape lo hi w v xs ∧ hi ≤ w.heap.size :=
  ⟨h.below hS.2.2.2.2.2.2.2.2 hh, Nat.le_trans hh hS.2.2.2.2.2.2.2.2.size⟩
set_option maxHeartbeats 4000000 in
set_option maxRecDepth 100000 in
theorem lawSameRan_any (x y : Ran) (ka ka' : Option Addr) (kc kc' : Nat) (w : World) (hr : Rd intF.shape 0 w.heap.size w (.slice ka x.out.length kc) x.out) (hr' : Rd intF.shape 0 w.heap.size w (.slice ka' y.out.length kc') y.out) :
    Calls Try.prog 7 #[x.v ka kc, y.v ka' kc'] w fun e w' => e = .returned (.bool true) ∧ Below w.heap.size w w' := by
  obtain ⟨out, ret, code, steps⟩ := x
  obtain ⟨out', ret', code', steps'⟩ := y
  unfold Ran.v
  simp only at hr hr' ⊢
  have hl := hr.len_le
  have hl' := hr'.len_le
  go_enter Try.func7, Try.ntmps7
  go_wp2_with fail
  generalize hA : Obj.cells #[Value.slice ka out.length kc, Value.int IntKind.i64 ret, Value.int IntKind.i64 code, Value.int IntKind.i64 steps] 48 = A
  generalize hC : Obj.cells #[Value.slice ka' out'.length kc', Value.int IntKind.i64 ret', Value.int IntKind.i64 code', Value.int IntKind.i64 steps'] 48 = C
  have hb0 : Below w.heap.size w ((w.alloc A).alloc C) := ((Below.refl _ _).alloc (Nat.le_refl _) _).alloc (by simp) _
  obtain ⟨p0, p1⟩ := heap_two w A C
  have C0 : ((w.alloc A).alloc C).cell? ⟨w.heap.size, 0, none⟩ = some (.slice ka out.length kc) := cell_heap (j := 0) (p0.trans (congrArg some hA.symm)) rfl
  have C1 : ((w.alloc A).alloc C).cell? ⟨w.heap.size, 1, none⟩ = some (.int .i64 ret) := cell_heap (j := 1) (p0.trans (congrArg some hA.symm)) rfl
  have C2 : ((w.alloc A).alloc C).cell? ⟨w.heap.size, 2, none⟩ = some (.int .i64 code) := cell_heap (j := 2) (p0.trans (congrArg some hA.symm)) rfl
  have C3 : ((w.alloc A).alloc C).cell? ⟨w.heap.size, 3, none⟩ = some (.int .i64 steps) := cell_heap (j := 3) (p0.trans (congrArg some hA.symm)) rfl
  have E0 : ((w.alloc A).alloc C).cell? ⟨w.heap.size + 1, 0, none⟩ = some (.slice ka' out'.length kc') := cell_heap (j := 0) (p1.trans (congrArg some hC.symm)) rfl
  have E1 : ((w.alloc A).alloc C).cell? ⟨w.heap.size + 1, 1, none⟩ = some (.int .i64 ret') := cell_heap (j := 1) (p1.trans (congrArg some hC.symm)) rfl
  have E2 : ((w.alloc A).alloc C).cell? ⟨w.heap.size + 1, 2, none⟩ = some (.int .i64 code') := cell_heap (j := 2) (p1.trans (congrArg some hC.symm)) rfl
  have E3 : ((w.alloc A).alloc C).cell? ⟨w.heap.size + 1, 3, none⟩ = some (.int .i64 steps') := cell_heap (j := 3) (p1.trans (congrArg some hC.symm)) rfl
  have S0 := And.intro C0 (And.intro C1 (And.intro C2 (And.intro C3 (And.intro E0 (And.intro E1 (And.intro E2 (And.intro E3 hb0)))))))
  clear C0 C1 C2 C3 E0 E1 E2 E3 p0 p1 hb0 hA hC
  generalize (w.alloc A).alloc C = w0 at *
  have R0 := rdS hr (Nat.le_refl _) S0
  refine (szRan_any ⟨out, ret, code, steps⟩ ka kc _ _ _ _ R0.1 R0.2 (by omega) (by omega)).mono ?_
  rintro e w1 ⟨rfl, hb1⟩
  have S1 := keepS S0 hb1
  have HB1 := S1.2.2.2.2.2.2.2.2
  clear R0 S0
  by_cases hz0 : szR 1048576 out.length < 0
  · go_wp2
    go_ret
    exact ⟨rfl, HB1⟩
  have hn0 := szR_nneg hz0
  have hy0 := Lib.hid (szR_yes hn0)
  rw [show szR 1048576 (Ran.out ⟨out, ret, code, steps⟩).length = szR 1048576 out.length from rfl, ← hy0.out]
  rw [← hy0.out] at hz0
  obtain ⟨C0, C1, C2, C3, E0, E1, E2, E3, _⟩ := S1
  go_wp2_with fail
  have S1 := And.intro C0 (And.intro C1 (And.intro C2 (And.intro C3 (And.intro E0 (And.intro E1 (And.intro E2 (And.intro E3 HB1)))))))
  clear C0 C1 C2 C3 E0 E1 E2 E3
  have R0 := rdS hr' (Nat.le_refl _) S1
  refine (szRan_any ⟨out', ret', code', steps'⟩ ka' kc' _ _ _ _ R0.1 R0.2 hn0 (by omega)).mono ?_
  rintro e w2 ⟨rfl, hb2⟩
  have S2 := keepS S1 hb2
  have HB2 := S2.2.2.2.2.2.2.2.2
  clear R0 S1 hb1 hb2 HB1
  by_cases hz1 : szR (1048576 - (out.length : Int)) out'.length < 0
  · go_wp2
    go_ret
    exact ⟨rfl, HB2⟩
  have hn1 := szR_nneg hz1
  have hy1 := Lib.hid (szR_yes hn1)
  rw [show szR (1048576 - (out.length : Int)) (Ran.out ⟨out', ret', code', steps'⟩).length = szR (1048576 - (out.length : Int)) out'.length from rfl, ← hy1.out]
  rw [← hy1.out] at hz1
  have hlo : out.length ≤ 1048576 := by omega
  have hlo' : out'.length ≤ 1048576 := by omega
  obtain ⟨C0, C1, C2, C3, E0, E1, E2, E3, _⟩ := S2
  go_wp2_with fail
  go_region_held3 (fun w' => w'.cell? ⟨w.heap.size, 0, none⟩ = some (.slice ka out.length kc) ∧ w'.cell? ⟨w.heap.size, 1, none⟩ = some (.int .i64 ret) ∧ w'.cell? ⟨w.heap.size, 2, none⟩ = some (.int .i64 code) ∧ w'.cell? ⟨w.heap.size, 3, none⟩ = some (.int .i64 steps) ∧
      w'.cell? ⟨w.heap.size + 1, 0, none⟩ = some (.slice ka' out'.length kc') ∧ w'.cell? ⟨w.heap.size + 1, 1, none⟩ = some (.int .i64 ret') ∧ w'.cell? ⟨w.heap.size + 1, 2, none⟩ = some (.int .i64 code') ∧ w'.cell? ⟨w.heap.size + 1, 3, none⟩ = some (.int .i64 steps') ∧ Below w.heap.size w w')
    (first | exact keepS (by assumption) hbc | exact keepS (by assumption) hbb | exact keepS (by assumption) hba | exact ⟨C0, C1, C2, C3, E0, E1, E2, E3, HB2⟩ | exact ⟨C0, C1, C2, C3, E0, E1, E2, E3, HB2.drew⟩ | go_keep)
    (first
      | (go_at_call 33; refine (sameRan_spec ⟨out, ret, code, steps⟩ ⟨out', ret', code', steps'⟩ sa sb sc sd _ _ _ _ _ (hoa.rd.below hbb (Nat.le_refl _)) hbb.size hob.rd (Nat.le_refl _)).mono ?_; rintro e wc ⟨rfl, hbc⟩)
      | (go_at_call 34; have _hx := hba; refine (toRan_any ⟨out', ret', code', steps'⟩ ka' kc' _ _ _ (rdS hr' (Nat.le_refl _) (by assumption)).1 (rdS hr' (Nat.le_refl _) (by assumption)).2 hlo').mono ?_; rintro e wb ⟨sb, sd, rfl, hbb, hob⟩; unfold Ran.v)
      | (go_at_call 34; refine (toRan_any ⟨out, ret, code, steps⟩ ka kc _ _ _ (rdS hr (Nat.le_refl _) (by assumption)).1 (rdS hr (Nat.le_refl _) (by assumption)).2 hlo).mono ?_; rintro e wa ⟨sa, sc, rfl, hba, hoa⟩; unfold Ran.v))
  rename_i hS
  obtain ⟨D0, D1, D2, D3, F0, F1, F2, F3, HBc⟩ := hS
  clear C0 C1 C2 C3 E0 E1 E2 E3 HB2 hba hbb hbc hoa hob
  go_wp2_with fail
  refine (toRan_any ⟨out, ret, code, steps⟩ ka kc _ _ _ (hr.below HBc (Nat.le_refl _)) HBc.size hlo).mono ?_
  rintro e wd ⟨sx, tx, rfl, hbd, hox⟩
  unfold Ran.v
  have HBd := HBc.trans (hbd.mono HBc.size)
  have szd := HBd.size
  have C0 := keepC D0 hbd
  have C1 := keepC D1 hbd
  have C2 := keepC D2 hbd
  have C3 := keepC D3 hbd
  have E0 := keepC F0 hbd
  have E1 := keepC F1 hbd
  have E2 := keepC F2 hbd
  have E3 := keepC F3 hbd
  have hlt := Go.block_lt_of_cell E0
  clear D0 D1 D2 D3 F0 F1 F2 F3 hbd
  go_wp2_with fail
  generalize hX : Obj.cells #[Value.slice sx out.length tx, Value.int IntKind.i64 ret, Value.int IntKind.i64 code, Value.int IntKind.i64 steps] 51 = X
  have hbX : Below wd.heap.size wd (wd.alloc X) := (Below.refl _ _).alloc (Nat.le_refl _) _
  have szX : (wd.alloc X).heap.size = wd.heap.size + 1 := by simp
  have pX := heap_alloc_new wd X
  have X0 : (wd.alloc X).cell? ⟨wd.heap.size, 0, none⟩ = some (.slice sx out.length tx) := cell_heap (j := 0) (pX.trans (congrArg some hX.symm)) rfl
  have X1 : (wd.alloc X).cell? ⟨wd.heap.size, 1, none⟩ = some (.int .i64 ret) := cell_heap (j := 1) (pX.trans (congrArg some hX.symm)) rfl
  have X2 : (wd.alloc X).cell? ⟨wd.heap.size, 2, none⟩ = some (.int .i64 code) := cell_heap (j := 2) (pX.trans (congrArg some hX.symm)) rfl
  have X3 : (wd.alloc X).cell? ⟨wd.heap.size, 3, none⟩ = some (.int .i64 steps) := cell_heap (j := 3) (pX.trans (congrArg some hX.symm)) rfl
  replace C0 := keepC C0 hbX
  replace C1 := keepC C1 hbX
  replace C2 := keepC C2 hbX
  replace C3 := keepC C3 hbX
  replace E0 := keepC E0 hbX
  replace E1 := keepC E1 hbX
  replace E2 := keepC E2 hbX
  replace E3 := keepC E3 hbX
  have HB8 := HBd.trans (hbX.mono szd)
  have hx8 := hox.rd.below hbX (Nat.le_refl _)
  clear pX hX hbX HBc HBd hox
  generalize wd.alloc X = w8 at *
  refine (toRan_any ⟨out', ret', code', steps'⟩ ka' kc' _ _ _ (hr'.below HB8 (Nat.le_refl _)) HB8.size hlo').mono ?_
  rintro e we ⟨sy, ty, rfl, hbe, hoy⟩
  unfold Ran.v
  have HBe := HB8.trans (hbe.mono HB8.size)
  have sze := HBe.size
  have sz8 := hbe.size
  replace C0 := keepC C0 hbe
  replace C1 := keepC C1 hbe
  replace C2 := keepC C2 hbe
  replace C3 := keepC C3 hbe
  replace E0 := keepC E0 hbe
  replace E1 := keepC E1 hbe
  replace E2 := keepC E2 hbe
  replace E3 := keepC E3 hbe
  replace X0 := keepC X0 hbe
  replace X1 := keepC X1 hbe
  replace X2 := keepC X2 hbe
  replace X3 := keepC X3 hbe
  have hxe := hx8.below hbe (by omega)
  have hlx := Go.block_lt_of_cell X0
  clear HB8 hbe hx8
  go_wp2_with fail
  generalize hY : Obj.cells #[Value.slice sy out'.length ty, Value.int IntKind.i64 ret', Value.int IntKind.i64 code', Value.int IntKind.i64 steps'] 51 = Y
  have hbY : Below we.heap.size we (we.alloc Y) := (Below.refl _ _).alloc (Nat.le_refl _) _
  have szY : (we.alloc Y).heap.size = we.heap.size + 1 := by simp
  have pY := heap_alloc_new we Y
  have Y0 : (we.alloc Y).cell? ⟨we.heap.size, 0, none⟩ = some (.slice sy out'.length ty) := cell_heap (j := 0) (pY.trans (congrArg some hY.symm)) rfl
  have Y1 : (we.alloc Y).cell? ⟨we.heap.size, 1, none⟩ = some (.int .i64 ret') := cell_heap (j := 1) (pY.trans (congrArg some hY.symm)) rfl
  have Y2 : (we.alloc Y).cell? ⟨we.heap.size, 2, none⟩ = some (.int .i64 code') := cell_heap (j := 2) (pY.trans (congrArg some hY.symm)) rfl
  have Y3 : (we.alloc Y).cell? ⟨we.heap.size, 3, none⟩ = some (.int .i64 steps') := cell_heap (j := 3) (pY.trans (congrArg some hY.symm)) rfl
  replace C0 := keepC C0 hbY
  replace C1 := keepC C1 hbY
  replace C2 := keepC C2 hbY
  replace C3 := keepC C3 hbY
  replace E0 := keepC E0 hbY
  replace E1 := keepC E1 hbY
  replace E2 := keepC E2 hbY
  replace E3 := keepC E3 hbY
  replace X0 := keepC X0 hbY
  replace X1 := keepC X1 hbY
  replace X2 := keepC X2 hbY
  replace X3 := keepC X3 hbY
  have HB9 := HBe.trans (hbY.mono sze)
  have hx9 := hxe.below hbY (by omega)
  have hy9 := hoy.rd.below hbY (Nat.le_refl _)
  clear pY hY hbY HBe hoy hxe
  generalize we.alloc Y = w9 at *
  refine (sameRan_impl ⟨out, ret, code, steps⟩ ⟨out', ret', code', steps'⟩ sx sy tx ty _ _ _ _ _ hx9 (by omega) hy9 (by omega)).mono ?_
  rintro e wf ⟨rfl, hbf⟩
  have HBf := HB9.trans (hbf.mono HB9.size)
  have szf := hbf.size
  replace C0 := keepC C0 hbf
  replace C1 := keepC C1 hbf
  replace C2 := keepC C2 hbf
  replace C3 := keepC C3 hbf
  replace E0 := keepC E0 hbf
  replace E1 := keepC E1 hbf
  replace E2 := keepC E2 hbf
  replace E3 := keepC E3 hbf
  replace X0 := keepC X0 hbf
  replace X1 := keepC X1 hbf
  replace X2 := keepC X2 hbf
  replace X3 := keepC X3 hbf
  replace Y0 := keepC Y0 hbf
  replace Y1 := keepC Y1 hbf
  replace Y2 := keepC Y2 hbf
  replace Y3 := keepC Y3 hbf
  have hxf := hx9.below hbf (by omega)
  have hyf := hy9.below hbf (by omega)
  have hrf := hr.below HBf (Nat.le_refl _)
  have hrf' := hr'.below HBf (Nat.le_refl _)
  have HS := HBf.size
  have hix : wd.heap.size ≤ wf.heap.size := by omega
  have hiy : we.heap.size ≤ wf.heap.size := by omega
  clear HB9 hbf hx9 hy9 hr hr'
  generalize HE : sameR ⟨out, ret, code, steps⟩ ⟨out', ret', code', steps'⟩ = bb at *
  clear HE
  go_wp2_with fail
  go_region_held3 (fun w' => w'.cell? ⟨wd.heap.size, 0, none⟩ = some (.slice sx out.length tx) ∧ w'.cell? ⟨wd.heap.size, 1, none⟩ = some (.int .i64 ret) ∧ w'.cell? ⟨wd.heap.size, 2, none⟩ = some (.int .i64 code) ∧ w'.cell? ⟨wd.heap.size, 3, none⟩ = some (.int .i64 steps) ∧
      w'.cell? ⟨w.heap.size, 0, none⟩ = some (.slice ka out.length kc) ∧ w'.cell? ⟨w.heap.size, 1, none⟩ = some (.int .i64 ret) ∧ w'.cell? ⟨w.heap.size, 2, none⟩ = some (.int .i64 code) ∧ w'.cell? ⟨w.heap.size, 3, none⟩ = some (.int .i64 steps) ∧ Below wf.heap.size wf w')
    (first | exact keepS (by assumption) hbg2 | exact keepS (by assumption) hbg1 | exact ⟨X0, X1, X2, X3, C0, C1, C2, C3, Below.refl _ _⟩ | exact ⟨X0, X1, X2, X3, C0, C1, C2, C3, (Below.refl _ _).drew⟩ | go_keep)
    (first
      | (go_at_call 36; refine (eqRan_any ⟨out, ret, code, steps⟩ sx zg tx yg _ _ _ _ _ (rdS hxf hix (by assumption)).1 (rdS hxf hix (by assumption)).2 hog.rd (Nat.le_refl _)).mono ?_; rintro e wg2 ⟨rfl, hbg2⟩)
      | (go_at_call 34; refine (toRan_any ⟨out, ret, code, steps⟩ ka kc _ _ _ (rdS hrf HS (by assumption)).1 (rdS hrf HS (by assumption)).2 hlo).mono ?_; rintro e wg1 ⟨zg, yg, rfl, hbg1, hog⟩; unfold Ran.v))
  rename_i hS
  have hbg := hS.2.2.2.2.2.2.2.2
  clear hS hbg1 hbg2 hog
  have hyk := hyf.below hbg hiy
  have hrk := hrf'.below hbg HS
  have szg := hbg.size
  have hiy2 : we.heap.size ≤ wg2.heap.size := by omega
  have HS2 : w.heap.size ≤ wg2.heap.size := by omega
  have HBg := HBf.trans (hbg.mono HBf.size)
  replace E0 := keepC E0 hbg
  replace E1 := keepC E1 hbg
  replace E2 := keepC E2 hbg
  replace E3 := keepC E3 hbg
  replace Y0 := keepC Y0 hbg
  replace Y1 := keepC Y1 hbg
  replace Y2 := keepC Y2 hbg
  replace Y3 := keepC Y3 hbg
  clear C0 C1 C2 C3 X0 X1 X2 X3 hxf hyf hrf hrf' HBf hbg
  go_wp2_with fail
  go_region_held3 (fun w' => w'.cell? ⟨we.heap.size, 0, none⟩ = some (.slice sy out'.length ty) ∧ w'.cell? ⟨we.heap.size, 1, none⟩ = some (.int .i64 ret') ∧ w'.cell? ⟨we.heap.size, 2, none⟩ = some (.int .i64 code') ∧ w'.cell? ⟨we.heap.size, 3, none⟩ = some (.int .i64 steps') ∧
      w'.cell? ⟨w.heap.size + 1, 0, none⟩ = some (.slice ka' out'.length kc') ∧ w'.cell? ⟨w.heap.size + 1, 1, none⟩ = some (.int .i64 ret') ∧ w'.cell? ⟨w.heap.size + 1, 2, none⟩ = some (.int .i64 code') ∧ w'.cell? ⟨w.heap.size + 1, 3, none⟩ = some (.int .i64 steps') ∧ Below wg2.heap.size wg2 w')
    (first | exact keepS (by assumption) hbk2 | exact keepS (by assumption) hbk1 | exact ⟨Y0, Y1, Y2, Y3, E0, E1, E2, E3, Below.refl _ _⟩ | exact ⟨Y0, Y1, Y2, Y3, E0, E1, E2, E3, (Below.refl _ _).drew⟩ | go_keep)
    (first
      | (go_at_call 36; refine (eqRan_any ⟨out', ret', code', steps'⟩ sy zk ty yk _ _ _ _ _ (rdS hyk hiy2 (by assumption)).1 (rdS hyk hiy2 (by assumption)).2 hok.rd (Nat.le_refl _)).mono ?_; rintro e wk2 ⟨rfl, hbk2⟩)
      | (go_at_call 34; refine (toRan_any ⟨out', ret', code', steps'⟩ ka' kc' _ _ _ (rdS hrk HS2 (by assumption)).1 (rdS hrk HS2 (by assumption)).2 hlo').mono ?_; rintro e wk1 ⟨zk, yk, rfl, hbk1, hok⟩; unfold Ran.v))
  rename_i hS
  have hbk := hS.2.2.2.2.2.2.2.2
  clear hS
  go_wp2
  go_ret
  exact ⟨rfl, HBg.trans (hbk.mono HBg.size)⟩
end Go.Proofs.Ythfeochekadhcaa
