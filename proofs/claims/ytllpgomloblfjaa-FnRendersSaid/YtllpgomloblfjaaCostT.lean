/- What values cost, of both, for all arguments. -/
import Derived.Test.YtllpgomloblfjaaValS
namespace Go.Proofs.Ytllpgomloblfjaa
open Go.RowKit

def costB (x : Piece) (v : List Int) (w : Int) : CostL := if pieceOk x && valuesOk x.rules v then costR x v w else ⟨1000000, 0⟩
theorem costB_full {x : Piece} {v : List Int} (hp : pieceOk x = true) (hf : FullV x v) (w : Int) : costB x v w = costR x v w := by
  unfold costB
  rw [hp, valuesOk_full (right_of hp) hf]; rfl
theorem two_setC {w : World} {b : Nat} {v0 v1 u0 u1 : Value} {T : TypeId} (h : w.heap[b]? = some (.cells #[v0, v1] T)) : ((w.setCell ⟨b, 0, none⟩ u0).setCell ⟨b, 1, none⟩ u1).heap[b]? = some (.cells #[u0, u1] T) := heap_set_same (heap_set_same h)
set_option maxHeartbeats 2000000 in
set_option maxRecDepth 100000 in
theorem costTop_spec (x : Piece) (v : List Int) (ra ca sa ta va : Option Addr) (rc cc sc tc vc lo hi lo' hi' : Nat) (wd : Int) (w : World) (hp : PFour x ra rc ca cc sa sc ta tc lo hi w) (hh : hi ≤ w.heap.size) (hv : Rd intF.shape lo' hi' w (.slice va v.length vc) v) (hh' : hi' ≤ w.heap.size) (hz : Sized x) :
    Calls Try.prog 15 #[x.v ra rc ca cc sa sc ta tc, .slice va v.length vc, .int .i64 wd] w fun e w' => e = .returned (.agg #[.int .i64 (costB x v wd).over, .int .i64 (costB x v wd).sum]) ∧ Below w.heap.size w w' := by
  have hT : ∀ c ∈ x.chunks, c.text.size ≤ maxLen := fun c hc => by have := hz.text c hc; unfold maxLen; omega
  have HPP := Lib.hid (fun (w2 : World) (h2 : Below w.heap.size w w2) => hp.below h2 hh)
  have HVV := Lib.hid (fun (w2 : World) (h2 : Below w.heap.size w w2) => hv.below h2 hh')
  obtain ⟨cb, hcb⟩ : ∃ cb, Hid (costB x v wd = cb) := ⟨_, rfl⟩
  rw [hcb.out]
  unfold Piece.v
  go_enter Try.func15, Try.ntmps15
  go_upto_region 1 with fail
  obtain ⟨hX0, hR0⟩ := heap_two w (.cells #[.int .i64 x.indent, .slice ra x.rules.length rc, .slice ca x.chunks.length cc, .slice sa x.spans.length sc, .slice ta x.ties.length tc] 29) (.cells #[.int .i64 0, .int .i64 0] 37)
  have hb0 : Below w.heap.size w ((w.alloc (.cells #[.int .i64 x.indent, .slice ra x.rules.length rc, .slice ca x.chunks.length cc, .slice sa x.spans.length sc, .slice ta x.ties.length tc] 29)).alloc (.cells #[.int .i64 0, .int .i64 0] 37)) := ((Below.refl _ _).alloc (Nat.le_refl _) _).alloc (by simp) _
  have hs0 : w.heap.size + 1 < ((w.alloc (.cells #[.int .i64 x.indent, .slice ra x.rules.length rc, .slice ca x.chunks.length cc, .slice sa x.spans.length sc, .slice ta x.ties.length tc] 29)).alloc (.cells #[.int .i64 0, .int .i64 0] 37)).heap.size := by simp
  generalize (w.alloc (.cells #[.int .i64 x.indent, .slice ra x.rules.length rc, .slice ca x.chunks.length cc, .slice sa x.spans.length sc, .slice ta x.ties.length tc] 29)).alloc (.cells #[.int .i64 0, .int .i64 0] 37) = w0 at *
  replace hX0 : PBox x ra rc ca cc sa sc ta tc w.heap.size w0 := hX0
  obtain ⟨p0, p1, p2, p3, p4⟩ := hX0.five
  have HPK := Lib.hid (pieceOk_spec x ra ca sa ta rc cc sc tc lo hi w0 (HPP.out w0 hb0) (by omega) hT)
  unfold Piece.v at HPK
  go_wp2_with fail
  refine HPK.out.mono ?_
  clear HPK p0 p1 p2 p3 p4
  rintro e w1 ⟨rfl, k1⟩
  have hb1 := hb0.trans (k1.mono (by omega))
  have hX1 := hX0.below k1
  have hR1 := blk k1 hR0
  have hs1 := k1.size
  clear hX0 hb0 hR0 k1
  cases g2 : pieceOk x with
  | false =>
    obtain rfl : (⟨1000000, 0⟩ : CostL) = cb := by rw [← hcb.out]; unfold costB; rw [g2]; rfl
    clear hcb
    obtain ⟨r0, r1⟩ := two_c hR1
    have g0 : w1.frozen? ⟨w.heap.size + 1, 0, none⟩ = false := frozen_heap hR1
    have g1 : w1.frozen? ⟨w.heap.size + 1, 1, none⟩ = false := frozen_heap hR1
    obtain ⟨q0, q1⟩ := two_c (two_setC (u0 := .int .i64 1000000) (u1 := .int .i64 0) hR1)
    have hBF : Below w.heap.size w ((w1.setCell ⟨w.heap.size + 1, 0, none⟩ (.int .i64 1000000)).setCell ⟨w.heap.size + 1, 1, none⟩ (.int .i64 0)) := (hb1.setCell (p := ⟨w.heap.size + 1, 0, none⟩) (Nat.le_succ _) _).setCell (p := ⟨w.heap.size + 1, 1, none⟩) (Nat.le_succ _) _
    go_wp2_with fail
    refine bodyPost_ret (v := .agg #[.int .i64 1000000, .int .i64 0]) (by simp [results, Try.results15, go_sem, q0, q1]) rfl ?_
    exact ⟨rfl, hBF⟩
  | true =>
  have hx := right_of g2
  have HVK := valuesOk_spec x v ra ca sa ta va rc cc sc tc vc lo hi lo' hi' w1 (HPP.out w1 hb1) (by omega) (HVV.out w1 hb1) (by omega)
  unfold Piece.v at HVK
  replace HVK := Lib.hid HVK
  obtain ⟨p0, p1, p2, p3, p4⟩ := hX1.five
  have HG2 := Lib.hid g2
  clear g2
  go_wp2_with fail
  refine HVK.out.mono ?_
  clear HVK p0 p1 p2 p3 p4
  rintro e w2 ⟨rfl, k2⟩
  have hb2 := hb1.trans (k2.mono (by omega))
  have hX2 := hX1.below k2
  have hR2 := blk k2 hR1
  have hs2 := k2.size
  clear hX1 hb1 hR1 k2
  cases g3 : valuesOk x.rules v with
  | false =>
    obtain rfl : (⟨1000000, 0⟩ : CostL) = cb := by rw [← hcb.out]; unfold costB; rw [HG2.out, g3]; rfl
    clear hcb
    obtain ⟨r0, r1⟩ := two_c hR2
    have g0 : w2.frozen? ⟨w.heap.size + 1, 0, none⟩ = false := frozen_heap hR2
    have g1 : w2.frozen? ⟨w.heap.size + 1, 1, none⟩ = false := frozen_heap hR2
    obtain ⟨q0, q1⟩ := two_c (two_setC (u0 := .int .i64 1000000) (u1 := .int .i64 0) hR2)
    have hBF : Below w.heap.size w ((w2.setCell ⟨w.heap.size + 1, 0, none⟩ (.int .i64 1000000)).setCell ⟨w.heap.size + 1, 1, none⟩ (.int .i64 0)) := (hb2.setCell (p := ⟨w.heap.size + 1, 0, none⟩) (Nat.le_succ _) _).setCell (p := ⟨w.heap.size + 1, 1, none⟩) (Nat.le_succ _) _
    go_wp2_with fail
    refine bodyPost_ret (v := .agg #[.int .i64 1000000, .int .i64 0]) (by simp [results, Try.results15, go_sem, q0, q1]) rfl ?_
    exact ⟨rfl, hBF⟩
  | true =>
  have hf := full_of hx g3
  obtain rfl : costR x v wd = cb := by rw [← hcb.out]; unfold costB; rw [HG2.out, g3]; rfl
  have HCO := l09Cost_any x v ra ca sa ta va rc cc sc tc vc lo hi lo' hi' wd w2 (HPP.out w2 hb2) (by omega) (HVV.out w2 hb2) (by omega) hx (hf.right hx) hf.full hz
  unfold Piece.v at HCO
  generalize hcst : costR x v wd = cst at *
  replace HCO := Lib.hid HCO
  obtain ⟨p0, p1, p2, p3, p4⟩ := hX2.five
  clear g3 hcb
  go_wp2_with fail
  refine HCO.out.mono ?_
  clear HCO p0 p1 p2 p3 p4
  rintro e w3 ⟨rfl, k3⟩
  have hb3 := hb2.trans (k3.mono (by omega))
  have hR3 := blk k3 hR2
  clear hX2 hb2 hR2 k3
  obtain ⟨r0, r1⟩ := two_c hR3
  have g0 : w3.frozen? ⟨w.heap.size + 1, 0, none⟩ = false := frozen_heap hR3
  have g1 : w3.frozen? ⟨w.heap.size + 1, 1, none⟩ = false := frozen_heap hR3
  obtain ⟨q0, q1⟩ := two_c (two_setC (u0 := .int .i64 cst.over) (u1 := .int .i64 cst.sum) hR3)
  have hBF : Below w.heap.size w ((w3.setCell ⟨w.heap.size + 1, 0, none⟩ (.int .i64 cst.over)).setCell ⟨w.heap.size + 1, 1, none⟩ (.int .i64 cst.sum)) := (hb3.setCell (p := ⟨w.heap.size + 1, 0, none⟩) (Nat.le_succ _) _).setCell (p := ⟨w.heap.size + 1, 1, none⟩) (Nat.le_succ _) _
  go_wp2_with fail
  refine bodyPost_ret (v := .agg #[.int .i64 cst.over, .int .i64 cst.sum]) (by simp [results, Try.results15, go_sem, q0, q1]) rfl ?_
  exact ⟨by rw [hcst], hBF⟩
set_option maxHeartbeats 2000000 in
set_option maxRecDepth 100000 in
theorem costTop_impl (x : Piece) (v : List Int) (ra ca sa ta va : Option Addr) (rc cc sc tc vc lo hi lo' hi' : Nat) (wd : Int) (w : World) (hp : PFour x ra rc ca cc sa sc ta tc lo hi w) (hh : hi ≤ w.heap.size) (hv : Rd intF.shape lo' hi' w (.slice va v.length vc) v) (hh' : hi' ≤ w.heap.size) (hz : Sized x) :
    Calls Try.prog 31 #[x.v ra rc ca cc sa sc ta tc, .slice va v.length vc, .int .i64 wd] w fun e w' => e = .returned (.agg #[.int .i64 (costB x v wd).over, .int .i64 (costB x v wd).sum]) ∧ Below w.heap.size w w' := by
  have hT : ∀ c ∈ x.chunks, c.text.size ≤ maxLen := fun c hc => by have := hz.text c hc; unfold maxLen; omega
  have HPP := Lib.hid (fun (w2 : World) (h2 : Below w.heap.size w w2) => hp.below h2 hh)
  have HVV := Lib.hid (fun (w2 : World) (h2 : Below w.heap.size w w2) => hv.below h2 hh')
  obtain ⟨cb, hcb⟩ : ∃ cb, Hid (costB x v wd = cb) := ⟨_, rfl⟩
  rw [hcb.out]
  unfold Piece.v
  go_enter Try.func31, Try.ntmps31
  go_upto_region 1 with fail
  obtain ⟨hX0, hR0⟩ := heap_two w (.cells #[.int .i64 x.indent, .slice ra x.rules.length rc, .slice ca x.chunks.length cc, .slice sa x.spans.length sc, .slice ta x.ties.length tc] 29) (.cells #[.int .i64 0, .int .i64 0] 37)
  have hb0 : Below w.heap.size w ((w.alloc (.cells #[.int .i64 x.indent, .slice ra x.rules.length rc, .slice ca x.chunks.length cc, .slice sa x.spans.length sc, .slice ta x.ties.length tc] 29)).alloc (.cells #[.int .i64 0, .int .i64 0] 37)) := ((Below.refl _ _).alloc (Nat.le_refl _) _).alloc (by simp) _
  have hs0 : w.heap.size + 1 < ((w.alloc (.cells #[.int .i64 x.indent, .slice ra x.rules.length rc, .slice ca x.chunks.length cc, .slice sa x.spans.length sc, .slice ta x.ties.length tc] 29)).alloc (.cells #[.int .i64 0, .int .i64 0] 37)).heap.size := by simp
  generalize (w.alloc (.cells #[.int .i64 x.indent, .slice ra x.rules.length rc, .slice ca x.chunks.length cc, .slice sa x.spans.length sc, .slice ta x.ties.length tc] 29)).alloc (.cells #[.int .i64 0, .int .i64 0] 37) = w0 at *
  replace hX0 : PBox x ra rc ca cc sa sc ta tc w.heap.size w0 := hX0
  obtain ⟨p0, p1, p2, p3, p4⟩ := hX0.five
  have HPK := Lib.hid (pieceOk_impl x ra ca sa ta rc cc sc tc lo hi w0 (HPP.out w0 hb0) (by omega) hT)
  unfold Piece.v at HPK
  go_wp2_with fail
  refine HPK.out.mono ?_
  clear HPK p0 p1 p2 p3 p4
  rintro e w1 ⟨rfl, k1⟩
  have hb1 := hb0.trans (k1.mono (by omega))
  have hX1 := hX0.below k1
  have hR1 := blk k1 hR0
  have hs1 := k1.size
  clear hX0 hb0 hR0 k1
  cases g2 : pieceOk x with
  | false =>
    obtain rfl : (⟨1000000, 0⟩ : CostL) = cb := by rw [← hcb.out]; unfold costB; rw [g2]; rfl
    clear hcb
    obtain ⟨r0, r1⟩ := two_c hR1
    have g0 : w1.frozen? ⟨w.heap.size + 1, 0, none⟩ = false := frozen_heap hR1
    have g1 : w1.frozen? ⟨w.heap.size + 1, 1, none⟩ = false := frozen_heap hR1
    obtain ⟨q0, q1⟩ := two_c (two_setC (u0 := .int .i64 1000000) (u1 := .int .i64 0) hR1)
    have hBF : Below w.heap.size w ((w1.setCell ⟨w.heap.size + 1, 0, none⟩ (.int .i64 1000000)).setCell ⟨w.heap.size + 1, 1, none⟩ (.int .i64 0)) := (hb1.setCell (p := ⟨w.heap.size + 1, 0, none⟩) (Nat.le_succ _) _).setCell (p := ⟨w.heap.size + 1, 1, none⟩) (Nat.le_succ _) _
    go_wp2_with fail
    refine bodyPost_ret (v := .agg #[.int .i64 1000000, .int .i64 0]) (by simp [results, Try.results31, go_sem, q0, q1]) rfl ?_
    exact ⟨rfl, hBF⟩
  | true =>
  have hx := right_of g2
  have HVK := valuesOk_impl x v ra ca sa ta va rc cc sc tc vc lo hi lo' hi' w1 (at_rule (HPP.out w1 hb1).r).1 (fun k h => by obtain ⟨b, off, a1, a2, a3, a4, -⟩ := (at_rule (HPP.out w1 hb1).r).2 k h; exact ⟨b, off, a1, a2, a3, a4⟩) (by omega) (HVV.out w1 hb1) (by omega)
  unfold Piece.v at HVK
  replace HVK := Lib.hid HVK
  obtain ⟨p0, p1, p2, p3, p4⟩ := hX1.five
  have HG2 := Lib.hid g2
  clear g2
  go_wp2_with fail
  refine HVK.out.mono ?_
  clear HVK p0 p1 p2 p3 p4
  rintro e w2 ⟨rfl, k2⟩
  have hb2 := hb1.trans (k2.mono (by omega))
  have hX2 := hX1.below k2
  have hR2 := blk k2 hR1
  have hs2 := k2.size
  clear hX1 hb1 hR1 k2
  cases g3 : valuesOk x.rules v with
  | false =>
    obtain rfl : (⟨1000000, 0⟩ : CostL) = cb := by rw [← hcb.out]; unfold costB; rw [HG2.out, g3]; rfl
    clear hcb
    obtain ⟨r0, r1⟩ := two_c hR2
    have g0 : w2.frozen? ⟨w.heap.size + 1, 0, none⟩ = false := frozen_heap hR2
    have g1 : w2.frozen? ⟨w.heap.size + 1, 1, none⟩ = false := frozen_heap hR2
    obtain ⟨q0, q1⟩ := two_c (two_setC (u0 := .int .i64 1000000) (u1 := .int .i64 0) hR2)
    have hBF : Below w.heap.size w ((w2.setCell ⟨w.heap.size + 1, 0, none⟩ (.int .i64 1000000)).setCell ⟨w.heap.size + 1, 1, none⟩ (.int .i64 0)) := (hb2.setCell (p := ⟨w.heap.size + 1, 0, none⟩) (Nat.le_succ _) _).setCell (p := ⟨w.heap.size + 1, 1, none⟩) (Nat.le_succ _) _
    go_wp2_with fail
    refine bodyPost_ret (v := .agg #[.int .i64 1000000, .int .i64 0]) (by simp [results, Try.results31, go_sem, q0, q1]) rfl ?_
    exact ⟨rfl, hBF⟩
  | true =>
  have hf := full_of hx g3
  obtain rfl : costR x v wd = cb := by rw [← hcb.out]; unfold costB; rw [HG2.out, g3]; rfl
  have HCO := costOf_impl x v ra ca sa ta va rc cc sc tc vc lo hi lo' hi' wd w2 (HPP.out w2 hb2) (by omega) (HVV.out w2 hb2) (by omega) hx (hf.right hx) hf.full hz
  unfold Piece.v at HCO
  generalize hcst : costR x v wd = cst at *
  replace HCO := Lib.hid HCO
  obtain ⟨p0, p1, p2, p3, p4⟩ := hX2.five
  clear g3 hcb
  go_wp2_with fail
  refine HCO.out.mono ?_
  clear HCO p0 p1 p2 p3 p4
  rintro e w3 ⟨rfl, k3⟩
  have hb3 := hb2.trans (k3.mono (by omega))
  have hR3 := blk k3 hR2
  clear hX2 hb2 hR2 k3
  obtain ⟨r0, r1⟩ := two_c hR3
  have g0 : w3.frozen? ⟨w.heap.size + 1, 0, none⟩ = false := frozen_heap hR3
  have g1 : w3.frozen? ⟨w.heap.size + 1, 1, none⟩ = false := frozen_heap hR3
  obtain ⟨q0, q1⟩ := two_c (two_setC (u0 := .int .i64 cst.over) (u1 := .int .i64 cst.sum) hR3)
  have hBF : Below w.heap.size w ((w3.setCell ⟨w.heap.size + 1, 0, none⟩ (.int .i64 cst.over)).setCell ⟨w.heap.size + 1, 1, none⟩ (.int .i64 cst.sum)) := (hb3.setCell (p := ⟨w.heap.size + 1, 0, none⟩) (Nat.le_succ _) _).setCell (p := ⟨w.heap.size + 1, 1, none⟩) (Nat.le_succ _) _
  go_wp2_with fail
  refine bodyPost_ret (v := .agg #[.int .i64 cst.over, .int .i64 cst.sum]) (by simp [results, Try.results31, go_sem, q0, q1]) rfl ?_
  exact ⟨by rw [hcst], hBF⟩
theorem int_no {x y : Int} (h : x ≠ y) : (x == y) = false ∧ (x != y) = true ∧ decide (x = y) = false := by simp [h]
theorem int_yes {x y : Int} (h : x = y) : (x == y) = true ∧ (x != y) = false ∧ decide (x = y) = true := by simp [h]
theorem beq_len {xs ys : List Int} (h : xs.length ≠ ys.length) : (xs == ys) = false := beq_eq_false_iff_ne.2 fun e => h (congrArg List.length e)
theorem beq_at {xs ys : List Int} {k : Nat} (h1 : k < xs.length) (h2 : k < ys.length) (h : xs[k] ≠ ys[k]) : (xs == ys) = false := beq_eq_false_iff_ne.2 fun e => h (by subst e; rfl)
theorem take_next {xs ys : List Int} {k : Nat} (h1 : k < xs.length) (h2 : k < ys.length) (h : xs[k] = ys[k]) (ht : xs.take k = ys.take k) : xs.take (k + 1) = ys.take (k + 1) := by
  rw [List.take_succ_eq_append_getElem h1, List.take_succ_eq_append_getElem h2, ht, h]
end Go.Proofs.Ytllpgomloblfjaa
