/- A piece written, by both. -/
import Derived.Test.YtllpgomloblfjaaGreatRendL
import Derived.Test.YtllpgomloblfjaaGreatHuntS
import Derived.Test.YtllpgomloblfjaaGreatHuntQ
namespace Go.Proofs.YtllpgomloblfjaaGreat
open Go.RowKit

/-- the lines that are written -/
def writeB (x : Piece) (wd budget : Int) : List ByteArray := if pieceOk x then linesR x (huntL x wd budget).best else []
theorem writeB_len (x : Piece) (hs : Sized x) (wd budget : Int) : (writeB x wd budget).length ≤ 80 := by
  unfold writeB
  split
  · rename_i h
    exact (lines_size (right_of h) hs _).2
  · exact Nat.zero_le _
theorem two_cW {w : World} {b : Nat} {v0 v1 : Value} {T : TypeId} (h : w.heap[b]? = some (.cells #[v0, v1] T)) : w.cell? ⟨b, 0, none⟩ = some v0 ∧ w.cell? ⟨b, 1, none⟩ = some v1 := ⟨cell_heap h rfl, cell_heap h rfl⟩
theorem two_setW {w : World} {b : Nat} {v0 v1 u0 u1 : Value} {T : TypeId} (h : w.heap[b]? = some (.cells #[v0, v1] T)) : ((w.setCell ⟨b, 0, none⟩ u0).setCell ⟨b, 1, none⟩ u1).heap[b]? = some (.cells #[u0, u1] T) := heap_set_same (heap_set_same h)
set_option maxHeartbeats 2000000 in
set_option maxRecDepth 100000 in
theorem writePiece_spec (x : Piece) (ra ca sa ta : Option Addr) (rc cc sc tc lo hi : Nat) (wd budget : Int) (w : World) (hp : PFour x ra rc ca cc sa sc ta tc lo hi w) (hh : hi ≤ w.heap.size) (hz : Sized x) :
    Calls Tryz.prog 6 #[x.v ra rc ca cc sa sc ta tc, .int .i64 wd, .int .i64 budget] w fun e w' => ∃ u, e = .returned (.agg #[u, .int .i64 (searchS x wd budget)]) ∧ Below w.heap.size w w' ∧ Own strF 9 w.heap.size w'.heap.size w' u (writeB x wd budget) := by
  have hT : ∀ c ∈ x.chunks, c.text.size ≤ maxLen := fun c hc => by have := hz.text c hc; unfold maxLen; omega
  have HPP := Lib.hid (fun (w2 : World) (h2 : Below w.heap.size w w2) => hp.below h2 hh)
  obtain ⟨wb, hwb⟩ : ∃ wb, Hid (writeB x wd budget = wb) := ⟨_, rfl⟩
  obtain ⟨sb, hsb⟩ : ∃ sb, Hid (searchB x wd budget = sb) := ⟨_, rfl⟩
  obtain ⟨ss, hss⟩ : ∃ ss, Hid (searchS x wd budget = ss) := ⟨_, rfl⟩
  rw [hwb.out, hss.out]
  unfold Piece.v
  go_enter Tryz.func6, Tryz.ntmps6
  go_upto_region 1 with fail
  obtain ⟨hX0, hR0⟩ := heap_two w (.cells #[.int .i64 x.indent, .slice ra x.rules.length rc, .slice ca x.chunks.length cc, .slice sa x.spans.length sc, .slice ta x.ties.length tc] 38) (.cells #[.slice none 0 0, .int .i64 0] 31)
  have hb0 : Below w.heap.size w ((w.alloc (.cells #[.int .i64 x.indent, .slice ra x.rules.length rc, .slice ca x.chunks.length cc, .slice sa x.spans.length sc, .slice ta x.ties.length tc] 38)).alloc (.cells #[.slice none 0 0, .int .i64 0] 31)) := ((Below.refl _ _).alloc (Nat.le_refl _) _).alloc (by simp) _
  have hs0 : w.heap.size + 1 < ((w.alloc (.cells #[.int .i64 x.indent, .slice ra x.rules.length rc, .slice ca x.chunks.length cc, .slice sa x.spans.length sc, .slice ta x.ties.length tc] 38)).alloc (.cells #[.slice none 0 0, .int .i64 0] 31)).heap.size := by simp
  generalize (w.alloc (.cells #[.int .i64 x.indent, .slice ra x.rules.length rc, .slice ca x.chunks.length cc, .slice sa x.spans.length sc, .slice ta x.ties.length tc] 38)).alloc (.cells #[.slice none 0 0, .int .i64 0] 31) = w0 at *
  replace hX0 : PBox x ra rc ca cc sa sc ta tc w.heap.size w0 := hX0
  obtain ⟨p0, p1, p2, p3, p4⟩ := hX0.five
  have HPK := Lib.hid (pieceOk_spec x ra ca sa ta rc cc sc tc lo hi w0 (HPP.out w0 hb0) (by omega) hT)
  unfold Piece.v at HPK
  go_wp2_with fail
  refine HPK.out.mono ?_
  clear HPK p0 p1 p2 p3 p4
  rintro e w1 ⟨rfl, k1⟩
  have hb1 := hb0.trans (k1.mono (by omega))
  have hX1 := hX0.below k1
  have hR1 := blk k1 hR0
  have hs1 := k1.size
  clear hX0 hb0 hR0 k1
  cases g2 : pieceOk x with
  | false =>
    obtain rfl : ([] : List ByteArray) = wb := by rw [← hwb.out]; unfold writeB; rw [g2]; rfl
    obtain rfl : (0 : Int) = ss := by rw [← hss.out]; unfold searchS; rw [g2]; rfl
    clear hwb hsb hss g2
    have hbE : Below w1.heap.size w1 (w1.alloc (.cells #[] 9)) := (Below.refl _ _).alloc (Nat.le_refl _) _
    have hOO := Own.empty strF 9 w.heap.size w1 (by omega)
    have hRE := blk hbE hR1
    obtain ⟨r0, r1⟩ := two_cW hRE
    have g0 : (w1.alloc (.cells #[] 9)).frozen? ⟨w.heap.size + 1, 0, none⟩ = false := frozen_heap hRE
    have g1 : (w1.alloc (.cells #[] 9)).frozen? ⟨w.heap.size + 1, 1, none⟩ = false := frozen_heap hRE
    obtain ⟨q0, q1⟩ := two_cW (two_setW (u0 := .slice (some ⟨w1.heap.size, 0, none⟩) 0 0) (u1 := .int .i64 0) hRE)
    have hOE : Own strF 9 w.heap.size (w1.alloc (.cells #[] 9)).heap.size (w1.alloc (.cells #[] 9)) (.slice (some ⟨w1.heap.size, 0, none⟩) 0 0) [] := hOO
    have hne : (.slice (some ⟨w1.heap.size, 0, none⟩) 0 0 : Value).ownBlock ≠ some (w.heap.size + 1) := fun e => by have e2 : w1.heap.size = w.heap.size + 1 := Option.some.inj e; omega
    have hBF : Below w.heap.size w (((w1.alloc (.cells #[] 9)).setCell ⟨w.heap.size + 1, 0, none⟩ (.slice (some ⟨w1.heap.size, 0, none⟩) 0 0)).setCell ⟨w.heap.size + 1, 1, none⟩ (.int .i64 0)) := ((hb1.trans (hbE.mono (by omega))).setCell (p := ⟨w.heap.size + 1, 0, none⟩) (Nat.le_succ _) _).setCell (p := ⟨w.heap.size + 1, 1, none⟩) (Nat.le_succ _) _
    have hOF := (hOE.keepFar hne 0 (.slice (some ⟨w1.heap.size, 0, none⟩) 0 0)).keepFar hne 1 (.int .i64 0)
    have hzF : (w1.alloc (.cells #[] 9)).heap.size = (((w1.alloc (.cells #[] 9)).setCell ⟨w.heap.size + 1, 0, none⟩ (.slice (some ⟨w1.heap.size, 0, none⟩) 0 0)).setCell ⟨w.heap.size + 1, 1, none⟩ (.int .i64 0)).heap.size := by simp [World.setCell]
    replace hOF := hOF.wide (Nat.le_refl _) (Nat.le_of_eq hzF)
    clear hRE hOE
    go_wp2_with fail
    refine bodyPost_ret (v := .agg #[.slice (some ⟨w1.heap.size, 0, none⟩) 0 0, .int .i64 0]) (by simp [results, Tryz.results6, go_sem, q0, q1]) rfl ?_
    exact ⟨_, rfl, hBF, hOF⟩
  | true =>
  have HSE := search_spec x ra ca sa ta rc cc sc tc lo hi wd budget w1 (HPP.out w1 hb1) (by omega) hz
  rw [hsb.out, hss.out] at HSE
  unfold Piece.v at HSE
  replace HSE := Lib.hid HSE
  obtain ⟨p0, p1, p2, p3, p4⟩ := hX1.five
  have hx := right_of g2
  have HHL := (hunt_law hx hz wd budget).1
  have e1 : (huntL x wd budget).best = sb := by rw [← hsb.out]; unfold searchB; rw [g2]; rfl
  have e2 : (huntL x wd budget).state = ss := by rw [← hss.out]; unfold searchS; rw [g2]; rfl
  have HWB : Hid (linesR x sb = wb) := by show _ = _; rw [← hwb.out, ← e1]; unfold writeB; rw [g2]; rfl
  have hfull := HHL.good.full
  have HST := HHL.state
  rw [e1] at hfull
  rw [e2] at HST
  have HFL := Lib.hid hfull
  clear hsb hss hwb HHL g2 HST e1 e2 hfull
  go_wp2_with fail
  refine HSE.out.mono ?_
  clear HSE p0 p1 p2 p3 p4
  rintro e w2 ⟨u1, rfl, k2, hV⟩
  obtain ⟨va, vc, rfl, -, -, -⟩ := hV.form
  have hb2 := hb1.trans (k2.mono (by omega))
  have hX2 := hX1.below k2
  have hR2 := blk k2 hR1
  have hs2 := k2.size
  clear hX1 hb1 hR1 k2
  have HRE := l09Render_any x sb ra ca sa ta va rc cc sc tc vc lo hi w1.heap.size w2.heap.size w2 (HPP.out w2 hb2) (by omega) hV.rd (Nat.le_refl _) hx HFL.out hz
  unfold Piece.v at HRE
  rw [HWB.out] at HRE
  replace HRE := Lib.hid HRE
  obtain ⟨p0, p1, p2, p3, p4⟩ := hX2.five
  clear hV HFL
  go_wp2_with fail
  refine HRE.out.mono ?_
  clear HRE p0 p1 p2 p3 p4
  rintro e w3 ⟨u2, rfl, k3, hL⟩
  obtain ⟨la, lc, rfl, -, -, -⟩ := hL.form
  have hb3 := hb2.trans (k3.mono (by omega))
  have hR3 := blk k3 hR2
  have hneC : (Value.slice la wb.length lc).ownBlock ≠ some (w.heap.size + 1) := fun e => by have := (hL.below_heap _ e).1; omega
  clear hX2 hb2 hR2
  have hRE := hR3
  obtain ⟨r0, r1⟩ := two_cW hRE
  have g0 : (w3).frozen? ⟨w.heap.size + 1, 0, none⟩ = false := frozen_heap hRE
  have g1 : (w3).frozen? ⟨w.heap.size + 1, 1, none⟩ = false := frozen_heap hRE
  obtain ⟨q0, q1⟩ := two_cW (two_setW (u0 := .slice la wb.length lc) (u1 := .int .i64 ss) hRE)
  have hOE : Own strF 9 w.heap.size (w3).heap.size (w3) (.slice la wb.length lc) wb := hL.wide (by omega) (Nat.le_refl _)
  have hne : (.slice la wb.length lc : Value).ownBlock ≠ some (w.heap.size + 1) := hneC
  have hBF : Below w.heap.size w (((w3).setCell ⟨w.heap.size + 1, 0, none⟩ (.slice la wb.length lc)).setCell ⟨w.heap.size + 1, 1, none⟩ (.int .i64 ss)) := (hb3.setCell (p := ⟨w.heap.size + 1, 0, none⟩) (Nat.le_succ _) _).setCell (p := ⟨w.heap.size + 1, 1, none⟩) (Nat.le_succ _) _
  have hOF := (hOE.keepFar hne 0 (.slice la wb.length lc)).keepFar hne 1 (.int .i64 ss)
  have hzF : (w3).heap.size = (((w3).setCell ⟨w.heap.size + 1, 0, none⟩ (.slice la wb.length lc)).setCell ⟨w.heap.size + 1, 1, none⟩ (.int .i64 ss)).heap.size := by simp [World.setCell]
  replace hOF := hOF.wide (Nat.le_refl _) (Nat.le_of_eq hzF)
  clear hRE hOE
  go_wp2_with fail
  refine bodyPost_ret (v := .agg #[.slice la wb.length lc, .int .i64 ss]) (by simp [results, Tryz.results6, go_sem, q0, q1]) rfl ?_
  exact ⟨_, rfl, hBF, hOF⟩
set_option maxHeartbeats 2000000 in
set_option maxRecDepth 100000 in
theorem writePiece_impl (x : Piece) (ra ca sa ta : Option Addr) (rc cc sc tc lo hi : Nat) (wd budget : Int) (w : World) (hp : PFour x ra rc ca cc sa sc ta tc lo hi w) (hh : hi ≤ w.heap.size) (hz : Sized x) :
    Calls Tryz.prog 8 #[x.v ra rc ca cc sa sc ta tc, .int .i64 wd, .int .i64 budget] w fun e w' => ∃ u, e = .returned (.agg #[u, .int .i64 (searchS x wd budget)]) ∧ Below w.heap.size w w' ∧ Own strF 9 w.heap.size w'.heap.size w' u (writeB x wd budget) := by
  have hT : ∀ c ∈ x.chunks, c.text.size ≤ maxLen := fun c hc => by have := hz.text c hc; unfold maxLen; omega
  have HPP := Lib.hid (fun (w2 : World) (h2 : Below w.heap.size w w2) => hp.below h2 hh)
  obtain ⟨wb, hwb⟩ : ∃ wb, Hid (writeB x wd budget = wb) := ⟨_, rfl⟩
  obtain ⟨sb, hsb⟩ : ∃ sb, Hid (searchB x wd budget = sb) := ⟨_, rfl⟩
  obtain ⟨ss, hss⟩ : ∃ ss, Hid (searchS x wd budget = ss) := ⟨_, rfl⟩
  rw [hwb.out, hss.out]
  unfold Piece.v
  go_enter Tryz.func8, Tryz.ntmps8
  go_upto_region 1 with fail
  obtain ⟨hX0, hR0⟩ := heap_two w (.cells #[.int .i64 x.indent, .slice ra x.rules.length rc, .slice ca x.chunks.length cc, .slice sa x.spans.length sc, .slice ta x.ties.length tc] 38) (.cells #[.slice none 0 0, .int .i64 0] 31)
  have hb0 : Below w.heap.size w ((w.alloc (.cells #[.int .i64 x.indent, .slice ra x.rules.length rc, .slice ca x.chunks.length cc, .slice sa x.spans.length sc, .slice ta x.ties.length tc] 38)).alloc (.cells #[.slice none 0 0, .int .i64 0] 31)) := ((Below.refl _ _).alloc (Nat.le_refl _) _).alloc (by simp) _
  have hs0 : w.heap.size + 1 < ((w.alloc (.cells #[.int .i64 x.indent, .slice ra x.rules.length rc, .slice ca x.chunks.length cc, .slice sa x.spans.length sc, .slice ta x.ties.length tc] 38)).alloc (.cells #[.slice none 0 0, .int .i64 0] 31)).heap.size := by simp
  generalize (w.alloc (.cells #[.int .i64 x.indent, .slice ra x.rules.length rc, .slice ca x.chunks.length cc, .slice sa x.spans.length sc, .slice ta x.ties.length tc] 38)).alloc (.cells #[.slice none 0 0, .int .i64 0] 31) = w0 at *
  replace hX0 : PBox x ra rc ca cc sa sc ta tc w.heap.size w0 := hX0
  obtain ⟨p0, p1, p2, p3, p4⟩ := hX0.five
  have HSE := search_impl x ra ca sa ta rc cc sc tc lo hi wd budget w0 (HPP.out w0 hb0) (by omega) hz
  rw [hsb.out, hss.out] at HSE
  unfold Piece.v at HSE
  replace HSE := Lib.hid HSE
  obtain ⟨p0, p1, p2, p3, p4⟩ := hX0.five
  go_wp2_with fail
  refine HSE.out.mono ?_
  clear HSE p0 p1 p2 p3 p4
  rintro e w1 ⟨u1, rfl, k2, hV⟩
  obtain ⟨va, vc, rfl, -, -, -⟩ := hV.form
  have hb1 := hb0.trans (k2.mono (by omega))
  have hX1 := hX0.below k2
  have hR1 := blk k2 hR0
  have hs2 := k2.size
  clear hX0 hb0 hR0 k2
  cases g2 : pieceOk x with
  | false =>
    obtain rfl : ([] : List ByteArray) = wb := by rw [← hwb.out]; unfold writeB; rw [g2]; rfl
    obtain rfl : (0 : Int) = ss := by rw [← hss.out]; unfold searchS; rw [g2]; rfl
    clear hwb hsb hss g2
    have hRE := hR1
    obtain ⟨r0, r1⟩ := two_cW hRE
    have g0 : (w1).frozen? ⟨w.heap.size + 1, 0, none⟩ = false := frozen_heap hRE
    have g1 : (w1).frozen? ⟨w.heap.size + 1, 1, none⟩ = false := frozen_heap hRE
    obtain ⟨q0, q1⟩ := two_cW (two_setW (u0 := .slice none 0 0) (u1 := .int .i64 0) hRE)
    have hOE : Own strF 9 w.heap.size (w1).heap.size (w1) (.slice none 0 0) [] := Own.nil _ _ _ _ _
    have hne : (.slice none 0 0 : Value).ownBlock ≠ some (w.heap.size + 1) := by simp [Value.ownBlock]
    have hBF : Below w.heap.size w (((w1).setCell ⟨w.heap.size + 1, 0, none⟩ (.slice none 0 0)).setCell ⟨w.heap.size + 1, 1, none⟩ (.int .i64 0)) := (hb1.setCell (p := ⟨w.heap.size + 1, 0, none⟩) (Nat.le_succ _) _).setCell (p := ⟨w.heap.size + 1, 1, none⟩) (Nat.le_succ _) _
    have hOF := (hOE.keepFar hne 0 (.slice none 0 0)).keepFar hne 1 (.int .i64 0)
    have hzF : (w1).heap.size = (((w1).setCell ⟨w.heap.size + 1, 0, none⟩ (.slice none 0 0)).setCell ⟨w.heap.size + 1, 1, none⟩ (.int .i64 0)).heap.size := by simp [World.setCell]
    replace hOF := hOF.wide (Nat.le_refl _) (Nat.le_of_eq hzF)
    clear hRE hOE
    go_wp2_with fail
    refine bodyPost_ret (v := .agg #[.slice none 0 0, .int .i64 0]) (by simp [results, Tryz.results8, go_sem, q0, q1]) rfl ?_
    exact ⟨_, rfl, hBF, hOF⟩
  | true =>
  have hx := right_of g2
  have HHL := (hunt_law hx hz wd budget).1
  have e1 : (huntL x wd budget).best = sb := by rw [← hsb.out]; unfold searchB; rw [g2]; rfl
  have e2 : (huntL x wd budget).state = ss := by rw [← hss.out]; unfold searchS; rw [g2]; rfl
  have HWB : Hid (linesR x sb = wb) := by show _ = _; rw [← hwb.out, ← e1]; unfold writeB; rw [g2]; rfl
  have hfull := HHL.good.full
  have HST := HHL.state
  rw [e1] at hfull
  rw [e2] at HST
  have HFL := Lib.hid hfull
  clear hsb hss hwb HHL g2 e1 e2 hfull
  have hst : ((ss : Int) == 0) = false := by rcases HST with h | h <;> rw [h] <;> rfl
  clear HST
  have HRE := render_impl x sb ra ca sa ta va rc cc sc tc vc lo hi w0.heap.size w1.heap.size w1 (HPP.out w1 hb1) (by omega) hV.rd (Nat.le_refl _) hx HFL.out hz
  unfold Piece.v at HRE
  rw [HWB.out] at HRE
  replace HRE := Lib.hid HRE
  obtain ⟨p0, p1, p2, p3, p4⟩ := hX1.five
  clear hV HFL
  go_wp2_with fail
  refine HRE.out.mono ?_
  clear HRE p0 p1 p2 p3 p4
  rintro e w2 ⟨u2, rfl, k3, hL⟩
  obtain ⟨la, lc, rfl, -, -, -⟩ := hL.form
  have hb2 := hb1.trans (k3.mono (by omega))
  have hR2 := blk k3 hR1
  have hneC : (Value.slice la wb.length lc).ownBlock ≠ some (w.heap.size + 1) := fun e => by have := (hL.below_heap _ e).1; omega
  clear hX1 hb1 hR1
  have hRE := hR2
  obtain ⟨r0, r1⟩ := two_cW hRE
  have g0 : (w2).frozen? ⟨w.heap.size + 1, 0, none⟩ = false := frozen_heap hRE
  have g1 : (w2).frozen? ⟨w.heap.size + 1, 1, none⟩ = false := frozen_heap hRE
  obtain ⟨q0, q1⟩ := two_cW (two_setW (u0 := .slice la wb.length lc) (u1 := .int .i64 ss) hRE)
  have hOE : Own strF 9 w.heap.size (w2).heap.size (w2) (.slice la wb.length lc) wb := hL.wide (by omega) (Nat.le_refl _)
  have hne : (.slice la wb.length lc : Value).ownBlock ≠ some (w.heap.size + 1) := hneC
  have hBF : Below w.heap.size w (((w2).setCell ⟨w.heap.size + 1, 0, none⟩ (.slice la wb.length lc)).setCell ⟨w.heap.size + 1, 1, none⟩ (.int .i64 ss)) := (hb2.setCell (p := ⟨w.heap.size + 1, 0, none⟩) (Nat.le_succ _) _).setCell (p := ⟨w.heap.size + 1, 1, none⟩) (Nat.le_succ _) _
  have hOF := (hOE.keepFar hne 0 (.slice la wb.length lc)).keepFar hne 1 (.int .i64 ss)
  have hzF : (w2).heap.size = (((w2).setCell ⟨w.heap.size + 1, 0, none⟩ (.slice la wb.length lc)).setCell ⟨w.heap.size + 1, 1, none⟩ (.int .i64 ss)).heap.size := by simp [World.setCell]
  replace hOF := hOF.wide (Nat.le_refl _) (Nat.le_of_eq hzF)
  clear hRE hOE
  go_wp2_with fail
  refine bodyPost_ret (v := .agg #[.slice la wb.length lc, .int .i64 ss]) (by simp [results, Tryz.results8, go_sem, q0, q1]) rfl ?_
  exact ⟨_, rfl, hBF, hOF⟩
end Go.Proofs.YtllpgomloblfjaaGreat
