/- What values cost, of the program. -/
import Derived.Test.YtllpgomloblfjaaRendI
import Derived.Test.YtllpgomloblfjaaHuntH
import Derived.Deep.Cut
namespace Go.Proofs.Ytllpgomloblfjaa
open Go.RowKit

theorem at_str {lo hi n c : Nat} {w : World} {a : Option Addr} {xs : List ByteArray} (h : Rd strF.shape lo hi w (.slice a n c) xs) : xs.length ≤ 9223372036854775807 ∧ ∀ k (h : k < xs.length), ∃ b off, a = some ⟨b, off, none⟩ ∧ lo ≤ b ∧ b < hi ∧ w.cell? ⟨b, off + k, none⟩ = some (.string xs[k]) := by
  have hl := h.len_le
  obtain ⟨a', c', e, h2, h3, h4, h5⟩ := h
  injection e with e1 e2 e3
  subst e1
  refine ⟨hl, fun k hk => ?_⟩
  obtain ⟨b, off, cs, q1, q2, q3, rfl, q5⟩ := h5 k hk
  refine ⟨b, off, q1, q2, q3, ?_⟩
  have := q5 0 _ rfl
  have e : off + k * strF.shape.size + 0 = off + k := by show off + k * 1 + 0 = off + k; omega
  rwa [e] at this
set_option maxHeartbeats 2000000 in
set_option maxRecDepth 100000 in
theorem costOf_impl (x : Piece) (vals : List Int) (ra ca sa ta va : Option Addr) (rc cc sc tc vc lo hi lo' hi' : Nat) (width : Int) (w : World) (hp : PFour x ra rc ca cc sa sc ta tc lo hi w) (hh : hi ≤ w.heap.size) (hv : Rd intF.shape lo' hi' w (.slice va vals.length vc) vals) (hh' : hi' ≤ w.heap.size) (hx : Right x) (hvr : RightV x vals) (hfull : vals.length = x.rules.length) (hz : Sized x) :
    Calls Try.prog 76 #[x.v ra rc ca cc sa sc ta tc, .slice va vals.length vc, .int .i64 width] w fun e w' => e = .returned (.agg #[.int .i64 (costR x vals width).over, .int .i64 (costR x vals width).sum]) ∧ Below w.heap.size w w' := by
  have HBI := Lib.hid (fun (w2 : World) (h2 : Below w.heap.size w w2) => bound_impl x vals ra ca sa ta va rc cc sc tc vc lo hi lo' hi' w2 (hp.below h2 hh) (Nat.le_trans hh h2.size) (hv.below h2 hh') (Nat.le_trans hh' h2.size) hx hvr)
  have HRI := Lib.hid (fun (w2 : World) (h2 : Below w.heap.size w w2) => render_impl x vals ra ca sa ta va rc cc sc tc vc lo hi lo' hi' w2 (hp.below h2 hh) (Nat.le_trans hh h2.size) (hv.below h2 hh') (Nat.le_trans hh' h2.size) hx hfull hz)
  have HCB := Lib.hid (cost_bd hx hz hvr width)
  have HW : Hid (max 0 (min width 100000) = clampW width) := by
    show _ = _
    unfold clampW
    split
    · omega
    · split <;> omega
  have hcw := clampW_bd width
  have HCD : Hid (costR x vals width = ⟨overS (clampW width) (linesR x vals), boundOf x vals⟩) := rfl
  have HLS := Lib.hid (lines_size hx hz vals)
  clear hfull hp hv
  unfold Piece.v at HBI HRI ⊢
  go_enter Try.func76, Try.ntmps76
  go_upto_region 1 with fail
  obtain ⟨hA, hB⟩ := heap_two w (.cells #[.int .i64 x.indent, .slice ra x.rules.length rc, .slice ca x.chunks.length cc, .slice sa x.spans.length sc, .slice ta x.ties.length tc] 29) (.cells #[.int .i64 0, .int .i64 0] 37)
  have hbA : Below w.heap.size w ((w.alloc (.cells #[.int .i64 x.indent, .slice ra x.rules.length rc, .slice ca x.chunks.length cc, .slice sa x.spans.length sc, .slice ta x.ties.length tc] 29)).alloc (.cells #[.int .i64 0, .int .i64 0] 37)) := ((Below.refl _ _).alloc (Nat.le_refl _) _).alloc (by simp) _
  have hsA : w.heap.size + 1 < ((w.alloc (.cells #[.int .i64 x.indent, .slice ra x.rules.length rc, .slice ca x.chunks.length cc, .slice sa x.spans.length sc, .slice ta x.ties.length tc] 29)).alloc (.cells #[.int .i64 0, .int .i64 0] 37)).heap.size := by simp
  generalize (w.alloc (.cells #[.int .i64 x.indent, .slice ra x.rules.length rc, .slice ca x.chunks.length cc, .slice sa x.spans.length sc, .slice ta x.ties.length tc] 29)).alloc (.cells #[.int .i64 0, .int .i64 0] 37) = w0 at *
  have hX0 : PBox x ra rc ca cc sa sc ta tc w.heap.size w0 := hA
  obtain ⟨p0, p1, p2, p3, p4⟩ := hX0.five
  have z0 : w0.cell? ⟨w.heap.size + 1, 0, none⟩ = some (.int .i64 0) := cell_heap0 hB rfl
  have z1 : w0.cell? ⟨w.heap.size + 1, 1, none⟩ = some (.int .i64 0) := cell_heap0 hB rfl
  have g0 : w0.frozen? ⟨w.heap.size + 1, 0, none⟩ = false := frozen_heap0 hB
  have g1 : w0.frozen? ⟨w.heap.size + 1, 1, none⟩ = false := frozen_heap0 hB
  generalize boundOf x vals = bnd at *
  generalize linesR x vals = ls at *
  have hbb : 0 ≤ bnd ∧ bnd ≤ 1000 := by have h := HCB.out; rw [HCD.out] at h; exact ⟨h.2.2.1, h.2.2.2⟩
  go_wp2_with fail
  rw [HW.out]
  generalize clampW width = W at *
  refine (HBI.out w0 hbA).mono ?_
  rintro e w1 ⟨rfl, hb1⟩
  have hs1 := hb1.size
  replace z0 := (hb1.cell (p := ⟨w.heap.size + 1, 0, none⟩) hsA).trans z0
  replace z1 := (hb1.cell (p := ⟨w.heap.size + 1, 1, none⟩) hsA).trans z1
  replace g0 := (hb1.frozen (p := ⟨w.heap.size + 1, 0, none⟩) hsA).trans g0
  replace g1 := (hb1.frozen (p := ⟨w.heap.size + 1, 1, none⟩) hsA).trans g1
  have hB1 := hbA.trans (hb1.mono (show w.heap.size ≤ w0.heap.size by omega))
  obtain ⟨q0, q1, q2, q3, q4⟩ := (hX0.below hb1).five
  have hxl := (hX0.below hb1).lt
  clear p0 p1 p2 p3 p4 hX0 hA hB hbA hb1
  go_wp2_with fail
  have hC := heap_alloc_new w1 (.cells #[.int .i64 0, .int .i64 bnd] 37)
  have hbC : Below w1.heap.size w1 (w1.alloc (.cells #[.int .i64 0, .int .i64 bnd] 37)) := (Below.refl _ _).alloc (Nat.le_refl _) _
  have hsC : w1.heap.size < (w1.alloc (.cells #[.int .i64 0, .int .i64 bnd] 37)).heap.size := by simp
  generalize w1.alloc (.cells #[.int .i64 0, .int .i64 bnd] 37) = w2 at *
  have hw1 : w.heap.size + 1 < w1.heap.size := by omega
  have hB2 := hB1.trans (hbC.mono (by omega))
  refine (HRI.out w2 hB2).mono ?_
  rintro e w3 ⟨u, rfl, hb3, hO3⟩
  have hs3 := hb3.size
  have c0 : w3.cell? ⟨w1.heap.size, 0, none⟩ = some (.int .i64 0) := cell_heap0 (blk hb3 hC) rfl
  have c1 : w3.cell? ⟨w1.heap.size, 1, none⟩ = some (.int .i64 bnd) := cell_heap0 (blk hb3 hC) rfl
  have f0 : w3.frozen? ⟨w1.heap.size, 0, none⟩ = false := frozen_heap0 (blk hb3 hC)
  have hb13 := hbC.trans (hb3.mono (by omega))
  replace z0 := (hb13.cell (p := ⟨w.heap.size + 1, 0, none⟩) hw1).trans z0
  replace z1 := (hb13.cell (p := ⟨w.heap.size + 1, 1, none⟩) hw1).trans z1
  replace g0 := (hb13.frozen (p := ⟨w.heap.size + 1, 0, none⟩) hw1).trans g0
  replace g1 := (hb13.frozen (p := ⟨w.heap.size + 1, 1, none⟩) hw1).trans g1
  have hB3 := hB2.trans (hb3.mono (by omega))
  clear q0 q1 q2 q3 q4 hC hbC hb3 hb13
  obtain ⟨ua, uc, rfl, -, -, -⟩ := hO3.form
  have hsl : w1.heap.size + 1 ≤ w2.heap.size := hsC
  go_wp2_with fail
  go_loopw [21] (fun i wr => ∃ (k : Nat) (z : Int), k ≤ ls.length ∧ i = .int .i64 k ∧ Hid (z = overS W (ls.take k)) ∧ wr.cell? ⟨w1.heap.size, 0, none⟩ = some (.int .i64 z) ∧ wr.cell? ⟨w1.heap.size, 1, none⟩ = some (.int .i64 bnd) ∧ wr.frozen? ⟨w1.heap.size, 0, none⟩ = false ∧ Same w.heap.size w1.heap.size w3 wr ∧ Same w2.heap.size w3.heap.size w3 wr ∧ Below w.heap.size w wr ∧ w3.heap.size ≤ wr.heap.size) (fun i _ => ls.length - (intOf i).toNat)
  case atStart => exact ⟨0, 0, Nat.zero_le _, rfl, rfl, c0, c1, f0, Same.refl _ _ _, Same.refl _ _ _, hB3, Nat.le_refl _⟩
  case round =>
    clear c0 c1 f0
    obtain ⟨k, z, hk, rfl, HZ, c0, c1, f0, hsm, hsm2, hb, hsz⟩ := hrel
    have hzb : 0 ≤ z ∧ z ≤ 8000000000 := by
      have h1 := overS_bd (W := W) hcw.1 (M := 100000000) (ls := ls.take k) (fun l hl => HLS.out.1 l (List.mem_of_mem_take hl))
      have h2 := HLS.out.2
      have h3 : (ls.take k).length ≤ 80 := by rw [List.length_take]; omega
      have := HZ.out
      omega
    by_cases hlt : k < ls.length
    · have hki : (k : Int) < (ls.length : Int) := by omega
      have hkz : (0 : Int) ≤ (k : Int) := by omega
      obtain ⟨hl9, h5⟩ := at_str (hO3.same hsm2).rd
      obtain ⟨b, off, rfl, -, -, d0⟩ := h5 k hlt
      have hls := HLS.out.1 _ (List.getElem_mem hlt)
      have HN : Hid (overS W (ls.take (k + 1)) = z + overOf W ls[k].size) := by show _ = _; rw [List.take_succ_eq_append_getElem hlt, overS_snoc, ← HZ.out]
      clear h5 hl9
      have hk1 : k + 1 ≤ ls.length := hlt
      have hl80 := HLS.out.2
      generalize ls[k] = l at HN d0 hls
      have HM : Hid (max ((l.size : Int) - W) 0 = overOf W l.size) := by
        show _ = _
        unfold overOf
        split <;> omega
      have hob := overOf_bd (W := W) (n := (l.size : Int)) hcw.1 (Int.natCast_nonneg _)
      go_wp2_with fail
      rw [HM.out]
      generalize overOf W (l.size : Int) = ov at *
      have hF0 : Hid ((wr.setCell ⟨w1.heap.size, 0, none⟩ (.int .i64 (z + ov))).cell? ⟨w1.heap.size, 0, none⟩ = some (.int .i64 (z + ov))) := World.cell?_setCell_same (w := wr) (a := ⟨w1.heap.size, 0, none⟩) (v := .int .i64 (z + ov)) c0
      have hF1 : Hid ((wr.setCell ⟨w1.heap.size, 0, none⟩ (.int .i64 (z + ov))).cell? ⟨w1.heap.size, 1, none⟩ = some (.int .i64 bnd)) := (World.cell?_setCell_other _ _ _ _ (fun c => by injection c with _ c _; omega)).trans c1
      have hF2 : Hid ((wr.setCell ⟨w1.heap.size, 0, none⟩ (.int .i64 (z + ov))).frozen? ⟨w1.heap.size, 0, none⟩ = false) := by show _ = _; rw [World.frozen?_setCell]; exact f0
      have hF3 : Hid (Same w.heap.size w1.heap.size w3 (wr.setCell ⟨w1.heap.size, 0, none⟩ (.int .i64 (z + ov)))) := hsm.trans (same_storeAll (g := w1.heap.size) (.inr (Nat.le_refl _)) [.int .i64 (z + ov)] 0 wr)
      have hF4 : Hid (Same w2.heap.size w3.heap.size w3 (wr.setCell ⟨w1.heap.size, 0, none⟩ (.int .i64 (z + ov)))) := hsm2.trans (same_storeAll (g := w1.heap.size) (.inl (by omega)) [.int .i64 (z + ov)] 0 wr)
      have hF5 : Hid (Below w.heap.size w (wr.setCell ⟨w1.heap.size, 0, none⟩ (.int .i64 (z + ov)))) := hb.setCell (p := ⟨w1.heap.size, 0, none⟩) (by show _ ≤ w1.heap.size; omega) _
      have hF6 : Hid (w3.heap.size ≤ (wr.setCell ⟨w1.heap.size, 0, none⟩ (.int .i64 (z + ov))).heap.size) := by show _ ≤ _; simpa [World.setCell] using hsz
      clear c0 c1 f0 hsm hsm2 hb hsz
      go_roundw
      case rel => exact ⟨k + 1, z + ov, hk1, by go_num, HN.out.symm, hF0.out, hF1.out, hF2.out, hF3.out, hF4.out, hF5.out, hF6.out⟩
      case measure => simp [intOf]; omega
    · obtain rfl : k = ls.length := by omega
      rw [List.take_length] at HZ
      have hz9 := HZ.out
      subst hz9
      replace z0 := (cells_same hsm (b := w.heap.size + 1) (j := 0) (by omega) hw1).trans z0
      replace z1 := (cells_same hsm (b := w.heap.size + 1) (j := 1) (by omega) hw1).trans z1
      replace g0 := (frz_same hsm (b := w.heap.size + 1) (j := 0) (by omega) hw1).trans g0
      replace g1 := (frz_same hsm (b := w.heap.size + 1) (j := 1) (by omega) hw1).trans g1
      generalize overS W ls = ov at *
      have r0 : ((wr.setCell ⟨w.heap.size + 1, 0, none⟩ (.int .i64 ov)).setCell ⟨w.heap.size + 1, 1, none⟩ (.int .i64 bnd)).cell? ⟨w.heap.size + 1, 0, none⟩ = some (.int .i64 ov) :=
        (World.cell?_setCell_other _ _ _ _ (fun c => by injection c with _ c _; omega)).trans (World.cell?_setCell_same (w := wr) (a := ⟨w.heap.size + 1, 0, none⟩) (v := .int .i64 ov) z0)
      have r1 : ((wr.setCell ⟨w.heap.size + 1, 0, none⟩ (.int .i64 ov)).setCell ⟨w.heap.size + 1, 1, none⟩ (.int .i64 bnd)).cell? ⟨w.heap.size + 1, 1, none⟩ = some (.int .i64 bnd) :=
        World.cell?_setCell_same (w := wr.setCell ⟨w.heap.size + 1, 0, none⟩ (.int .i64 ov)) (a := ⟨w.heap.size + 1, 1, none⟩) (v := .int .i64 bnd) ((World.cell?_setCell_other _ _ _ _ (fun c => by injection c with _ c _; omega)).trans z1)
      have hBF : Hid (Below w.heap.size w ((wr.setCell ⟨w.heap.size + 1, 0, none⟩ (.int .i64 ov)).setCell ⟨w.heap.size + 1, 1, none⟩ (.int .i64 bnd))) := (hb.setCell (p := ⟨w.heap.size + 1, 0, none⟩) (Nat.le_succ _) _).setCell (p := ⟨w.heap.size + 1, 1, none⟩) (Nat.le_succ _) _
      clear hsm hsm2 hb hzb
      go_wp2_with fail
      refine bodyPost_ret (v := .agg #[.int .i64 ov, .int .i64 bnd]) (by simp [results, Try.results76, go_sem, r0, r1]) rfl ?_
      exact ⟨by rw [HCD.out], hBF.out⟩
end Go.Proofs.Ytllpgomloblfjaa
