/- The search of the program, and how many states it takes. -/
import Derived.Test.YtllpgomloblfjaaHuntN
namespace Go.Proofs.Ytllpgomloblfjaa
open Go.RowKit

theorem sum_mem {α : Type} (f : α → Nat) : ∀ (xs : List α) (x : α), x ∈ xs → f x ≤ sumOf f xs
  | [], _, h => by cases h
  | a :: xs, x, h => by
    have e : sumOf f (a :: xs) = f a + sumOf f xs := by simp [sumOf]
    rcases List.mem_cons.1 h with h1 | h1
    · rw [e, h1]; omega
    · have := sum_mem f xs x h1
      omega
theorem sized_wt {x : Piece} (h : x.wt ≤ 1048576) : Sized x := ⟨fun c hc => by
  have h1 := sum_mem (fun c : Chunk => c.text.size) x.chunks c hc
  unfold Piece.wt Chunk.wts at h
  omega⟩
/-- what a search tells -/
def searchB (x : Piece) (wd budget : Int) : List Int := if pieceOk x then (huntL x wd budget).best else []
def searchS (x : Piece) (wd budget : Int) : Int := if pieceOk x then (huntL x wd budget).state else 0
def popsB (x : Piece) (wd budget : Int) : Int := if pieceOk x then (huntL x wd budget).pops else 0
set_option maxHeartbeats 4000000 in
set_option maxRecDepth 100000 in
theorem search_impl (x : Piece) (ra ca sa ta : Option Addr) (rc cc sc tc lo hi : Nat) (wd budget : Int) (w : World) (hp : PFour x ra rc ca cc sa sc ta tc lo hi w) (hh : hi ≤ w.heap.size) (hz : Sized x) :
    Calls Try.prog 11 #[x.v ra rc ca cc sa sc ta tc, .int .i64 wd, .int .i64 budget] w fun e w' => ∃ u, e = .returned (.tuple #[u, .int .i64 (searchS x wd budget)]) ∧ Below w.heap.size w w' ∧ Own intF 3 w.heap.size w'.heap.size w' u (searchB x wd budget) := by
  obtain ⟨B, HB⟩ : ∃ B, Hid (B = w.heap.size) := ⟨_, rfl⟩
  have hBw : B ≤ w.heap.size := Nat.le_of_eq HB.out
  have hBw' : w.heap.size ≤ B := Nat.le_of_eq HB.out.symm
  have hT : ∀ c ∈ x.chunks, c.text.size ≤ maxLen := fun c hc => by have := hz.text c hc; unfold maxLen; omega
  have HPP := Lib.hid (fun (w2 : World) (h2 : Below B w w2) => hp.below h2 (Nat.le_trans hh hBw'))
  have hhB : hi ≤ B := Nat.le_trans hh hBw'
  have hX0 := PBox.new x ra ca sa ta rc cc sc tc w
  have hb0 : Below B w (w.alloc (.cells #[.int .i64 x.indent, .slice ra x.rules.length rc, .slice ca x.chunks.length cc, .slice sa x.spans.length sc, .slice ta x.ties.length tc] 29)) := (Below.refl _ _).alloc hBw _
  obtain ⟨sb, hsb⟩ : ∃ sb, Hid (searchB x wd budget = sb) := ⟨_, rfl⟩
  obtain ⟨ss, hss⟩ : ∃ ss, Hid (searchS x wd budget = ss) := ⟨_, rfl⟩
  rw [hsb.out, hss.out]
  unfold Piece.v
  go_enter Try.func11, Try.ntmps11
  go_wp2_with fail
  generalize w.alloc (.cells #[.int .i64 x.indent, .slice ra x.rules.length rc, .slice ca x.chunks.length cc, .slice sa x.spans.length sc, .slice ta x.ties.length tc] 29) = w0 at *
  have hs0 := hb0.size
  have hxl0 := hX0.lt
  have HPK := Lib.hid (pieceOk_impl x ra ca sa ta rc cc sc tc lo hi w0 (HPP.out w0 hb0) (by omega) hT)
  unfold Piece.v at HPK
  obtain ⟨p0, p1, p2, p3, p4⟩ := hX0.five
  go_wp2_with fail
  refine HPK.out.mono ?_
  clear HPK
  rintro e w1 ⟨rfl, k1⟩
  have hb1 := hb0.trans (k1.mono (by omega))
  have hs1 := hb1.size
  have hX1 := hX0.below k1
  clear p0 p1 p2 p3 p4 hX0 hb0 k1
  cases g2 : pieceOk x with
  | false =>
    obtain rfl : ([] : List Int) = sb := by rw [← hsb.out]; unfold searchB; rw [g2]; rfl
    obtain rfl : (0 : Int) = ss := by rw [← hss.out]; unfold searchS; rw [g2]; rfl
    clear hsb hss
    go_wp2
    refine bodyPost_ret (v := .tuple #[.slice none 0 0, .int .i64 0]) (by simp [results, Try.results11, go_sem]) rfl ?_
    exact ⟨_, rfl, by rw [← HB.out]; exact hb1, Own.nil _ _ _ _ _⟩
  | true =>
  have hx := right_of g2
  have HGO : Hid ((huntL x wd budget).best = sb ∧ (huntL x wd budget).state = ss) := ⟨by rw [← hsb.out]; unfold searchB; rw [g2]; rfl, by rw [← hss.out]; unfold searchS; rw [g2]; rfl⟩
  obtain ⟨p0, p1, p2, p3, p4⟩ := hX1.five
  clear g2 hsb hss
  go_upto_region 4 with fail
  have hH1 : HBlk x ra rc ca cc sa sc ta tc w1.heap.size wd (.slice none 0 0) (.slice none 0 0) ⟨0, 0⟩ 0 (w1.alloc (.cells #[.int .i64 x.indent, .slice ra x.rules.length rc, .slice ca x.chunks.length cc, .slice sa x.spans.length sc, .slice ta x.ties.length tc, .int .i64 wd, .slice none 0 0, .int .i64 0, .int .i64 0, .slice none 0 0, .int .i64 0] 88)) := heap_alloc_new _ _
  have hb2 : Below B w (w1.alloc (.cells #[.int .i64 x.indent, .slice ra x.rules.length rc, .slice ca x.chunks.length cc, .slice sa x.spans.length sc, .slice ta x.ties.length tc, .int .i64 wd, .slice none 0 0, .int .i64 0, .int .i64 0, .slice none 0 0, .int .i64 0] 88)) := hb1.alloc (by omega) _
  clear p0 p1 p2 p3 p4 hX1
  generalize w1.alloc (.cells #[.int .i64 x.indent, .slice ra x.rules.length rc, .slice ca x.chunks.length cc, .slice sa x.spans.length sc, .slice ta x.ties.length tc, .int .i64 wd, .slice none 0 0, .int .i64 0, .int .i64 0, .slice none 0 0, .int .i64 0] 88) = w2 at *
  have HRU := Lib.hid (run_impl x ra ca sa ta rc cc sc tc lo hi w1.heap.size wd budget w2 (HPP.out w2 hb2) (by omega) hx hz hH1)
  go_wp2_with fail
  refine HRU.out.mono ?_
  clear HRU hH1
  rintro e w3 ⟨rfl, bv, hv, c, hH3, hO3, hb3⟩
  have hb4 := hb2.trans (hb3.mono (by omega))
  obtain ⟨p0, p1, p2, p3, p4, p5, p6, p7, p8, p9, p10⟩ := hH3.eleven
  obtain ⟨HG1, HG2⟩ := HGO.out
  rw [HG1] at hO3
  have HG3 := Lib.hid HG2
  clear HGO HG1 HG2 hH3
  obtain ⟨st, hst⟩ : ∃ st, Hid ((huntL x wd budget).state = st) := ⟨_, rfl⟩
  rw [hst.out] at HG3
  rw [hst.out]
  go_wp2_with fail
  refine bodyPost_ret (v := .tuple #[bv.v, .int .i64 st]) (by simp [results, Try.results11, go_sem]) rfl ?_
  exact ⟨_, by rw [HG3.out], by rw [← HB.out]; exact hb4, hO3.wide (by omega) (Nat.le_refl _)⟩
set_option maxHeartbeats 4000000 in
set_option maxRecDepth 100000 in
theorem popsOf_impl (x : Piece) (ra ca sa ta : Option Addr) (rc cc sc tc lo hi : Nat) (wd budget : Int) (w : World) (hp : PFour x ra rc ca cc sa sc ta tc lo hi w) (hh : hi ≤ w.heap.size) (hz : Sized x) :
    Calls Try.prog 46 #[x.v ra rc ca cc sa sc ta tc, .int .i64 wd, .int .i64 budget] w fun e w' => e = .returned (.int .i64 (popsB x wd budget)) ∧ Below w.heap.size w w' := by
  obtain ⟨B, HB⟩ : ∃ B, Hid (B = w.heap.size) := ⟨_, rfl⟩
  have hBw : B ≤ w.heap.size := Nat.le_of_eq HB.out
  have hBw' : w.heap.size ≤ B := Nat.le_of_eq HB.out.symm
  have hT : ∀ c ∈ x.chunks, c.text.size ≤ maxLen := fun c hc => by have := hz.text c hc; unfold maxLen; omega
  have HPP := Lib.hid (fun (w2 : World) (h2 : Below B w w2) => hp.below h2 (Nat.le_trans hh hBw'))
  have hhB : hi ≤ B := Nat.le_trans hh hBw'
  have hX0 := PBox.new x ra ca sa ta rc cc sc tc w
  have hb0 : Below B w (w.alloc (.cells #[.int .i64 x.indent, .slice ra x.rules.length rc, .slice ca x.chunks.length cc, .slice sa x.spans.length sc, .slice ta x.ties.length tc] 29)) := (Below.refl _ _).alloc hBw _
  obtain ⟨ss, hss⟩ : ∃ ss, Hid (popsB x wd budget = ss) := ⟨_, rfl⟩
  rw [hss.out]
  unfold Piece.v
  go_enter Try.func46, Try.ntmps46
  go_wp2_with fail
  generalize w.alloc (.cells #[.int .i64 x.indent, .slice ra x.rules.length rc, .slice ca x.chunks.length cc, .slice sa x.spans.length sc, .slice ta x.ties.length tc] 29) = w0 at *
  have hs0 := hb0.size
  have hxl0 := hX0.lt
  have HPK := Lib.hid (pieceOk_impl x ra ca sa ta rc cc sc tc lo hi w0 (HPP.out w0 hb0) (by omega) hT)
  unfold Piece.v at HPK
  obtain ⟨p0, p1, p2, p3, p4⟩ := hX0.five
  go_wp2_with fail
  refine HPK.out.mono ?_
  clear HPK
  rintro e w1 ⟨rfl, k1⟩
  have hb1 := hb0.trans (k1.mono (by omega))
  have hs1 := hb1.size
  have hX1 := hX0.below k1
  clear p0 p1 p2 p3 p4 hX0 hb0 k1
  cases g2 : pieceOk x with
  | false =>
    obtain rfl : (0 : Int) = ss := by rw [← hss.out]; unfold popsB; rw [g2]; rfl
    clear hss
    go_wp2
    go_ret
    exact ⟨rfl, by rw [← HB.out]; exact hb1⟩
  | true =>
  have hx := right_of g2
  have HGO : Hid ((huntL x wd budget).pops = ss) := by show _ = _; rw [← hss.out]; unfold popsB; rw [g2]; rfl
  obtain ⟨p0, p1, p2, p3, p4⟩ := hX1.five
  clear g2 hss
  go_upto_region 4 with fail
  have hH1 : HBlk x ra rc ca cc sa sc ta tc w1.heap.size wd (.slice none 0 0) (.slice none 0 0) ⟨0, 0⟩ 0 (w1.alloc (.cells #[.int .i64 x.indent, .slice ra x.rules.length rc, .slice ca x.chunks.length cc, .slice sa x.spans.length sc, .slice ta x.ties.length tc, .int .i64 wd, .slice none 0 0, .int .i64 0, .int .i64 0, .slice none 0 0, .int .i64 0] 88)) := heap_alloc_new _ _
  have hb2 : Below B w (w1.alloc (.cells #[.int .i64 x.indent, .slice ra x.rules.length rc, .slice ca x.chunks.length cc, .slice sa x.spans.length sc, .slice ta x.ties.length tc, .int .i64 wd, .slice none 0 0, .int .i64 0, .int .i64 0, .slice none 0 0, .int .i64 0] 88)) := hb1.alloc (by omega) _
  clear p0 p1 p2 p3 p4 hX1
  generalize w1.alloc (.cells #[.int .i64 x.indent, .slice ra x.rules.length rc, .slice ca x.chunks.length cc, .slice sa x.spans.length sc, .slice ta x.ties.length tc, .int .i64 wd, .slice none 0 0, .int .i64 0, .int .i64 0, .slice none 0 0, .int .i64 0] 88) = w2 at *
  have HRU := Lib.hid (run_impl x ra ca sa ta rc cc sc tc lo hi w1.heap.size wd budget w2 (HPP.out w2 hb2) (by omega) hx hz hH1)
  go_wp2_with fail
  refine HRU.out.mono ?_
  clear HRU hH1
  rintro e w3 ⟨rfl, bv, hv, c, hH3, hO3, hb3⟩
  have hb4 := hb2.trans (hb3.mono (by omega))
  obtain ⟨p0, p1, p2, p3, p4, p5, p6, p7, p8, p9, p10⟩ := hH3.eleven
  obtain ⟨st, hst⟩ : ∃ st, Hid ((huntL x wd budget).state = st) := ⟨_, rfl⟩
  rw [hst.out]
  obtain ⟨pn, hpn⟩ : ∃ pn, Hid ((huntL x wd budget).pops = pn) := ⟨_, rfl⟩
  rw [hpn.out] at p10 HGO
  clear hH3 hO3 hst hpn
  go_wp2
  go_ret
  exact ⟨ret_int HGO.out, by rw [← HB.out]; exact hb4⟩
end Go.Proofs.Ytllpgomloblfjaa
