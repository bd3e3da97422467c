/- Draws for the law on lines. -/
import Derived.Test.YtllpgomloblfjaaDrawPr
import Derived.Test.YtllpgomloblfjaaCostT
namespace Go.Proofs.Ytllpgomloblfjaa
open Go.RowKit

set_option maxHeartbeats 1000000 in
set_option maxRecDepth 100000 in
theorem drawRender_any {lo hi : Nat} {xs : List Int} {w : World} {v : Value} (hr : Rd bytS lo hi w v xs) (hh : hi ≤ w.heap.size) (hx : ∀ x ∈ xs, U8 x) (hl : xs.length ≤ 1048576) :
    Calls Try.prog 32 #[v] w fun e w' => ∃ (x : Piece) (vs : List Int) (ra : Option Addr) (rc : Nat) (ca : Option Addr) (cc : Nat) (sa : Option Addr) (sc : Nat) (ta : Option Addr) (tc : Nat) (va : Option Addr) (vc : Nat), e = .returned (.tuple #[x.v ra rc ca cc sa sc ta tc, .slice va vs.length vc]) ∧ AnyP x ∧ vs.length ≤ 10 ∧ PFour x ra rc ca cc sa sc ta tc w.heap.size w'.heap.size w' ∧ Rd intF.shape w.heap.size w'.heap.size w' (.slice va vs.length vc) vs ∧ Below w.heap.size w w' := by
  go_enter Try.func32, Try.ntmps32
  go_upto_region 1 with fail
  have hR0 := heap_alloc_new w (.cells #[.int .i64 0, .slice none 0 0, .slice none 0 0, .slice none 0 0, .slice none 0 0] 29)
  have hb0 : Below w.heap.size w (w.alloc (.cells #[.int .i64 0, .slice none 0 0, .slice none 0 0, .slice none 0 0, .slice none 0 0] 29)) := (Below.refl _ _).alloc (Nat.le_refl _) _
  have hs0 : w.heap.size < (w.alloc (.cells #[.int .i64 0, .slice none 0 0, .slice none 0 0, .slice none 0 0, .slice none 0 0] 29)).heap.size := by simp
  have hr0 := hr.below hb0 hh
  generalize w.alloc (.cells #[.int .i64 0, .slice none 0 0, .slice none 0 0, .slice none 0 0, .slice none 0 0] 29) = w0 at *
  go_wp2_with fail
  refine (l08Pair_any hr0 (by omega) hx hl).mono ?_
  rintro e wr ⟨x, vs, ra, rc, ca, cc, sa, sc, ta, tc, va, vc, rfl, hA, hvl, hP, hV, hb3⟩
  have hR := (hb3.block w.heap.size (by omega)).trans hR0
  have hB4 := hb0.trans (hb3.mono (by omega))
  have hs3 := hb3.size
  clear hb0 hb3 hR0
  unfold Piece.v
  have p0 := 0
  have p1 := 0
  have p2 := 0
  have p3 := 0
  have p4 := 0
  have z0 := cell_heap (j := 0) hR rfl
  have z1 := cell_heap (j := 1) hR rfl
  have z2 := cell_heap (j := 2) hR rfl
  have z3 := cell_heap (j := 3) hR rfl
  have z4 := cell_heap (j := 4) hR rfl
  have f0 := frozen_heap (j := 0) hR
  have f1 := frozen_heap (j := 1) hR
  have f2 := frozen_heap (j := 2) hR
  have f3 := frozen_heap (j := 3) hR
  have f4 := frozen_heap (j := 4) hR
  go_wp2
  change bodyPost _ _ _ _ _ (storeAll w.heap.size [.int .i64 x.indent, .slice ra x.rules.length rc, .slice ca x.chunks.length cc, .slice sa x.spans.length sc, .slice ta x.ties.length tc] 0 wr)
  clear p0 p1 p2 p3 p4 z0 z1 z2 z3 z4 f0 f1 f2 f3 f4
  obtain ⟨q0, q1, q2, q3, q4⟩ := stored5 hR [.int .i64 x.indent, .slice ra x.rules.length rc, .slice ca x.chunks.length cc, .slice sa x.spans.length sc, .slice ta x.ties.length tc] rfl
  have hBe : Below w.heap.size wr (storeAll w.heap.size [.int .i64 x.indent, .slice ra x.rules.length rc, .slice ca x.chunks.length cc, .slice sa x.spans.length sc, .slice ta x.ties.length tc] 0 wr) := blw_storeAll (Below.refl _ _) (Nat.le_refl _) _ _
  have hSa : ∀ lo hi : Nat, (w.heap.size < lo ∨ hi ≤ w.heap.size) → Same lo hi wr (storeAll w.heap.size [.int .i64 x.indent, .slice ra x.rules.length rc, .slice ca x.chunks.length cc, .slice sa x.spans.length sc, .slice ta x.ties.length tc] 0 wr) := fun lo hi h => same_storeAllP h _ 0 _
  have hse := hBe.size
  generalize storeAll w.heap.size [.int .i64 x.indent, .slice ra x.rules.length rc, .slice ca x.chunks.length cc, .slice sa x.spans.length sc, .slice ta x.ties.length tc] 0 wr = wf at *
  refine bodyPost_ret (v := .tuple #[.agg #[.int .i64 x.indent, .slice ra x.rules.length rc, .slice ca x.chunks.length cc, .slice sa x.spans.length sc, .slice ta x.ties.length tc], .slice va vs.length vc]) (by simp [results, Try.results32, go_sem, q0, q1, q2, q3, q4]) rfl ?_
  exact ⟨x, vs, ra, rc, ca, cc, sa, sc, ta, tc, va, vc, rfl, hA, hvl, (hP.same (hSa _ _ (.inl (by omega)))).wide (by omega) (by omega), (hV.same (hSa _ _ (.inl (by omega)))).wide (by omega) (by omega), hB4.trans hBe⟩
set_option maxHeartbeats 2000000 in
set_option maxRecDepth 100000 in
theorem drawCostOf_any {lo hi : Nat} {xs : List Int} {w : World} {v : Value} (hr : Rd bytS lo hi w v xs) (hh : hi ≤ w.heap.size) (hx : ∀ x ∈ xs, U8 x) (hl : xs.length ≤ 1048576) :
    Calls Try.prog 33 #[v] w fun e w' => ∃ (x : Piece) (vs : List Int) (n : Int) (ra : Option Addr) (rc : Nat) (ca : Option Addr) (cc : Nat) (sa : Option Addr) (sc : Nat) (ta : Option Addr) (tc : Nat) (va : Option Addr) (vc : Nat), e = .returned (.tuple #[x.v ra rc ca cc sa sc ta tc, .slice va vs.length vc, .int .i64 n]) ∧ AnyP x ∧ vs.length ≤ 10 ∧ PFour x ra rc ca cc sa sc ta tc w.heap.size w'.heap.size w' ∧ Rd intF.shape w.heap.size w'.heap.size w' (.slice va vs.length vc) vs ∧ Below w.heap.size w w' := by
  go_enter Try.func33, Try.ntmps33
  go_upto_region 1 with fail
  have hR := heap_alloc_new w (.cells #[.int .i64 0, .slice none 0 0, .slice none 0 0, .slice none 0 0, .slice none 0 0] 29)
  have hb0 : Below w.heap.size w (w.alloc (.cells #[.int .i64 0, .slice none 0 0, .slice none 0 0, .slice none 0 0, .slice none 0 0] 29)) := (Below.refl _ _).alloc (Nat.le_refl _) _
  have hs0 : (w.alloc (.cells #[.int .i64 0, .slice none 0 0, .slice none 0 0, .slice none 0 0, .slice none 0 0] 29)).heap.size = w.heap.size + 1 := by simp
  have hr0 := hr.below hb0 hh
  generalize w.alloc (.cells #[.int .i64 0, .slice none 0 0, .slice none 0 0, .slice none 0 0, .slice none 0 0] 29) = w0 at *
  go_wp2_with fail
  refine (l01New_any hr0 (by omega) hx hl).mono ?_
  rintro e w1 ⟨rfl, hb1, hc1, hs1⟩
  have hB1 := hb0.trans (hb1.mono (by omega))
  replace hR := (hb1.block w.heap.size (by omega)).trans hR
  clear hb0 hb1 hr0
  obtain ⟨g, hg⟩ : ∃ g, Hid (g = w0.heap.size) := ⟨_, rfl⟩
  rw [← hg.out] at hs0 hs1 hc1 ⊢
  have hg1 : w.heap.size < g := by omega
  have hg2 : g < w1.heap.size := by omega
  clear hs0 hs1 hg
  go_upto_region 2 with fail
  have hr1 := (hr.below hB1 hh)
  have hrl := rd_lit intF w1 [10, 20, 40, 0, -1, 9223372036854775807] #[.int .i64 10, .int .i64 20, .int .i64 40, .int .i64 0, .int .i64 (-1), .int .i64 9223372036854775807] 3 rfl (by decide)
  have hbl : Below w1.heap.size w1 (w1.alloc (.cells #[.int .i64 10, .int .i64 20, .int .i64 40, .int .i64 0, .int .i64 (-1), .int .i64 9223372036854775807] 3)) := (Below.refl _ _).alloc (Nat.le_refl _) _
  have hcl := hc1.below hbl (by omega)
  have hsl : w1.heap.size < (w1.alloc (.cells #[.int .i64 10, .int .i64 20, .int .i64 40, .int .i64 0, .int .i64 (-1), .int .i64 9223372036854775807] 3)).heap.size := by simp
  have hBl := hB1.trans (hbl.mono (by omega))
  replace hR := blk hbl hR
  go_wp2_with fail
  generalize w1.alloc (.cells #[.int .i64 10, .int .i64 20, .int .i64 40, .int .i64 0, .int .i64 (-1), .int .i64 9223372036854775807] 3) = wl1 at *
  refine (l01PickInt_any hcl hrl (by omega) (.inr (by omega)) (by decide) (by decide)).mono ?_
  rintro e w2 ⟨n, rfl, hn1, ho1, hc2⟩
  have hsz1 := ho1.size
  have hB2 : Below w.heap.size w w2 := hBl.trans (ho1.below (by omega) (by omega))
  replace hR := (ho1.block w.heap.size (by omega) (by omega)).trans hR
  clear hrl hbl hcl hBl ho1 hc1 hB1
  go_upto_region 3 with fail
  have hr2 := hr.below hB2 hh
  go_wp2_with fail
  refine (l08Pair_any hr2 (by omega) hx hl).mono ?_
  rintro e w3 ⟨x, vs, ra, rc, ca, cc, sa, sc, ta, tc, va, vc, rfl, hA, hvl, hP, hV, hb3⟩
  have hs3 := hb3.size
  replace hR := (hb3.block w.heap.size (by omega)).trans hR
  have hB3 : Below w.heap.size w w3 := hB2.trans (hb3.mono (by omega))
  clear hB2 hb3 hr2 hr1
  unfold Piece.v
  go_upto_region 4 with fail
  have kb : Below w3.heap.size w3 (w3.alloc (.cells #[.int .i64 x.indent, .slice ra x.rules.length rc, .slice ca x.chunks.length cc, .slice sa x.spans.length sc, .slice ta x.ties.length tc] 29)) := (Below.refl _ _).alloc (Nat.le_refl _) _
  have hX0 := heap_alloc_new w3 (.cells #[.int .i64 x.indent, .slice ra x.rules.length rc, .slice ca x.chunks.length cc, .slice sa x.spans.length sc, .slice ta x.ties.length tc] 29)
  have hsz : w3.heap.size < (w3.alloc (.cells #[.int .i64 x.indent, .slice ra x.rules.length rc, .slice ca x.chunks.length cc, .slice sa x.spans.length sc, .slice ta x.ties.length tc] 29)).heap.size := by simp
  obtain ⟨P, hPe⟩ : ∃ P, Hid (P = w3.heap.size) := ⟨_, rfl⟩
  rw [← hPe.out] at hX0 ⊢
  have hX : PBox x ra rc ca cc sa sc ta tc P (w3.alloc (.cells #[.int .i64 x.indent, .slice ra x.rules.length rc, .slice ca x.chunks.length cc, .slice sa x.spans.length sc, .slice ta x.ties.length tc] 29)) := hX0
  clear hX0 hPe
  replace hP := (hP.below kb (Nat.le_refl _)).wide (lo' := w.heap.size + 1) (hi' := (w3.alloc (.cells #[.int .i64 x.indent, .slice ra x.rules.length rc, .slice ca x.chunks.length cc, .slice sa x.spans.length sc, .slice ta x.ties.length tc] 29)).heap.size) (by omega) (by omega)
  replace hV := (hV.below kb (Nat.le_refl _)).wide (lo' := w.heap.size + 1) (hi' := (w3.alloc (.cells #[.int .i64 x.indent, .slice ra x.rules.length rc, .slice ca x.chunks.length cc, .slice sa x.spans.length sc, .slice ta x.ties.length tc] 29)).heap.size) (by omega) (by omega)
  replace hR := blk kb hR
  have hB4 := hB3.trans (kb.mono (by omega))
  clear hB3 kb
  generalize w3.alloc (.cells #[.int .i64 x.indent, .slice ra x.rules.length rc, .slice ca x.chunks.length cc, .slice sa x.spans.length sc, .slice ta x.ties.length tc] 29) = wq at *
  obtain ⟨p0, p1, p2, p3, p4⟩ := hX.five
  have z0 := cell_heap (j := 0) hR rfl
  have z1 := cell_heap (j := 1) hR rfl
  have z2 := cell_heap (j := 2) hR rfl
  have z3 := cell_heap (j := 3) hR rfl
  have z4 := cell_heap (j := 4) hR rfl
  have f0 := frozen_heap (j := 0) hR
  have f1 := frozen_heap (j := 1) hR
  have f2 := frozen_heap (j := 2) hR
  have f3 := frozen_heap (j := 3) hR
  have f4 := frozen_heap (j := 4) hR
  go_wp2
  change bodyPost _ _ _ _ _ (storeAll w.heap.size [.int .i64 x.indent, .slice ra x.rules.length rc, .slice ca x.chunks.length cc, .slice sa x.spans.length sc, .slice ta x.ties.length tc] 0 wq)
  clear p0 p1 p2 p3 p4 z0 z1 z2 z3 z4 f0 f1 f2 f3 f4
  obtain ⟨q0, q1, q2, q3, q4⟩ := stored5 hR [.int .i64 x.indent, .slice ra x.rules.length rc, .slice ca x.chunks.length cc, .slice sa x.spans.length sc, .slice ta x.ties.length tc] rfl
  have hBe : Below w.heap.size wq (storeAll w.heap.size [.int .i64 x.indent, .slice ra x.rules.length rc, .slice ca x.chunks.length cc, .slice sa x.spans.length sc, .slice ta x.ties.length tc] 0 wq) := blw_storeAll (Below.refl _ _) (Nat.le_refl _) _ _
  have hSa : ∀ lo hi : Nat, (w.heap.size < lo ∨ hi ≤ w.heap.size) → Same lo hi wq (storeAll w.heap.size [.int .i64 x.indent, .slice ra x.rules.length rc, .slice ca x.chunks.length cc, .slice sa x.spans.length sc, .slice ta x.ties.length tc] 0 wq) := fun lo hi h => same_storeAllP h _ 0 _
  have hse := hBe.size
  generalize storeAll w.heap.size [.int .i64 x.indent, .slice ra x.rules.length rc, .slice ca x.chunks.length cc, .slice sa x.spans.length sc, .slice ta x.ties.length tc] 0 wq = wf at *
  refine bodyPost_ret (v := .tuple #[.agg #[.int .i64 x.indent, .slice ra x.rules.length rc, .slice ca x.chunks.length cc, .slice sa x.spans.length sc, .slice ta x.ties.length tc], .slice va vs.length vc, .int .i64 n]) (by simp [results, Try.results33, go_sem, q0, q1, q2, q3, q4]) rfl ?_
  exact ⟨x, vs, n, ra, rc, ca, cc, sa, sc, ta, tc, va, vc, rfl, hA, hvl, (hP.same (hSa _ _ (.inl (by omega)))).wide (by omega) (by omega), (hV.same (hSa _ _ (.inl (by omega)))).wide (by omega) (by omega), hB4.trans hBe⟩
set_option maxHeartbeats 2000000 in
set_option maxRecDepth 100000 in
theorem drawCostLess_any {lo hi : Nat} {xs : List Int} {w : World} {v : Value} (hr : Rd bytS lo hi w v xs) (hh : hi ≤ w.heap.size) (hx : ∀ x ∈ xs, U8 x) (hl : xs.length ≤ 1048576) :
    Calls Try.prog 34 #[v] w fun e w' => ∃ a b : CostL, e = .returned (.tuple #[.agg #[.int .i64 a.over, .int .i64 a.sum], .agg #[.int .i64 b.over, .int .i64 b.sum]]) ∧ Below w.heap.size w w' := by
  go_enter Try.func34, Try.ntmps34
  go_upto_region 1 with fail
  obtain ⟨hR1, hR2⟩ := heap_two w (.cells #[.int .i64 0, .int .i64 0] 37) (.cells #[.int .i64 0, .int .i64 0] 37)
  have hb0 : Below w.heap.size w ((w.alloc (.cells #[.int .i64 0, .int .i64 0] 37)).alloc (.cells #[.int .i64 0, .int .i64 0] 37)) := ((Below.refl _ _).alloc (Nat.le_refl _) _).alloc (by simp) _
  have hs0 : ((w.alloc (.cells #[.int .i64 0, .int .i64 0] 37)).alloc (.cells #[.int .i64 0, .int .i64 0] 37)).heap.size = w.heap.size + 2 := by simp
  have hr0 := hr.below hb0 hh
  generalize (w.alloc (.cells #[.int .i64 0, .int .i64 0] 37)).alloc (.cells #[.int .i64 0, .int .i64 0] 37) = w0 at *
  go_wp2_with fail
  refine (l01New_any hr0 (by omega) hx hl).mono ?_
  rintro e w1 ⟨rfl, hb1, hc1, hs1⟩
  have hB1 := hb0.trans (hb1.mono (by omega))
  replace hR1 := (hb1.block w.heap.size (by omega)).trans hR1
  replace hR2 := (hb1.block (w.heap.size + 1) (by omega)).trans hR2
  obtain ⟨g, hg⟩ : ∃ g, Hid (g = w0.heap.size) := ⟨_, rfl⟩
  rw [← hg.out] at hs0 hs1 hc1 ⊢
  have hg1 : w.heap.size + 1 < g := by omega
  have hg2 : g < w1.heap.size := by omega
  clear hs0 hs1 hg hb0 hb1 hr0
  go_upto_region 2 with fail
  go_wp2_with fail
  refine (l01Below_any (n := 3) hc1 (by omega) (by omega)).mono ?_
  rintro e w2 ⟨a0, rfl, -, -, ho2, hc2⟩
  replace hR1 := (ho2.block w.heap.size (by omega) (by omega)).trans hR1
  replace hR2 := (ho2.block (w.heap.size + 1) (by omega) (by omega)).trans hR2
  have hB2 := hB1.trans (ho2.below (B := w.heap.size) (by omega) (by omega))
  have hs2 := ho2.size
  clear ho2 hc1 hB1
  go_wp2_with fail
  refine (l01Below_any (n := 3) hc2 (by omega) (by omega)).mono ?_
  rintro e w3 ⟨a1, rfl, -, -, ho3, hc3⟩
  replace hR1 := (ho3.block w.heap.size (by omega) (by omega)).trans hR1
  replace hR2 := (ho3.block (w.heap.size + 1) (by omega) (by omega)).trans hR2
  have hB3 := hB2.trans (ho3.below (B := w.heap.size) (by omega) (by omega))
  have hs3 := ho3.size
  clear ho3 hc2 hB2
  go_upto_region 3 with fail
  have kb : Below w3.heap.size w3 (w3.alloc (.cells #[.int .i64 a0, .int .i64 a1] 37)) := (Below.refl _ _).alloc (Nat.le_refl _) _
  have hA := heap_alloc_new w3 (.cells #[.int .i64 a0, .int .i64 a1] 37)
  have hsz : w3.heap.size < (w3.alloc (.cells #[.int .i64 a0, .int .i64 a1] 37)).heap.size := by simp
  obtain ⟨A, hPe⟩ : ∃ P, Hid (P = w3.heap.size) := ⟨_, rfl⟩
  have hA1 : A ≤ w3.heap.size := Nat.le_of_eq hPe.out
  have hA2 : w3.heap.size ≤ A := Nat.le_of_eq hPe.out.symm
  rw [← hPe.out] at hA ⊢
  clear hPe
  replace hR1 := blk kb hR1
  replace hR2 := blk kb hR2
  have hB4 := hB3.trans (kb.mono (by omega))
  have hc4 := hc3.below kb hc3.lt
  have hAl : A < (w3.alloc (.cells #[.int .i64 a0, .int .i64 a1] 37)).heap.size := by omega
  clear hB3 hc3 kb
  generalize w3.alloc (.cells #[.int .i64 a0, .int .i64 a1] 37) = w4 at *
  refine wp_region_held_drew (S := fun w' => w'.heap[A]? = some (.cells #[.int .i64 a0, .int .i64 a1] 37)) (by kernel_rfl) ?_ (fun hHeld => ?_)
  · exact hA
  clear hHeld
  replace hA := blk_drew hA
  replace hc4 := hc4.drew
  replace hR1 := blk_drew hR1
  replace hR2 := blk_drew hR2
  replace hB4 := hB4.drew
  replace hAl : A < w4.drew.heap.size := hAl
  generalize w4.drew = wD at *
  refine wpAnyH_take (i := 0) (v := ?v1) (at_op rfl) (by kernel_rfl) (by kernel_rfl) (by kernel_rfl) (fun _ _ _ h => h) (Or.inl ⟨by rfl, ?y1⟩) (by assumption) ?r1
  case y1 =>
    intro wx hSx
    obtain ⟨e0, e1⟩ := two_c hSx
    go_simp
    try with_reducible rfl
  try simp only [Act.put, List.setIfInBounds_toArray, List.set_cons_zero, List.set_cons_succ]
  refine wpAnyH_take (i := 1) (v := ?v2) (at_op rfl) (by kernel_rfl) (by kernel_rfl) (by kernel_rfl) (fun _ _ _ h => h) (Or.inl ⟨by rfl, ?y2⟩) (by assumption) ?r2
  case y2 =>
    intro wx hSx
    obtain ⟨e0, e1⟩ := two_c hSx
    go_simp
    try with_reducible rfl
  try simp only [Act.put, List.setIfInBounds_toArray, List.set_cons_zero, List.set_cons_succ]
  refine wpAnyH_take (i := 3) (v := ?v3) (at_op rfl) (by kernel_rfl) (by kernel_rfl) (by kernel_rfl) (fun _ _ _ h => h) (Or.inl ⟨by rfl, ?y3⟩) (by assumption) ?r3
  case y3 =>
    intro wx hSx
    obtain ⟨e0, e1⟩ := two_c hSx
    go_simp
    try with_reducible rfl
  try simp only [Act.put, List.setIfInBounds_toArray, List.set_cons_zero, List.set_cons_succ]
  refine wpAnyH_ready (rs := [2]) (by kernel_rfl) (by simp) ?_
  refine AllReadyH.cons (at_op rfl) (fun K hK => ?_) AllReadyH.nil
  go_simp
  refine (l01Below_any (n := 3) hc4 (by omega) (by omega)).mono ?_
  rintro e w5 ⟨b0, rfl, -, -, ho, hc5⟩
  replace hA := (ho.block A hAl (by omega)).trans hA
  replace hR1 := (ho.block w.heap.size (by omega) (by omega)).trans hR1
  replace hR2 := (ho.block (w.heap.size + 1) (by omega) (by omega)).trans hR2
  replace hB4 := hB4.trans (ho.below (B := w.heap.size) (by omega) (by omega))
  replace hAl : A < w5.heap.size := Nat.lt_of_lt_of_le hAl ho.size
  clear ho
  refine hK.out _ _ hA (fun _ => ?_)
  clear hK K
  try simp only [Act.put, List.setIfInBounds_toArray, List.set_cons_zero, List.set_cons_succ]
  refine wpAnyH_ready (rs := [4]) (by kernel_rfl) (by simp) ?_
  refine AllReadyH.cons (at_op rfl) (fun K hK => ?_) AllReadyH.nil
  go_simp
  refine (l01Below_any (n := 3) hc5 (by omega) (by omega)).mono ?_
  rintro e w6 ⟨b1, rfl, -, -, ho, hc6⟩
  replace hA := (ho.block A hAl (by omega)).trans hA
  replace hR1 := (ho.block w.heap.size (by omega) (by omega)).trans hR1
  replace hR2 := (ho.block (w.heap.size + 1) (by omega) (by omega)).trans hR2
  replace hB4 := hB4.trans (ho.below (B := w.heap.size) (by omega) (by omega))
  replace hAl : A < w6.heap.size := Nat.lt_of_lt_of_le hAl ho.size
  clear ho
  refine hK.out _ _ hA (fun _ => ?_)
  clear hK K
  try simp only [Act.put, List.setIfInBounds_toArray, List.set_cons_zero, List.set_cons_succ]
  refine wpAnyH_take (i := 5) (v := ?v4) (at_op rfl) (by kernel_rfl) (by kernel_rfl) (by kernel_rfl) (fun _ _ _ h => h) (Or.inl ⟨by rfl, ?y4⟩) (by assumption) ?r4
  case y4 =>
    intro wx hSx
    obtain ⟨e0, e1⟩ := two_c hSx
    go_simp
    try with_reducible rfl
  try simp only [Act.put, List.setIfInBounds_toArray, List.set_cons_zero, List.set_cons_succ]
  refine wpAnyH_ready (rs := [6]) (by kernel_rfl) (by simp) ?_
  refine AllReadyH.cons (at_op rfl) (fun K hK => ?_) AllReadyH.nil
  have z0 := cell_heap (j := 0) hR1 rfl
  have z1 := cell_heap (j := 1) hR1 rfl
  have f0 := frozen_heap (j := 0) hR1
  have f1 := frozen_heap (j := 1) hR1
  go_wp2_with fail
  have hk := two_setC (u0 := .int .i64 a0) (u1 := .int .i64 a1) hR1
  have hb : Below w.heap.size w6 ((w6.setCell ⟨w.heap.size, 0, none⟩ (.int .i64 a0)).setCell ⟨w.heap.size, 1, none⟩ (.int .i64 a1)) := ((Below.refl _ _).setCell (p := ⟨w.heap.size, 0, none⟩) (by first | exact Nat.le_refl _ | exact Nat.le_succ _) _).setCell (p := ⟨w.heap.size, 1, none⟩) (by first | exact Nat.le_refl _ | exact Nat.le_succ _) _
  replace hA := heap_set_other (j := 1) (v := .int .i64 a1) (by omega : A ≠ w.heap.size) (heap_set_other (j := 0) (v := .int .i64 a0) (by omega : A ≠ w.heap.size) hA)
  replace hR2 := heap_set_other (j := 1) (v := .int .i64 a1) (by omega : (w.heap.size + 1) ≠ w.heap.size) (heap_set_other (j := 0) (v := .int .i64 a0) (by omega : (w.heap.size + 1) ≠ w.heap.size) hR2)
  clear z0 z1 f0 f1 hR1
  have hR1 := hk
  clear hk
  replace hB4 := hB4.trans hb
  clear hb
  generalize (w6.setCell ⟨w.heap.size, 0, none⟩ (.int .i64 a0)).setCell ⟨w.heap.size, 1, none⟩ (.int .i64 a1) = w7 at *
  refine hK.out _ _ hA (fun _ => ?_)
  clear hK K
  try simp only [Act.put, List.setIfInBounds_toArray, List.set_cons_zero, List.set_cons_succ]
  refine wpAnyH_ready (rs := [7]) (by kernel_rfl) (by simp) ?_
  refine AllReadyH.cons (at_op rfl) (fun K hK => ?_) AllReadyH.nil
  have z0 := cell_heap (j := 0) hR2 rfl
  have z1 := cell_heap (j := 1) hR2 rfl
  have f0 := frozen_heap (j := 0) hR2
  have f1 := frozen_heap (j := 1) hR2
  go_wp2_with fail
  have hk := two_setC (u0 := .int .i64 b0) (u1 := .int .i64 b1) hR2
  have hb : Below w.heap.size w7 ((w7.setCell ⟨(w.heap.size + 1), 0, none⟩ (.int .i64 b0)).setCell ⟨(w.heap.size + 1), 1, none⟩ (.int .i64 b1)) := ((Below.refl _ _).setCell (p := ⟨(w.heap.size + 1), 0, none⟩) (by first | exact Nat.le_refl _ | exact Nat.le_succ _) _).setCell (p := ⟨(w.heap.size + 1), 1, none⟩) (by first | exact Nat.le_refl _ | exact Nat.le_succ _) _
  replace hA := heap_set_other (j := 1) (v := .int .i64 b1) (by omega : A ≠ (w.heap.size + 1)) (heap_set_other (j := 0) (v := .int .i64 b0) (by omega : A ≠ (w.heap.size + 1)) hA)
  replace hR1 := heap_set_other (j := 1) (v := .int .i64 b1) (by omega : w.heap.size ≠ (w.heap.size + 1)) (heap_set_other (j := 0) (v := .int .i64 b0) (by omega : w.heap.size ≠ (w.heap.size + 1)) hR1)
  clear z0 z1 f0 f1 hR2
  have hR2 := hk
  clear hk
  replace hB4 := hB4.trans hb
  clear hb
  generalize (w7.setCell ⟨(w.heap.size + 1), 0, none⟩ (.int .i64 b0)).setCell ⟨(w.heap.size + 1), 1, none⟩ (.int .i64 b1) = w8 at *
  refine hK.out _ _ hA (fun _ => ?_)
  clear hK K
  try simp only [Act.put, List.setIfInBounds_toArray, List.set_cons_zero, List.set_cons_succ]
  refine wpAnyH_done (by kernel_rfl) ?_ _
  obtain ⟨q0, q1⟩ := two_c hR1
  obtain ⟨q2, q3⟩ := two_c hR2
  go_wp2
  refine bodyPost_ret (v := .tuple #[.agg #[.int .i64 a0, .int .i64 a1], .agg #[.int .i64 b0, .int .i64 b1]]) (by simp [results, Try.results34, go_sem, q0, q1, q2, q3]) rfl ?_
  exact ⟨⟨a0, a1⟩, ⟨b0, b1⟩, rfl, hB4⟩
set_option maxHeartbeats 2000000 in
set_option maxRecDepth 100000 in
theorem drawCompare_any {lo hi : Nat} {xs : List Int} {w : World} {v : Value} (hr : Rd bytS lo hi w v xs) (hh : hi ≤ w.heap.size) (hx : ∀ x ∈ xs, U8 x) (hl : xs.length ≤ 1048576) :
    Calls Try.prog 35 #[v] w fun e w' => ∃ (al bl : List Int) (aa : Option Addr) (ac : Nat) (ba : Option Addr) (bc : Nat), e = .returned (.tuple #[.slice aa al.length ac, .slice ba bl.length bc]) ∧ Rd intS w.heap.size w'.heap.size w' (.slice aa al.length ac) al ∧ Rd intS w.heap.size w'.heap.size w' (.slice ba bl.length bc) bl ∧ Below w.heap.size w w' := by
  obtain ⟨i0, hi0, hz0, hz1, hz2⟩ := info_parts Try.infoIntQ
  go_enter Try.func35, Try.ntmps35
  go_wp2_with fail
  refine (l01New_any hr hh hx hl).mono ?_
  rintro e w1 ⟨rfl, hB0, hc0, hs1⟩
  obtain ⟨g, hg⟩ : ∃ g, Hid (g = w.heap.size) := ⟨_, rfl⟩
  have hg1 : w.heap.size ≤ g := Nat.le_of_eq hg.out.symm
  have hg2 : g < w1.heap.size := by have := hg.out; omega
  rw [← hg.out] at hc0 ⊢
  clear hs1
  go_upto_region 3 with fail
  have kb : Below w1.heap.size w1 (w1.alloc (.cells #[] 3)) := (Below.refl _ _).alloc (Nat.le_refl _) _
  have hE := Own.empty intF 3 w1.heap.size w1 (Nat.le_refl _)
  have hB1 := hB0.trans (kb.mono (by have := hB0.size; omega))
  have hc1 := hc0.below kb hc0.lt
  skip
  obtain ⟨C1, HC⟩ : ∃ C, Hid (C = (w1.alloc (.cells #[] 3)).heap.size) := ⟨_, rfl⟩
  have hCa1 : C1 ≤ (w1.alloc (.cells #[] 3)).heap.size := Nat.le_of_eq HC.out
  have hC2 : (w1.alloc (.cells #[] 3)).heap.size ≤ C1 := Nat.le_of_eq HC.out.symm
  have hsz := kb.size
  have hgl := hc0.lt
  have hOE1 : OutE intF 3 (g + 1) C1 (w1.alloc (.cells #[] 3)) (.slice (some ⟨w1.heap.size, 0, none⟩) 0 0) [] := .inr ⟨rfl, ⟨_, rfl⟩, hE.wide (by omega) hC2⟩
  have hBC1 : g + 1 ≤ C1 := by omega
  skip
  clear hE kb hC2 HC
  generalize w1.alloc (.cells #[] 3) = ws1 at *
  go_wp2
  go_loopw [5, 6] (fun out i wr => ∃ (k : Nat) (ys : List Int), k ≤ 4 ∧ i = .int .i64 k ∧ ys.length = k ∧ Below w.heap.size w wr ∧ Cur g lo hi xs wr ∧ C1 ≤ wr.heap.size ∧ OutE intF 3 (g + 1) C1 wr out ys) (fun _ i _ => 4 - (intOf i).toNat)
  case atStart => exact ⟨0, [], Nat.zero_le _, rfl, rfl, hB1, hc1, hCa1, hOE1⟩
  case round =>
    clear hB1 hc1 hCa1 hOE1
    obtain ⟨k, ys, hk, rfl, hyl, hb, hcu, hCw, hO⟩ := hrel
    go_wp2_with fail
    refine (l01Below_any (n := 4) hcu (by omega) (by omega)).mono ?_
    rintro e w5 ⟨q, rfl, q1, q2, ho5, hc5⟩
    have hs5 := ho5.size
    have hO5 := hO.out ho5 (Nat.le_refl _) hBC1 hCw
    have hb5 := hb.trans (ho5.below (B := w.heap.size) (by omega) (by omega))
    skip
    clear hO hb hcu
    by_cases hlt : (k : Int) < q
    · go_wp2_with fail
      refine (l01Below_any (n := 3) hc5 (by omega) (by omega)).mono ?_
      rintro e w4 ⟨y, rfl, y1, y2, ho4, hc4⟩
      have hs4 := ho4.size
      have hO4 := hO5.out ho4 (Nat.le_refl _) hBC1 (by omega)
      have hb4 := hb5.trans (ho4.below (B := w.heap.size) (by omega) (by omega))
      skip
      clear hO5 hb5 hc5
      go_wp2_with (at_builtin; refine wp_app1e (F := intF) (P := Try.prog) (y := y) rfl (.tmp 18) (.tmp 21) 32 rfl Try.underlying32 hi0 hz0 hz1 hz2 rfl (by decide) rfl (hO4.keep (w' := w4.alloc _) ((Below.refl _ _).alloc (Nat.le_refl _) _) (by omega)) w4.heap.size rfl (heap_alloc_new _ _) rfl (by omega) (by omega) (by simp; omega) ?_; intro v' w' hO' hb')
      have hbs : Below C1 w4 w' := ((Below.refl C1 w4).alloc (by omega) _).trans hb'
      have hsw := hbs.size
      go_roundw
      case rel => exact ⟨k + 1, ys ++ [y], by omega, by go_num, by simp; omega, hb4.trans (hbs.mono (by omega)), hc4.below hbs (by omega), by omega, hO'⟩
      case measure => simp [intOf]; omega
    · have hAo := hO5.own hBC1 (by omega)
      obtain ⟨aa, ac, rfl, -, -, -⟩ := hAo.form
      replace hyl : ys.length ≤ 4 := by omega
      generalize ys = al at *
      have hB9 := hb5
      have hc9 := hc5
      clear hO5 hCw
      go_upto_region 8 with fail
      clear hlt q1 q2
      have kb : Below w5.heap.size w5 (w5.alloc (.cells #[] 3)) := (Below.refl _ _).alloc (Nat.le_refl _) _
      have hE := Own.empty intF 3 w5.heap.size w5 (Nat.le_refl _)
      have hB2 := hB9.trans (kb.mono (by have := hB9.size; omega))
      have hc2 := hc9.below kb hc9.lt
      have hAs0 := hAo.below kb (Nat.le_refl _)
      clear hAo
      obtain ⟨C2, HC⟩ : ∃ C, Hid (C = (w5.alloc (.cells #[] 3)).heap.size) := ⟨_, rfl⟩
      have hCa2 : C2 ≤ (w5.alloc (.cells #[] 3)).heap.size := Nat.le_of_eq HC.out
      have hC2 : (w5.alloc (.cells #[] 3)).heap.size ≤ C2 := Nat.le_of_eq HC.out.symm
      have hsz := kb.size
      have hgl := hc9.lt
      have hOE2 : OutE intF 3 (g + 1) C2 (w5.alloc (.cells #[] 3)) (.slice (some ⟨w5.heap.size, 0, none⟩) 0 0) [] := .inr ⟨rfl, ⟨_, rfl⟩, hE.wide (by omega) hC2⟩
      have hBC2 : g + 1 ≤ C2 := by omega
      have hAs := hAs0.wide (Nat.le_refl _) (show w5.heap.size ≤ C2 by omega)
      clear hAs0
      clear hE kb hC2 HC
      generalize w5.alloc (.cells #[] 3) = ws2 at *
      go_wp2
      go_loopw [7, 8] (fun out i wr => ∃ (k : Nat) (ys : List Int), k ≤ 4 ∧ i = .int .i64 k ∧ ys.length = k ∧ Below w.heap.size w wr ∧ Cur g lo hi xs wr ∧ C2 ≤ wr.heap.size ∧ OutE intF 3 (g + 1) C2 wr out ys ∧ Own intF 3 (g + 1) C2 wr (.slice aa al.length ac) al) (fun _ i _ => 4 - (intOf i).toNat)
      case atStart => exact ⟨0, [], Nat.zero_le _, rfl, rfl, hB2, hc2, hCa2, hOE2, hAs⟩
      case round =>
        clear hB2 hc2 hCa2 hOE2 hAs
        obtain ⟨k, ys, hk, rfl, hyl, hb, hcu, hCw, hO, hAs⟩ := hrel
        go_wp2_with fail
        refine (l01Below_any (n := 4) hcu (by omega) (by omega)).mono ?_
        rintro e w5 ⟨q, rfl, q1, q2, ho5, hc5⟩
        have hs5 := ho5.size
        have hO5 := hO.out ho5 (Nat.le_refl _) hBC2 hCw
        have hb5 := hb.trans (ho5.below (B := w.heap.size) (by omega) (by omega))
        have hAs5 := hAs.same (ho5.same hCw (.inr (Nat.le_refl _)))
        clear hAs
        clear hO hb hcu
        by_cases hlt : (k : Int) < q
        · go_wp2_with fail
          refine (l01Below_any (n := 3) hc5 (by omega) (by omega)).mono ?_
          rintro e w4 ⟨y, rfl, y1, y2, ho4, hc4⟩
          have hs4 := ho4.size
          have hO4 := hO5.out ho4 (Nat.le_refl _) hBC2 (by omega)
          have hb4 := hb5.trans (ho4.below (B := w.heap.size) (by omega) (by omega))
          have hAs4 := hAs5.same (ho4.same (by omega) (.inr (Nat.le_refl _)))
          clear hAs5
          clear hO5 hb5 hc5
          go_wp2_with (at_builtin; refine wp_app1e (F := intF) (P := Try.prog) (y := y) rfl (.tmp 30) (.tmp 33) 32 rfl Try.underlying32 hi0 hz0 hz1 hz2 rfl (by decide) rfl (hO4.keep (w' := w4.alloc _) ((Below.refl _ _).alloc (Nat.le_refl _) _) (by omega)) w4.heap.size rfl (heap_alloc_new _ _) rfl (by omega) (by omega) (by simp; omega) ?_; intro v' w' hO' hb')
          have hbs : Below C2 w4 w' := ((Below.refl C2 w4).alloc (by omega) _).trans hb'
          have hsw := hbs.size
          go_roundw
          case rel => exact ⟨k + 1, ys ++ [y], by omega, by go_num, by simp; omega, hb4.trans (hbs.mono (by omega)), hc4.below hbs (by omega), by omega, hO', hAs4.below hbs (Nat.le_refl _)⟩
          case measure => simp [intOf]; omega
        · have hBo := hO5.own hBC2 (by omega)
          obtain ⟨ba, bc, rfl, -, -, -⟩ := hBo.form
          replace hyl : Hid (ys.length = k) := hyl
          clear hO5
          go_wp2_with fail
          clear hlt
          refine (l01Once_any (n := 4) hc5 (by omega) (by omega)).mono ?_
          rintro e w6 ⟨t, rfl, ho6, hc6⟩
          have hA6 := (hAs5.same (ho6.same (by omega) (.inr (Nat.le_refl _)))).wide (Nat.le_refl _) (show C2 ≤ w6.heap.size by have := ho6.size; omega)
          have hB6 := (hBo.same (ho6.same (Nat.le_refl _) (.inr (Nat.le_refl _)))).wide (Nat.le_refl _) ho6.size
          have hb6 := hb5.trans (ho6.below (B := w.heap.size) (by omega) (by have := hb5.size; omega))
          have hs6 := hb6.size
          clear hAs5 hBo hb5 ho6 hc5 hc6
          cases t with
          | false =>
            go_wp2
            refine bodyPost_ret (v := .tuple #[.slice aa al.length ac, .slice ba ys.length bc]) (by simp [results, Try.results35, go_sem]) rfl ?_
            exact ⟨al, ys, aa, ac, ba, bc, rfl, hA6.rd.wide (by omega) (Nat.le_refl _), hB6.rd.wide (by omega) (Nat.le_refl _), hb6⟩
          | true =>
            go_wp2_with (at_builtin; refine wp_appAll (F := intF) (P := Try.prog) (xs := []) (ys := al) (lo' := g + 1) (hi' := w6.heap.size) rfl (.tmp 38) (.tmp 39) 32 rfl Try.underlying32 hi0 hz0 hz1 hz2 rfl (by decide) rfl (Own.empty intF 3 w6.heap.size w6 (Nat.le_refl _)) rfl (hA6.rd.below ((Below.refl _ _).alloc (Nat.le_refl _) _) (Nat.le_refl _)) (by simp; omega) (by simp; omega) (by simp) ?_; intro v9 w9 hO9 hb9)
            rw [List.nil_append] at hO9
            obtain ⟨a9, c9, rfl, -, -, -⟩ := hO9.form
            have hbs : Below w6.heap.size w6 w9 := ((Below.refl _ _).alloc (Nat.le_refl _) _).trans hb9
            have hs9 := hbs.size
            go_wp2
            refine bodyPost_ret (v := .tuple #[.slice aa al.length ac, .slice a9 al.length c9]) (by simp [results, Try.results35, go_sem]) rfl ?_
            exact ⟨al, al, aa, ac, a9, c9, rfl, (hA6.rd.below hbs (Nat.le_refl _)).wide (by omega) (by omega), hO9.rd.wide (by omega) (Nat.le_refl _), hb6.trans (hbs.mono (by omega))⟩
end Go.Proofs.Ytllpgomloblfjaa
