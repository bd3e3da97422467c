/- A right piece and right values, drawn. -/
import Derived.Test.YtllpgomloblfjaaDrawV
namespace Go.Proofs.Ytllpgomloblfjaa
open Go.RowKit
set_option maxHeartbeats 2000000 in
set_option maxRecDepth 100000 in
theorem drawValues_any {lo hi : Nat} {xs : List Int} {w : World} {v : Value} (hr : Rd bytS lo hi w v xs) (hh : hi ≤ w.heap.size) (hx : ∀ x ∈ xs, U8 x) (hl : xs.length ≤ 1048576) :
    Calls Try.prog 22 #[v] w fun e w' => ∃ (x : Piece) (vs : List Int) (ra : Option Addr) (rc : Nat) (ca : Option Addr) (cc : Nat) (sa : Option Addr) (sc : Nat) (ta : Option Addr) (tc : Nat) (va : Option Addr) (vc : Nat), e = .returned (.tuple #[x.v ra rc ca cc sa sc ta tc, .slice va vs.length vc]) ∧ pieceOk x = true ∧ Sized' x ∧ 1 ≤ x.rules.length ∧ x.chunks.length ≤ 9 ∧ FullV x vs ∧ PFour x ra rc ca cc sa sc ta tc w.heap.size w'.heap.size w' ∧ Rd intF.shape w.heap.size w'.heap.size w' (.slice va vs.length vc) vs ∧ Below w.heap.size w w' := by
  obtain ⟨i0, hi0, hz0, hz1, hz2⟩ := info_parts Try.infoIntQ
  go_enter Try.func22, Try.ntmps22
  go_upto_region 1 with fail
  have hR := heap_alloc_new w (.cells #[.int .i64 0, .slice none 0 0, .slice none 0 0, .slice none 0 0, .slice none 0 0] 29)
  have hb0 : Below w.heap.size w (w.alloc (.cells #[.int .i64 0, .slice none 0 0, .slice none 0 0, .slice none 0 0, .slice none 0 0] 29)) := (Below.refl _ _).alloc (Nat.le_refl _) _
  have hs0 : (w.alloc (.cells #[.int .i64 0, .slice none 0 0, .slice none 0 0, .slice none 0 0, .slice none 0 0] 29)).heap.size = w.heap.size + 1 := by simp
  have hr0 := hr.below hb0 hh
  generalize w.alloc (.cells #[.int .i64 0, .slice none 0 0, .slice none 0 0, .slice none 0 0, .slice none 0 0] 29) = w0 at *
  go_wp2_with fail
  refine (l01New_any hr0 (by omega) hx hl).mono ?_
  rintro e w1 ⟨rfl, hb1, hc1, hs1⟩
  have hB1 := hb0.trans (hb1.mono (by omega))
  replace hR := (hb1.block w.heap.size (by omega)).trans hR
  clear hb0 hb1 hr0
  obtain ⟨g, hg⟩ : ∃ g, Hid (g = w0.heap.size) := ⟨_, rfl⟩
  rw [← hg.out] at hs0 hs1 hc1 ⊢
  have hg1 : w.heap.size < g := by omega
  have hg2 : g < w1.heap.size := by omega
  clear hs0 hs1 hg
  go_upto_region 2 with fail
  go_wp2_with fail
  refine (l08Piece_any hc1).mono ?_
  rintro e w2 ⟨x, ra, rc, ca, cc, sa, sc, ta, tc, rfl, hok, hz, r1, r5, c9, hPO, ho2, hc2⟩
  have hP := hPO.rd
  clear hPO
  have hRt := (right_of hok).rule
  have hs2 := ho2.size
  replace hR := (ho2.block w.heap.size (by omega) (by omega)).trans hR
  have hB2 : Below w.heap.size w w2 := hB1.trans (ho2.below (by omega) (by omega))
  clear hB1 ho2 hc1
  unfold Piece.v
  go_upto_region 3 with fail
  have kb : Below w2.heap.size w2 (w2.alloc (.cells #[.int .i64 x.indent, .slice ra x.rules.length rc, .slice ca x.chunks.length cc, .slice sa x.spans.length sc, .slice ta x.ties.length tc] 29)) := (Below.refl _ _).alloc (Nat.le_refl _) _
  have hX0 := heap_alloc_new w2 (.cells #[.int .i64 x.indent, .slice ra x.rules.length rc, .slice ca x.chunks.length cc, .slice sa x.spans.length sc, .slice ta x.ties.length tc] 29)
  have hs3 : (w2.alloc (.cells #[.int .i64 x.indent, .slice ra x.rules.length rc, .slice ca x.chunks.length cc, .slice sa x.spans.length sc, .slice ta x.ties.length tc] 29)).heap.size = w2.heap.size + 1 := by simp
  obtain ⟨P, hPe⟩ : ∃ P, Hid (P = w2.heap.size) := ⟨_, rfl⟩
  have hP1 : P ≤ w2.heap.size := Nat.le_of_eq hPe.out
  have hP2 : w2.heap.size ≤ P := Nat.le_of_eq hPe.out.symm
  rw [← hPe.out] at hX0 ⊢
  have hX1 : PBox x ra rc ca cc sa sc ta tc P (w2.alloc (.cells #[.int .i64 x.indent, .slice ra x.rules.length rc, .slice ca x.chunks.length cc, .slice sa x.spans.length sc, .slice ta x.ties.length tc] 29)) := hX0
  clear hX0
  replace hP := hP.below kb (Nat.le_refl _)
  replace hR := blk kb hR
  have hB3 := hB2.trans (kb.mono (by omega))
  have hc3 := hc2.below kb hc2.lt
  clear hB2 hc2 kb
  have hPw : P < (w2.alloc (.cells #[.int .i64 x.indent, .slice ra x.rules.length rc, .slice ca x.chunks.length cc, .slice sa x.spans.length sc, .slice ta x.ties.length tc] 29)).heap.size := by omega
  have hPw2 : (w2.alloc (.cells #[.int .i64 x.indent, .slice ra x.rules.length rc, .slice ca x.chunks.length cc, .slice sa x.spans.length sc, .slice ta x.ties.length tc] 29)).heap.size ≤ P + 1 := by omega
  obtain ⟨PH, hPH⟩ : ∃ n, Hid (n = w2.heap.size) := ⟨_, rfl⟩
  have hPH1 : PH ≤ w2.heap.size := Nat.le_of_eq hPH.out
  have hPH2 : w2.heap.size ≤ PH := Nat.le_of_eq hPH.out.symm
  rw [← hPH.out] at hP
  have hL1 : w1.heap.size ≤ PH := by omega
  clear hs3
  generalize w2.alloc (.cells #[.int .i64 x.indent, .slice ra x.rules.length rc, .slice ca x.chunks.length cc, .slice sa x.spans.length sc, .slice ta x.ties.length tc] 29) = w3 at *
  go_upto_region 4 with fail
  have kb : Below w3.heap.size w3 (w3.alloc (.cells #[] 3)) := (Below.refl _ _).alloc (Nat.le_refl _) _
  have hE := Own.empty intF 3 w3.heap.size w3 (Nat.le_refl _)
  have hs4 : (w3.alloc (.cells #[] 3)).heap.size = w3.heap.size + 1 := by simp
  replace hP := hP.below kb (by omega)
  replace hR := blk kb hR
  have hB4 := hB3.trans (kb.mono (by omega))
  have hc4 := hc3.below kb hc3.lt
  have hX2 := blk kb hX1
  clear hB3 hc3 kb hX1
  obtain ⟨C, HC⟩ : ∃ C, Hid (C = (w3.alloc (.cells #[] 3)).heap.size) := ⟨_, rfl⟩
  have hC1 : C ≤ (w3.alloc (.cells #[] 3)).heap.size := Nat.le_of_eq HC.out
  have hC2 : (w3.alloc (.cells #[] 3)).heap.size ≤ C := Nat.le_of_eq HC.out.symm
  have hOE : OutE intF 3 (P + 1) C (w3.alloc (.cells #[] 3)) (.slice (some ⟨w3.heap.size, 0, none⟩) 0 0) [] := .inr ⟨rfl, ⟨_, rfl⟩, hE.wide (by omega) hC2⟩
  have hBC : P + 1 ≤ C := by omega
  clear hE
  generalize w3.alloc (.cells #[] 3) = w4 at *
  go_wp2
  go_loopw [6, 7] (fun out i wr => ∃ (k : Nat) (ys : List Int), k ≤ x.rules.length ∧ i = .int .i64 k ∧ ys.length = k ∧ Hid (∀ j (h : j < x.rules.length), j < k → 0 ≤ ys.getD j 0 ∧ ys.getD j 0 < x.rules[j].values) ∧ Below w.heap.size w wr ∧ Cur g lo hi xs wr ∧ C ≤ wr.heap.size ∧ OutE intF 3 (P + 1) C wr out ys ∧ PBox x ra rc ca cc sa sc ta tc P wr ∧ PFour x ra rc ca cc sa sc ta tc w1.heap.size PH wr ∧ wr.heap[w.heap.size]? = some (.cells #[.int .i64 0, .slice none 0 0, .slice none 0 0, .slice none 0 0, .slice none 0 0] 29)) (fun _ i _ => x.rules.length - (intOf i).toNat)
  case atStart => exact ⟨0, [], Nat.zero_le _, rfl, rfl, (by intro j h hj; exact absurd hj (Nat.not_lt_zero _)), hB4, hc4, hC1, hOE, hX2, hP, hR⟩
  case round =>
    clear hB4 hc4 hOE hX2 hP hR
    obtain ⟨k, ys, hk, rfl, hyl, HV, hB, hcu, hCw, hO, hX, hP, hR⟩ := hrel
    obtain ⟨p0, p1, p2, p3, p4⟩ := hX.five
    by_cases hlt : k < x.rules.length
    · have hki : (k : Int) < x.rules.length := by omega
      obtain ⟨b, off, rfl, hlo, hhi, c0, -⟩ := (at_rule hP.r).2 k hlt
      obtain ⟨m1, m2, -, -⟩ := hRt k hlt
      have hmv : Hid (∀ z : Int, z < x.rules[k].values → z < x.rules[k].values) := fun _ h => h
      generalize hm : x.rules[k].values = m at m1 m2 c0 ⊢
      go_wp2_with fail
      refine (l01Below_any hcu (by omega) (by omega)).mono ?_
      rintro e w5 ⟨q, rfl, q1, q2, ho4, hc4⟩
      have hs5 := ho4.size
      have hO4 := hO.out ho4 (by omega) (by omega) hCw
      have hX4 := (ho4.block P hX.lt (by omega)).trans hX
      have hP4 := hP.same (ho4.same (by omega) (.inr (by omega)))
      have hR4 := (ho4.block w.heap.size (by omega) (by omega)).trans hR
      have hB5 := hB.trans (ho4.below (B := w.heap.size) (by omega) (by omega))
      go_wp2_with (at_builtin; refine wp_app1e (F := intF) (P := Try.prog) (y := q) rfl (.tmp 20) (.tmp 29) 32 rfl Try.underlying32 hi0 hz0 hz1 hz2 rfl (by decide) rfl (hO4.keep (w' := w5.alloc _) ((Below.refl _ _).alloc (Nat.le_refl _) _) (by omega)) w5.heap.size rfl (heap_alloc_new _ _) rfl (by omega) (by omega) (by simp; omega) ?_; intro v' w' hO' hb')
      have hbs : Below C w5 w' := ((Below.refl C w5).alloc (by omega) _).trans hb'
      have hsw := hbs.size
      have hV2 : Hid (∀ j (h : j < x.rules.length), j < k + 1 → 0 ≤ (ys ++ [q]).getD j 0 ∧ (ys ++ [q]).getD j 0 < x.rules[j].values) := by
        intro j h hj
        by_cases hjk : j < k
        · have h1 := HV.out j h hjk
          rwa [List.getD_eq_getElem?_getD, List.getElem?_append_left (by omega), ← List.getD_eq_getElem?_getD]
        · obtain rfl : j = k := by omega
          rw [List.getD_eq_getElem?_getD, List.getElem?_append_right (by omega), hyl, Nat.sub_self, hm]
          exact ⟨q1, q2⟩
      clear hm HV hmv
      go_roundw
      case rel => exact ⟨k + 1, ys ++ [q], by omega, by go_num, by simp; omega, hV2, hB5.trans (hbs.mono (by omega)), hc4.below hbs (by omega), by omega, hO', (hbs.block P (by omega)).trans hX4, hP4.below hbs (by omega), (hbs.block w.heap.size (by omega)).trans hR4⟩
      case measure => simp [intOf]; omega
    · have hki : ¬ (k : Int) < x.rules.length := by omega
      obtain rfl : k = x.rules.length := by omega
      have hw0 := hO.own hBC hCw
      obtain ⟨va, vc, rfl, -, -, -⟩ := hw0.form
      have hF : FullV x ys := ⟨hyl, fun i h => HV.out i h h⟩
      have z0 := cell_heap (j := 0) hR rfl
      have z1 := cell_heap (j := 1) hR rfl
      have z2 := cell_heap (j := 2) hR rfl
      have z3 := cell_heap (j := 3) hR rfl
      have z4 := cell_heap (j := 4) hR rfl
      have f0 := frozen_heap (j := 0) hR
      have f1 := frozen_heap (j := 1) hR
      have f2 := frozen_heap (j := 2) hR
      have f3 := frozen_heap (j := 3) hR
      have f4 := frozen_heap (j := 4) hR
      go_wp2
      change bodyPost _ _ _ _ _ (storeAll w.heap.size [.int .i64 x.indent, .slice ra x.rules.length rc, .slice ca x.chunks.length cc, .slice sa x.spans.length sc, .slice ta x.ties.length tc] 0 wr)
      clear p0 p1 p2 p3 p4 z0 z1 z2 z3 z4 f0 f1 f2 f3 f4
      obtain ⟨q0, q1, q2, q3, q4⟩ := stored5 hR [.int .i64 x.indent, .slice ra x.rules.length rc, .slice ca x.chunks.length cc, .slice sa x.spans.length sc, .slice ta x.ties.length tc] rfl
      have hBe : Below w.heap.size wr (storeAll w.heap.size [.int .i64 x.indent, .slice ra x.rules.length rc, .slice ca x.chunks.length cc, .slice sa x.spans.length sc, .slice ta x.ties.length tc] 0 wr) := blw_storeAll (Below.refl _ _) (Nat.le_refl _) _ _
      have hSa : ∀ lo hi : Nat, (w.heap.size < lo ∨ hi ≤ w.heap.size) → Same lo hi wr (storeAll w.heap.size [.int .i64 x.indent, .slice ra x.rules.length rc, .slice ca x.chunks.length cc, .slice sa x.spans.length sc, .slice ta x.ties.length tc] 0 wr) := fun lo hi h => same_storeAllP h _ 0 _
      have hse := hBe.size
      generalize storeAll w.heap.size [.int .i64 x.indent, .slice ra x.rules.length rc, .slice ca x.chunks.length cc, .slice sa x.spans.length sc, .slice ta x.ties.length tc] 0 wr = wf at *
      refine bodyPost_ret (v := .tuple #[.agg #[.int .i64 x.indent, .slice ra x.rules.length rc, .slice ca x.chunks.length cc, .slice sa x.spans.length sc, .slice ta x.ties.length tc], .slice va ys.length vc]) (by simp [results, Try.results22, go_sem, q0, q1, q2, q3, q4, hyl]) rfl ?_
      exact ⟨x, ys, ra, rc, ca, cc, sa, sc, ta, tc, va, vc, rfl, hok, hz, r1, c9, hF, (hP.same (hSa w1.heap.size PH (.inl (by omega)))).wide (by omega) (by omega), (hw0.rd.same (hSa (P + 1) wr.heap.size (.inl (by omega)))).wide (by omega) (by omega), hB.trans hBe⟩
end Go.Proofs.Ytllpgomloblfjaa
