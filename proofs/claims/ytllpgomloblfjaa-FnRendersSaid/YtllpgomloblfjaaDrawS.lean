/- More draws: a right piece, a width, what is searched; how many values there are; lists of integers that are alike. -/
import Derived.Test.YtllpgomloblfjaaDrawB
import Derived.Test.YtllpgomloblfjaaApp
import Derived.Test.YtllpgomloblfjaaDrawK
import Derived.Test.YtllpgomloblfjaaBestP
namespace Go.Proofs.Ytllpgomloblfjaa
open Go.RowKit

theorem Try.infoIntQ : (Try.prog.info? 3).map (fun i => (i.zero, i.size, i.bytes)) = some (some (.int .i64 0), 1, 8) := by kernel_rfl
set_option maxHeartbeats 1000000 in
set_option maxRecDepth 100000 in
/-- what is drawn below a number above 256 -/
theorem l01Below_big {g lo hi : Nat} {xs : List Int} {w : World} {n : Int} (hc : Cur g lo hi xs w) (h1 : 256 < n) (h2 : n ≤ 1048576) :
    Calls Try.prog 62 #[.pointer (some ⟨g, 0, none⟩), .int .i64 n] w fun e w' => ∃ x : Int, e = .returned (.int .i64 x) ∧ 0 ≤ x ∧ x < n ∧ Out g (g + 1) w w' ∧ Cur g lo hi xs w' := by
  have hn0 : ¬ n ≤ 0 := by omega
  have hn1 : ¬ n ≤ 256 := by omega
  go_enter Try.func62, Try.ntmps62
  go_wp2_with fail
  refine (l01Byte_any hc).mono ?_
  rintro e w1 ⟨x1, rfl, ⟨a1, a2⟩, ho1, hc1⟩
  go_wp2_with fail
  refine (l01Byte_any hc1).mono ?_
  rintro e w2 ⟨x2, rfl, ⟨b1, b2⟩, ho2, hc2⟩
  go_wp2_with fail
  refine (l01Byte_any hc2).mono ?_
  rintro e w3 ⟨x3, rfl, ⟨c1, c2⟩, ho3, hc3⟩
  go_wp2_with fail
  refine (l01Byte_any hc3).mono ?_
  rintro e w4 ⟨x4, rfl, ⟨d1, d2⟩, ho4, hc4⟩
  have m1 := Int.emod_nonneg (x1 * 16777216 + x2 * 65536 + x3 * 256 + x4) (show n ≠ 0 by omega)
  have m2 := Int.emod_lt_of_pos (x1 * 16777216 + x2 * 65536 + x3 * 256 + x4) (show 0 < n by omega)
  go_wp2
  go_ret
  exact ⟨_, rfl, m1, m2, ((ho1.trans ho2).trans ho3).trans ho4, hc4⟩
theorem big_any {lo hi : Nat} {xs : List Int} {w : World} {v : Value} (hr : Rd bytS lo hi w v xs) :
    Calls Try.prog 8 #[v] w fun e w' => e = .returned (.bool (decide (1048576 < xs.length))) ∧ w = w' := by
  have hl := hr.len_le
  obtain ⟨a, c, rfl, _⟩ := hr
  go_enter Try.func8, Try.ntmps8
  go_wp2
  go_ret
  exact ⟨ret_bool (by simp; omega), rfl⟩
set_option maxHeartbeats 1000000 in
set_option maxRecDepth 100000 in
theorem drawPlaces_any {lo hi : Nat} {xs : List Int} {w : World} {v : Value} (hr : Rd bytS lo hi w v xs) (hh : hi ≤ w.heap.size) (hx : ∀ x ∈ xs, U8 x) (hl : xs.length ≤ 1048576) :
    Calls Try.prog 14 #[v] w fun e w' => ∃ r ps, e = .returned r ∧ ps.length = 12 ∧ (∀ p ∈ ps, 0 ≤ p ∧ p < 10000) ∧ Own intF 3 w.heap.size w'.heap.size w' r ps ∧ Below w.heap.size w w' := by
  obtain ⟨i0, hi0, hz0, hz1, hz2⟩ := info_parts Try.infoIntQ
  obtain ⟨B, HB⟩ : ∃ B, Hid (B = w.heap.size) := ⟨_, rfl⟩
  have hB1 : B ≤ w.heap.size := Nat.le_of_eq HB.out
  have hB2 : w.heap.size ≤ B := Nat.le_of_eq HB.out.symm
  go_enter Try.func14, Try.ntmps14
  go_wp2_with fail
  refine (l01New_any hr hh hx hl).mono ?_
  rintro e w1 ⟨rfl, hb1, hc1, hs1⟩
  go_wp2_with fail
  refine (l01Byte_any hc1).mono ?_
  rintro e w2 ⟨x0, rfl, _, ho2, hc2⟩
  have hs2 := ho2.size
  have hgl := hc2.lt
  have hb2 := blw_out hb1 ho2 (Nat.le_refl _) (by omega)
  go_wp2
  have hb0 : Below w2.heap.size w2 (w2.alloc (.cells #[] 3)) := (Below.refl _ _).alloc (Nat.le_refl _) _
  have hc0 := hc2.below hb0 hgl
  have hb3 : Below B w (w2.alloc (.cells #[] 3)) := (hb2.mono hB1).trans (hb0.mono (by omega))
  have hE0 := Own.empty intF 3 (w.heap.size + 1) w2 (by omega)
  obtain ⟨C, HC⟩ : ∃ C, Hid (C = (w2.alloc (.cells #[] 3)).heap.size) := ⟨_, rfl⟩
  have hC1 : C ≤ (w2.alloc (.cells #[] 3)).heap.size := Nat.le_of_eq HC.out
  have hC2 : (w2.alloc (.cells #[] 3)).heap.size ≤ C := Nat.le_of_eq HC.out.symm
  have hOE : OutE intF 3 (w.heap.size + 1) C (w2.alloc (.cells #[] 3)) (.slice (some ⟨w2.heap.size, 0, none⟩) 0 0) [] := .inr ⟨rfl, ⟨_, rfl⟩, hE0.wide (Nat.le_refl _) hC2⟩
  have hBC : w.heap.size + 1 ≤ C := by have := hb0.size; omega
  clear hE0 hb0
  generalize w2.alloc (.cells #[] 3) = w3 at *
  generalize hg : w.heap.size = g at *
  go_loopw [4, 5] (fun out i wr => ∃ (k : Nat) (ys : List Int), k ≤ 12 ∧ i = .int .i64 k ∧ ys.length = k ∧ Hid (∀ s ∈ ys, 0 ≤ s ∧ s < 10000) ∧ Below B w wr ∧ Cur g lo hi xs wr ∧ C ≤ wr.heap.size ∧ OutE intF 3 (g + 1) C wr out ys) (fun _ i _ => 12 - (intOf i).toNat)
  case atStart => exact ⟨0, [], Nat.zero_le _, rfl, rfl, (by intro s hs; cases hs), hb3, hc0, hC1, hOE⟩
  case round =>
    obtain ⟨k, ys, hk, rfl, hyl, HS, hb, hcu, hCw, hO⟩ := hrel
    by_cases hlt : k < 12
    · have hki : (k : Int) < 12 := by omega
      go_wp2_with fail
      refine (l01Below_big hcu (by omega) (by omega)).mono ?_
      rintro e w4 ⟨x, rfl, x1, x2, ho4, hc4⟩
      have hO4 := hO.out ho4 (Nat.le_refl _) hBC hCw
      have hs4 := ho4.size
      have hb4 : Below B w w4 := blw_out hb ho4 (by omega) (by omega)
      go_wp2_with (at_builtin; refine wp_app1e (F := intF) (P := Try.prog) (y := x) rfl (.tmp 15) (.tmp 18) 32 rfl Try.underlying32 hi0 hz0 hz1 hz2 rfl (by decide) rfl (hO4.keep (w' := w4.alloc _) ((Below.refl _ _).alloc (Nat.le_refl _) _) (by omega)) w4.heap.size rfl (heap_alloc_new _ _) rfl (by omega) (by omega) (by simp; omega) ?_; intro v' w' hO' hb')
      have hbs : Below C w4 w' := ((Below.refl C w4).alloc (by omega) _).trans hb'
      have hsw := hbs.size
      go_roundw
      case rel => exact ⟨k + 1, ys ++ [x], by omega, by go_num, by simp; omega, (by intro t ht; rcases List.mem_append.1 ht with h | h; exact HS.out t h; obtain rfl := List.mem_singleton.1 h; exact ⟨x1, x2⟩), hb4.trans (hbs.mono (by omega)), hc4.below hbs (by omega), by omega, hO'⟩
      case measure => simp [intOf]; omega
    · have hki : ¬ (k : Int) < 12 := by omega
      obtain rfl : k = 12 := by omega
      go_wp2
      go_ret
      have hown := hO.own hBC (by omega)
      subst hg
      have e := HB.out
      subst e
      have hw := hown.wide (lo' := w.heap.size) (by omega) (Nat.le_refl _)
      first
        | exact ⟨_, ys, rfl, hyl, HS.out, hw, hb⟩
        | exact ⟨_, rfl, ys, hyl, HS.out, hw, hb⟩
end Go.Proofs.Ytllpgomloblfjaa
namespace Go.Proofs.Ytllpgomloblfjaa
open Go.RowKit

set_option maxHeartbeats 1000000 in
set_option maxRecDepth 100000 in
theorem drawWidth_any {lo hi : Nat} {xs : List Int} {w : World} {v : Value} (hr : Rd bytS lo hi w v xs) (hh : hi ≤ w.heap.size) (hx : ∀ x ∈ xs, U8 x) (hl : xs.length ≤ 1048576) :
    Calls Try.prog 10 #[v] w fun e w' => ∃ n : Int, e = .returned (.int .i64 n) ∧ n ∈ [(10 : Int), 20, 30, 40, 60, 80] ∧ Below w.heap.size w w' := by
  go_enter Try.func10, Try.ntmps10
  go_wp2_with fail
  refine (l01New_any hr hh hx hl).mono ?_
  rintro e w1 ⟨rfl, hB1, hc1, hs1⟩
  obtain ⟨g, hg⟩ : ∃ g, Hid (g = w.heap.size) := ⟨_, rfl⟩
  rw [← hg.out] at hc1 hs1 ⊢
  have hg1 : w.heap.size ≤ g := Nat.le_of_eq hg.out.symm
  have hg2 : g < w1.heap.size := by omega
  clear hs1
  go_upto_region 2 with fail
  have hrl := rd_lit intF w1 [10, 20, 30, 40, 60, 80] #[.int .i64 10, .int .i64 20, .int .i64 30, .int .i64 40, .int .i64 60, .int .i64 80] 3 rfl (by decide)
  have hbl : Below w1.heap.size w1 (w1.alloc (.cells #[.int .i64 10, .int .i64 20, .int .i64 30, .int .i64 40, .int .i64 60, .int .i64 80] 3)) := (Below.refl _ _).alloc (Nat.le_refl _) _
  have hcl := hc1.below hbl (by omega)
  have hsl : w1.heap.size < (w1.alloc (.cells #[.int .i64 10, .int .i64 20, .int .i64 30, .int .i64 40, .int .i64 60, .int .i64 80] 3)).heap.size := by simp
  have hBl := hB1.trans (hbl.mono (by omega))
  skip
  go_wp2_with fail
  generalize w1.alloc (.cells #[.int .i64 10, .int .i64 20, .int .i64 30, .int .i64 40, .int .i64 60, .int .i64 80] 3) = wl1 at *
  refine (l01PickInt_any hcl hrl (by omega) (.inr (by omega)) (by decide) (by decide)).mono ?_
  rintro e w2 ⟨n, rfl, hn1, ho1, hc2⟩
  have hsz1 := ho1.size
  have hB2 : Below w.heap.size w w2 := hBl.trans (ho1.below (by omega) (by omega))
  skip
  clear hrl hbl hcl hBl ho1 hc1 hB1
  go_wp2
  go_ret
  rw [hg.out]
  exact ⟨n, rfl, hn1, hB2⟩
set_option maxHeartbeats 1000000 in
set_option maxRecDepth 100000 in
theorem drawPiece_any {lo hi : Nat} {xs : List Int} {w : World} {v : Value} (hr : Rd bytS lo hi w v xs) (hh : hi ≤ w.heap.size) (hx : ∀ x ∈ xs, U8 x) (hl : xs.length ≤ 1048576) :
    Calls Try.prog 9 #[v] w fun e w' => ∃ (x : Piece) (ra : Option Addr) (rc : Nat) (ca : Option Addr) (cc : Nat) (sa : Option Addr) (sc : Nat) (ta : Option Addr) (tc : Nat), e = .returned (x.v ra rc ca cc sa sc ta tc) ∧ pieceOk x = true ∧ Sized' x ∧ 1 ≤ x.rules.length ∧ x.chunks.length ≤ 9 ∧ PFour x ra rc ca cc sa sc ta tc w.heap.size w'.heap.size w' ∧ Below w.heap.size w w' := by
  go_enter Try.func9, Try.ntmps9
  go_upto_region 1 with fail
  have hR := heap_alloc_new w (.cells #[.int .i64 0, .slice none 0 0, .slice none 0 0, .slice none 0 0, .slice none 0 0] 29)
  have hb0 : Below w.heap.size w (w.alloc (.cells #[.int .i64 0, .slice none 0 0, .slice none 0 0, .slice none 0 0, .slice none 0 0] 29)) := (Below.refl _ _).alloc (Nat.le_refl _) _
  have hs0 : (w.alloc (.cells #[.int .i64 0, .slice none 0 0, .slice none 0 0, .slice none 0 0, .slice none 0 0] 29)).heap.size = w.heap.size + 1 := by simp
  have hr0 := hr.below hb0 hh
  generalize w.alloc (.cells #[.int .i64 0, .slice none 0 0, .slice none 0 0, .slice none 0 0, .slice none 0 0] 29) = w0 at *
  go_wp2_with fail
  refine (l01New_any hr0 (by omega) hx hl).mono ?_
  rintro e w1 ⟨rfl, hb1, hc1, hs1⟩
  have hB1 := hb0.trans (hb1.mono (by omega))
  replace hR := (hb1.block w.heap.size (by omega)).trans hR
  clear hb0 hb1 hr0
  obtain ⟨g, hg⟩ : ∃ g, Hid (g = w0.heap.size) := ⟨_, rfl⟩
  rw [← hg.out] at hs0 hs1 hc1 ⊢
  have hg1 : w.heap.size < g := by omega
  have hg2 : g < w1.heap.size := by omega
  clear hs0 hs1 hg
  go_wp2_with fail
  refine (l08Piece_any hc1).mono ?_
  rintro e wr ⟨x, ra, rc, ca, cc, sa, sc, ta, tc, rfl, hok, hz, r1, r5, c9, hPO, ho2, hc2⟩
  have hs2 := ho2.size
  replace hR := (ho2.block w.heap.size (by omega) (by omega)).trans hR
  have hB2 : Below w.heap.size w wr := hB1.trans (ho2.below (by omega) (by omega))
  have hP := hPO.rd
  unfold Piece.v
  have p0 := 0
  have p1 := 0
  have p2 := 0
  have p3 := 0
  have p4 := 0
  have z0 := cell_heap (j := 0) hR rfl
  have z1 := cell_heap (j := 1) hR rfl
  have z2 := cell_heap (j := 2) hR rfl
  have z3 := cell_heap (j := 3) hR rfl
  have z4 := cell_heap (j := 4) hR rfl
  have f0 := frozen_heap (j := 0) hR
  have f1 := frozen_heap (j := 1) hR
  have f2 := frozen_heap (j := 2) hR
  have f3 := frozen_heap (j := 3) hR
  have f4 := frozen_heap (j := 4) hR
  go_wp2
  change bodyPost _ _ _ _ _ (storeAll w.heap.size [.int .i64 x.indent, .slice ra x.rules.length rc, .slice ca x.chunks.length cc, .slice sa x.spans.length sc, .slice ta x.ties.length tc] 0 wr)
  clear p0 p1 p2 p3 p4 z0 z1 z2 z3 z4 f0 f1 f2 f3 f4
  obtain ⟨q0, q1, q2, q3, q4⟩ := stored5 hR [.int .i64 x.indent, .slice ra x.rules.length rc, .slice ca x.chunks.length cc, .slice sa x.spans.length sc, .slice ta x.ties.length tc] rfl
  have hBe : Below w.heap.size wr (storeAll w.heap.size [.int .i64 x.indent, .slice ra x.rules.length rc, .slice ca x.chunks.length cc, .slice sa x.spans.length sc, .slice ta x.ties.length tc] 0 wr) := blw_storeAll (Below.refl _ _) (Nat.le_refl _) _ _
  have hSa : ∀ lo hi : Nat, (w.heap.size < lo ∨ hi ≤ w.heap.size) → Same lo hi wr (storeAll w.heap.size [.int .i64 x.indent, .slice ra x.rules.length rc, .slice ca x.chunks.length cc, .slice sa x.spans.length sc, .slice ta x.ties.length tc] 0 wr) := fun lo hi h => same_storeAllP h _ 0 _
  have hse := hBe.size
  generalize storeAll w.heap.size [.int .i64 x.indent, .slice ra x.rules.length rc, .slice ca x.chunks.length cc, .slice sa x.spans.length sc, .slice ta x.ties.length tc] 0 wr = wf at *
  refine bodyPost_ret (v := .agg #[.int .i64 x.indent, .slice ra x.rules.length rc, .slice ca x.chunks.length cc, .slice sa x.spans.length sc, .slice ta x.ties.length tc]) (by simp [results, Try.results9, go_sem, q0, q1, q2, q3, q4]) rfl ?_
  exact ⟨x, ra, rc, ca, cc, sa, sc, ta, tc, rfl, hok, hz, r1, c9, (hP.same (hSa _ _ (.inl (by omega)))).wide (by omega) (by omega), hB2.trans hBe⟩
set_option maxHeartbeats 1000000 in
set_option maxRecDepth 100000 in
theorem drawSearch_any {lo hi : Nat} {xs : List Int} {w : World} {v : Value} (hr : Rd bytS lo hi w v xs) (hh : hi ≤ w.heap.size) (hx : ∀ x ∈ xs, U8 x) (hl : xs.length ≤ 1048576) :
    Calls Try.prog 17 #[v] w fun e w' => ∃ (x : Piece) (n m : Int) (ra : Option Addr) (rc : Nat) (ca : Option Addr) (cc : Nat) (sa : Option Addr) (sc : Nat) (ta : Option Addr) (tc : Nat), e = .returned (.tuple #[x.v ra rc ca cc sa sc ta tc, .int .i64 n, .int .i64 m]) ∧ AnyP x ∧ PFour x ra rc ca cc sa sc ta tc w.heap.size w'.heap.size w' ∧ Below w.heap.size w w' := by
  go_enter Try.func17, Try.ntmps17
  go_upto_region 1 with fail
  have hR := heap_alloc_new w (.cells #[.int .i64 0, .slice none 0 0, .slice none 0 0, .slice none 0 0, .slice none 0 0] 29)
  have hb0 : Below w.heap.size w (w.alloc (.cells #[.int .i64 0, .slice none 0 0, .slice none 0 0, .slice none 0 0, .slice none 0 0] 29)) := (Below.refl _ _).alloc (Nat.le_refl _) _
  have hs0 : (w.alloc (.cells #[.int .i64 0, .slice none 0 0, .slice none 0 0, .slice none 0 0, .slice none 0 0] 29)).heap.size = w.heap.size + 1 := by simp
  have hr0 := hr.below hb0 hh
  generalize w.alloc (.cells #[.int .i64 0, .slice none 0 0, .slice none 0 0, .slice none 0 0, .slice none 0 0] 29) = w0 at *
  go_wp2_with fail
  refine (l01New_any hr0 (by omega) hx hl).mono ?_
  rintro e w1 ⟨rfl, hb1, hc1, hs1⟩
  have hB1 := hb0.trans (hb1.mono (by omega))
  replace hR := (hb1.block w.heap.size (by omega)).trans hR
  clear hb0 hb1 hr0
  obtain ⟨g, hg⟩ : ∃ g, Hid (g = w0.heap.size) := ⟨_, rfl⟩
  rw [← hg.out] at hs0 hs1 hc1 ⊢
  have hg1 : w.heap.size < g := by omega
  have hg2 : g < w1.heap.size := by omega
  clear hs0 hs1 hg
  go_upto_region 2 with fail
  have hrl := rd_lit intF w1 [10, 20, 30, 60, -1] #[.int .i64 10, .int .i64 20, .int .i64 30, .int .i64 60, .int .i64 (-1)] 3 rfl (by decide)
  have hbl : Below w1.heap.size w1 (w1.alloc (.cells #[.int .i64 10, .int .i64 20, .int .i64 30, .int .i64 60, .int .i64 (-1)] 3)) := (Below.refl _ _).alloc (Nat.le_refl _) _
  have hcl := hc1.below hbl (by omega)
  have hsl : w1.heap.size < (w1.alloc (.cells #[.int .i64 10, .int .i64 20, .int .i64 30, .int .i64 60, .int .i64 (-1)] 3)).heap.size := by simp
  have hBl := hB1.trans (hbl.mono (by omega))
  replace hR := blk hbl hR
  go_wp2_with fail
  generalize w1.alloc (.cells #[.int .i64 10, .int .i64 20, .int .i64 30, .int .i64 60, .int .i64 (-1)] 3) = wl1 at *
  refine (l01PickInt_any hcl hrl (by omega) (.inr (by omega)) (by decide) (by decide)).mono ?_
  rintro e w2 ⟨n, rfl, hn1, ho1, hc2⟩
  have hsz1 := ho1.size
  have hB2 : Below w.heap.size w w2 := hBl.trans (ho1.below (by omega) (by omega))
  replace hR := (ho1.block w.heap.size (by omega) (by omega)).trans hR
  clear hrl hbl hcl hBl ho1 hc1 hB1
  go_upto_region 3 with fail
  have hrl := rd_lit intF w2 [10000, 10000, 5, 1, 0, -1] #[.int .i64 10000, .int .i64 10000, .int .i64 5, .int .i64 1, .int .i64 0, .int .i64 (-1)] 3 rfl (by decide)
  have hbl : Below w2.heap.size w2 (w2.alloc (.cells #[.int .i64 10000, .int .i64 10000, .int .i64 5, .int .i64 1, .int .i64 0, .int .i64 (-1)] 3)) := (Below.refl _ _).alloc (Nat.le_refl _) _
  have hcl := hc2.below hbl (by omega)
  have hsl : w2.heap.size < (w2.alloc (.cells #[.int .i64 10000, .int .i64 10000, .int .i64 5, .int .i64 1, .int .i64 0, .int .i64 (-1)] 3)).heap.size := by simp
  have hBl := hB2.trans (hbl.mono (by omega))
  replace hR := blk hbl hR
  go_wp2_with fail
  generalize w2.alloc (.cells #[.int .i64 10000, .int .i64 10000, .int .i64 5, .int .i64 1, .int .i64 0, .int .i64 (-1)] 3) = wl2 at *
  refine (l01PickInt_any hcl hrl (by omega) (.inr (by omega)) (by decide) (by decide)).mono ?_
  rintro e w3 ⟨m, rfl, hn2, ho2, hc3⟩
  have hsz2 := ho2.size
  have hB3 : Below w.heap.size w w3 := hBl.trans (ho2.below (by omega) (by omega))
  replace hR := (ho2.block w.heap.size (by omega) (by omega)).trans hR
  clear hrl hbl hcl hBl ho2 hc2 hB2
  go_upto_region 4 with fail
  go_wp2_with fail
  refine (l08Any_any hc3).mono ?_
  rintro e wr ⟨x, ra, rc, ca, cc, sa, sc, ta, tc, rfl, hA, hP, ho2, hc2⟩
  have hs2 := ho2.size
  replace hR := (ho2.block w.heap.size (by omega) (by omega)).trans hR
  have hB4 : Below w.heap.size w wr := hB3.trans (ho2.below (by omega) (by omega))
  unfold Piece.v
  have p0 := 0
  have p1 := 0
  have p2 := 0
  have p3 := 0
  have p4 := 0
  have z0 := cell_heap (j := 0) hR rfl
  have z1 := cell_heap (j := 1) hR rfl
  have z2 := cell_heap (j := 2) hR rfl
  have z3 := cell_heap (j := 3) hR rfl
  have z4 := cell_heap (j := 4) hR rfl
  have f0 := frozen_heap (j := 0) hR
  have f1 := frozen_heap (j := 1) hR
  have f2 := frozen_heap (j := 2) hR
  have f3 := frozen_heap (j := 3) hR
  have f4 := frozen_heap (j := 4) hR
  go_wp2
  change bodyPost _ _ _ _ _ (storeAll w.heap.size [.int .i64 x.indent, .slice ra x.rules.length rc, .slice ca x.chunks.length cc, .slice sa x.spans.length sc, .slice ta x.ties.length tc] 0 wr)
  clear p0 p1 p2 p3 p4 z0 z1 z2 z3 z4 f0 f1 f2 f3 f4
  obtain ⟨q0, q1, q2, q3, q4⟩ := stored5 hR [.int .i64 x.indent, .slice ra x.rules.length rc, .slice ca x.chunks.length cc, .slice sa x.spans.length sc, .slice ta x.ties.length tc] rfl
  have hBe : Below w.heap.size wr (storeAll w.heap.size [.int .i64 x.indent, .slice ra x.rules.length rc, .slice ca x.chunks.length cc, .slice sa x.spans.length sc, .slice ta x.ties.length tc] 0 wr) := blw_storeAll (Below.refl _ _) (Nat.le_refl _) _ _
  have hSa : ∀ lo hi : Nat, (w.heap.size < lo ∨ hi ≤ w.heap.size) → Same lo hi wr (storeAll w.heap.size [.int .i64 x.indent, .slice ra x.rules.length rc, .slice ca x.chunks.length cc, .slice sa x.spans.length sc, .slice ta x.ties.length tc] 0 wr) := fun lo hi h => same_storeAllP h _ 0 _
  have hse := hBe.size
  generalize storeAll w.heap.size [.int .i64 x.indent, .slice ra x.rules.length rc, .slice ca x.chunks.length cc, .slice sa x.spans.length sc, .slice ta x.ties.length tc] 0 wr = wf at *
  refine bodyPost_ret (v := .tuple #[.agg #[.int .i64 x.indent, .slice ra x.rules.length rc, .slice ca x.chunks.length cc, .slice sa x.spans.length sc, .slice ta x.ties.length tc], .int .i64 n, .int .i64 m]) (by simp [results, Try.results17, go_sem, q0, q1, q2, q3, q4]) rfl ?_
  exact ⟨x, n, m, ra, rc, ca, cc, sa, sc, ta, tc, rfl, hA, (hP.same (hSa _ _ (.inl (by omega)))).wide (by omega) (by omega), hB4.trans hBe⟩
theorem countQ_snoc (rs : List Rule) (r : Rule) : countQ (rs ++ [r]) = countQ rs * r.values.toNat := by
  unfold countQ
  rw [List.foldl_append]; rfl
theorem countQ_le {rs : List Rule} (h : ∀ r ∈ rs, r.values ≤ 3) : countQ rs ≤ 3 ^ rs.length := by
  induction rs with
  | nil => exact Nat.le_refl _
  | cons r rs ih =>
    rw [countQ_cons, List.length_cons, Nat.pow_succ, Nat.mul_comm]
    have h1 := h r (List.mem_cons_self ..)
    exact Nat.mul_le_mul (ih fun q hq => h q (List.mem_cons_of_mem _ hq)) (by omega)
set_option maxHeartbeats 1000000 in
set_option maxRecDepth 100000 in
theorem countOf_spec (x : Piece) (ra ca sa ta : Option Addr) (rc cc sc tc lo hi : Nat) (w : World) (hp : PFour x ra rc ca cc sa sc ta tc lo hi w) (hh : hi ≤ w.heap.size) (hx : Right x) :
    Calls Try.prog 12 #[x.v ra rc ca cc sa sc ta tc] w fun e w' => e = .returned (.int .i64 (countQ x.rules : Int)) ∧ Below w.heap.size w w' := by
  have hr := hp.r
  have hX0 := PBox.new x ra ca sa ta rc cc sc tc w
  unfold Piece.v
  go_enter Try.func12, Try.ntmps12
  go_upto_region 1 with fail
  have hb0 : Below w.heap.size w (w.alloc (.cells #[.int .i64 x.indent, .slice ra x.rules.length rc, .slice ca x.chunks.length cc, .slice sa x.spans.length sc, .slice ta x.ties.length tc] 29)) := (Below.refl _ _).alloc (Nat.le_refl _) _
  have hr0 := hr.below hb0 hh
  have hs0 : hi ≤ (w.alloc (.cells #[.int .i64 x.indent, .slice ra x.rules.length rc, .slice ca x.chunks.length cc, .slice sa x.spans.length sc, .slice ta x.ties.length tc] 29)).heap.size := Nat.le_trans hh hb0.size
  obtain ⟨P, hPe⟩ : ∃ P, Hid (P = w.heap.size) := ⟨_, rfl⟩
  rw [← hPe.out] at hX0 ⊢
  generalize w.alloc (.cells #[.int .i64 x.indent, .slice ra x.rules.length rc, .slice ca x.chunks.length cc, .slice sa x.spans.length sc, .slice ta x.ties.length tc] 29) = w0 at *
  obtain ⟨p0, p1, p2, p3, p4⟩ := hX0.five
  have h8 := hx.rules
  go_wp2
  go_loop [3, 4] (fun n i => ∃ k N : Nat, k ≤ x.rules.length ∧ i = .int .i64 k ∧ n = .int .i64 N ∧ Hid (N = countQ (x.rules.take k)) ∧ N ≤ 6561) (fun _ i => x.rules.length - (intOf i).toNat)
  case atStart => exact ⟨0, 1, Nat.zero_le _, rfl, rfl, rfl, by omega⟩
  case round =>
    obtain ⟨k, N, hk, rfl, rfl, hN, hN1⟩ := hrel
    by_cases hlt : k < x.rules.length
    · have hki : (k : Int) < x.rules.length := by omega
      have hk8 : (k : Int) < 8 := by omega
      obtain ⟨b, off, rfl, hlo, hhi, c0, -⟩ := (at_rule hr0).2 k hlt
      obtain ⟨m1, m2, -, -⟩ := hx.rule k hlt
      have hT := countQ_snoc (x.rules.take k) x.rules[k]
      rw [← List.take_succ_eq_append_getElem hlt, ← hN.out] at hT
      have hle := countQ_le (rs := x.rules.take (k + 1)) (by
        intro r hr
        obtain ⟨j, hj, rfl⟩ := List.getElem_of_mem (List.mem_of_mem_take hr)
        have := hx.rule j hj; omega)
      rw [hT] at hle
      have hle2 : 3 ^ (x.rules.take (k + 1)).length ≤ 3 ^ 8 := Nat.pow_le_pow_right (by decide) (by rw [List.length_take]; omega)
      replace hle := Nat.le_trans hle hle2
      clear hle2 hN
      generalize x.rules[k].values = m at *
      rcases (by omega : m = 2 ∨ m = 3) with rfl | rfl
      · have hq : N * 2 ≤ 6561 := hle
        go_wp2_with fail
        refine (l01In_any 2 2 3 w0).mono ?_
        rintro e w' ⟨rfl, rfl⟩
        rw [inR_yes m1 m2]
        go_wp2
        go_round
        case rel => exact ⟨k + 1, N * 2, by omega, by go_num, by go_num, hT.symm, hq⟩
        case measure => simp [intOf]; omega
      · have hq : N * 3 ≤ 6561 := hle
        go_wp2_with fail
        refine (l01In_any 3 2 3 w0).mono ?_
        rintro e w' ⟨rfl, rfl⟩
        rw [inR_yes m1 m2]
        go_wp2
        go_round
        case rel => exact ⟨k + 1, N * 3, by omega, by go_num, by go_num, hT.symm, hq⟩
        case measure => simp [intOf]; omega
    · have hki : ¬ (k : Int) < x.rules.length := by omega
      obtain rfl : k = x.rules.length := by omega
      rw [List.take_length] at hN
      have hNe := hN.out
      subst hNe
      clear hN
      go_wp2
      go_ret
      exact ⟨rfl, hb0⟩
set_option maxHeartbeats 400000 in
set_option maxRecDepth 100000 in
theorem sameIn_any (xs : List Int) (v u : Value) (lo hi lo' hi' : Nat) (w : World) (hr : Rd intS lo hi w v xs) (hh : hi ≤ w.heap.size) (hr' : Rd intS lo' hi' w u xs) (hh' : hi' ≤ w.heap.size) :
    Calls Try.prog 19 #[v, u] w fun e w' => e = .returned (.bool true) ∧ Below w.heap.size w w' := by
  have hl := hr.len_le
  obtain ⟨a, c, rfl⟩ := hr.sl
  obtain ⟨a', c', rfl⟩ := hr'.sl
  go_enter Try.func19, Try.ntmps19
  go_wp2
  go_loopw [5] (fun i wr => ∃ k : Nat, k ≤ xs.length ∧ i = .int .i64 k ∧ Below w.heap.size w wr) (fun i _ => xs.length - (intOf i).toNat)
  case atStart => exact ⟨0, Nat.zero_le _, rfl, Below.refl _ _⟩
  case round =>
    obtain ⟨k, hk, rfl, hb⟩ := hrel
    by_cases hlt : k < xs.length
    · obtain ⟨b, off, rfl, hlo, hhi, c0⟩ := (hr.below hb hh).intAt hlt
      obtain ⟨b', off', rfl, hlo', hhi', q0⟩ := (hr'.below hb hh').intAt hlt
      have hki : (k : Int) < (xs.length : Int) := by omega
      generalize xs.getD k 0 = x at *
      clear hr hr'
      go_wp2_with fail
      go_quiet (fail)
      go_wp2
      go_roundw
      case rel => exact ⟨k + 1, by omega, by go_num, blw_drewN hb _⟩
      case measure => simp [intOf]; omega
    · go_wp2
      go_ret
      exact ⟨rfl, hb⟩
end Go.Proofs.Ytllpgomloblfjaa
