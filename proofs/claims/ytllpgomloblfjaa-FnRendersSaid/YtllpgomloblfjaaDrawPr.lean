/- A drawn piece with values. -/
import Derived.Test.YtllpgomloblfjaaDrawS
import Derived.Test.YtllpgomloblfjaaBestP
import Derived.Test.YtllpgomloblfjaaDrawK
namespace Go.Proofs.Ytllpgomloblfjaa
open Go.RowKit

theorem below_out {C g : Nat} {w0 w w' : World} (h : Out g (g + 1) w0 w) (hb : Below C w w') (hC : w0.heap.size ≤ C) : Out g (g + 1) w0 w' := h.then hb hC
set_option maxHeartbeats 2000000 in
set_option maxRecDepth 100000 in
theorem l08Values_any {g lo hi plo phi : Nat} {xs : List Int} {w : World} (hc : Cur g lo hi xs w) (x : Piece) (ra ca sa ta : Option Addr) (rc cc sc tc : Nat) (hr : Rd ruleF.shape plo phi w (.slice ra x.rules.length rc) x.rules) (hh : phi ≤ w.heap.size) (hfg : phi ≤ g ∨ g + 1 ≤ plo) (hl : x.rules.length ≤ 9) (hv : ∀ r ∈ x.rules, r.values ≤ 4) :
    Calls Try.prog 112 #[.pointer (some ⟨g, 0, none⟩), x.v ra rc ca cc sa sc ta tc] w fun e w' => ∃ (u : Value) (vs : List Int), e = .returned u ∧ vs.length ≤ 10 ∧ Own intF 3 w.heap.size w'.heap.size w' u vs ∧ Out g (g + 1) w w' ∧ Cur g lo hi xs w' := by
  obtain ⟨i0, hi0, hz0, hz1, hz2⟩ := info_parts Try.infoIntQ
  have hgl := hc.lt
  obtain ⟨BX, HX⟩ : ∃ B, Hid (B = w.heap.size) := ⟨_, rfl⟩
  have hX1 : BX ≤ w.heap.size := Nat.le_of_eq HX.out
  have hX2 : w.heap.size ≤ BX := Nat.le_of_eq HX.out.symm
  unfold Piece.v
  go_enter Try.func112, Try.ntmps112
  go_upto_region 2 with fail
  have hk : Below w.heap.size w ((w.alloc (.cells #[.int .i64 x.indent, .slice ra x.rules.length rc, .slice ca x.chunks.length cc, .slice sa x.spans.length sc, .slice ta x.ties.length tc] 29)).alloc (.cells #[] 3)) := ((Below.refl _ _).alloc (Nat.le_refl _) _).alloc (by simp) _
  have hB0 : ((w.alloc (.cells #[.int .i64 x.indent, .slice ra x.rules.length rc, .slice ca x.chunks.length cc, .slice sa x.spans.length sc, .slice ta x.ties.length tc] 29)).alloc (.cells #[] 3)).heap[w.heap.size]? = some (.cells #[.int .i64 x.indent, .slice ra x.rules.length rc, .slice ca x.chunks.length cc, .slice sa x.spans.length sc, .slice ta x.ties.length tc] 29) := by
    have h := heap_alloc_new w (.cells #[.int .i64 x.indent, .slice ra x.rules.length rc, .slice ca x.chunks.length cc, .slice sa x.spans.length sc, .slice ta x.ties.length tc] 29)
    rwa [← (show Below (w.heap.size + 1) (w.alloc (.cells #[.int .i64 x.indent, .slice ra x.rules.length rc, .slice ca x.chunks.length cc, .slice sa x.spans.length sc, .slice ta x.ties.length tc] 29)) ((w.alloc (.cells #[.int .i64 x.indent, .slice ra x.rules.length rc, .slice ca x.chunks.length cc, .slice sa x.spans.length sc, .slice ta x.ties.length tc] 29)).alloc (.cells #[] 3)) from (Below.refl _ _).alloc (by simp) _).block w.heap.size (by omega)] at h
  have hsz : ((w.alloc (.cells #[.int .i64 x.indent, .slice ra x.rules.length rc, .slice ca x.chunks.length cc, .slice sa x.spans.length sc, .slice ta x.ties.length tc] 29)).alloc (.cells #[] 3)).heap.size = w.heap.size + 2 := by simp
  have hE := Own.empty intF 3 (w.heap.size + 1) (w.alloc (.cells #[.int .i64 x.indent, .slice ra x.rules.length rc, .slice ca x.chunks.length cc, .slice sa x.spans.length sc, .slice ta x.ties.length tc] 29)) (by simp)
  have hes : (w.alloc (.cells #[.int .i64 x.indent, .slice ra x.rules.length rc, .slice ca x.chunks.length cc, .slice sa x.spans.length sc, .slice ta x.ties.length tc] 29)).heap.size = w.heap.size + 1 := by simp
  rw [hes] at hE
  rw [← HX.out] at hB0 hE ⊢
  have hX : PBox x ra rc ca cc sa sc ta tc BX ((w.alloc (.cells #[.int .i64 x.indent, .slice ra x.rules.length rc, .slice ca x.chunks.length cc, .slice sa x.spans.length sc, .slice ta x.ties.length tc] 29)).alloc (.cells #[] 3)) := hB0
  clear hB0 hes
  have ho0 : Out g (g + 1) w ((w.alloc (.cells #[.int .i64 x.indent, .slice ra x.rules.length rc, .slice ca x.chunks.length cc, .slice sa x.spans.length sc, .slice ta x.ties.length tc] 29)).alloc (.cells #[] 3)) := Out.of_below hk
  have hc0 := hc.below hk hgl
  have hR0 := hr.below hk hh
  generalize (w.alloc (.cells #[.int .i64 x.indent, .slice ra x.rules.length rc, .slice ca x.chunks.length cc, .slice sa x.spans.length sc, .slice ta x.ties.length tc] 29)).alloc (.cells #[] 3) = w0 at *
  clear hk hc hr
  obtain ⟨C, HC⟩ : ∃ C, Hid (C = w0.heap.size) := ⟨_, rfl⟩
  have hC1 : C ≤ w0.heap.size := Nat.le_of_eq HC.out
  have hC2 : w0.heap.size ≤ C := Nat.le_of_eq HC.out.symm
  have hBC : BX + 2 ≤ C := by omega
  have hOE : OutE intF 3 (BX + 1) C w0 (.slice (some ⟨BX + 1, 0, none⟩) 0 0) [] := .inr ⟨rfl, ⟨_, rfl⟩, hE.wide (Nat.le_refl _) hC2⟩
  clear hE hsz
  go_wp2
  go_loopw [5, 6] (fun out i wr => ∃ (k : Nat) (ys : List Int), k ≤ x.rules.length ∧ i = .int .i64 k ∧ ys.length = k ∧ Out g (g + 1) w wr ∧ Cur g lo hi xs wr ∧ C ≤ wr.heap.size ∧ OutE intF 3 (BX + 1) C wr out ys ∧ PBox x ra rc ca cc sa sc ta tc BX wr ∧ Rd ruleF.shape plo phi wr (.slice ra x.rules.length rc) x.rules) (fun _ i _ => x.rules.length - (intOf i).toNat)
  case atStart => exact ⟨0, [], Nat.zero_le _, rfl, rfl, ho0, hc0, hC1, hOE, hX, hR0⟩
  case round =>
    clear hX hR0 ho0 hc0 hOE
    obtain ⟨k, ys, hk, rfl, hyl, ho, hcu, hCw, hO, hX, hR⟩ := hrel
    obtain ⟨p0, p1, p2, p3, p4⟩ := hX.five
    by_cases hlt : k < x.rules.length
    · have hki : (k : Int) < x.rules.length := by omega
      obtain ⟨b, off, rfl, hlo, hhi, c0, -⟩ := (at_rule hR).2 k hlt
      have hvm := hv _ (List.getElem_mem hlt)
      generalize hm : x.rules[k].values = m at *
      clear hm
      by_cases hm1 : m < 1
      · go_wp2_with fail
        refine (l01Below_any (n := 1) hcu (by omega) (by omega)).mono ?_
        rintro e w4 ⟨q, rfl, q1, q2, ho4, hc4⟩
        have hs4 := ho4.size
        have hO4 := hO.out ho4 (by omega) (by omega) hCw
        have hX4 := (ho4.block BX (by omega) (by omega)).trans hX
        have hR4 := hR.same (ho4.same (by omega) hfg)
        go_wp2_with (at_builtin; refine wp_app1e (F := intF) (P := Try.prog) (y := q) rfl (.tmp 24) (.tmp 28) 32 rfl Try.underlying32 hi0 hz0 hz1 hz2 rfl (by decide) rfl (hO4.keep (w' := w4.alloc _) ((Below.refl _ _).alloc (Nat.le_refl _) _) (by omega)) w4.heap.size rfl (heap_alloc_new _ _) rfl (by omega) (by omega) (by simp; omega) ?_; intro v' w' hO' hb')
        have hbs : Below C w4 w' := ((Below.refl C w4).alloc (by omega) _).trans hb'
        have hsw := hbs.size
        go_roundw
        case rel => exact ⟨k + 1, ys ++ [q], by omega, by go_num, by simp; omega, (ho.trans ho4).then hbs (by omega), hc4.below hbs (by omega), by omega, hO', (hbs.block BX (by omega)).trans hX4, hR4.below hbs (by omega)⟩
        case measure => simp [intOf]; omega
      · have hm2 : ¬ m < 1 := hm1
        go_wp2_with fail
        refine (l01Below_any (n := m) hcu (by omega) (by omega)).mono ?_
        rintro e w4 ⟨q, rfl, q1, q2, ho4, hc4⟩
        have hs4 := ho4.size
        have hO4 := hO.out ho4 (by omega) (by omega) hCw
        have hX4 := (ho4.block BX (by omega) (by omega)).trans hX
        have hR4 := hR.same (ho4.same (by omega) hfg)
        go_wp2_with (at_builtin; refine wp_app1e (F := intF) (P := Try.prog) (y := q) rfl (.tmp 24) (.tmp 28) 32 rfl Try.underlying32 hi0 hz0 hz1 hz2 rfl (by decide) rfl (hO4.keep (w' := w4.alloc _) ((Below.refl _ _).alloc (Nat.le_refl _) _) (by omega)) w4.heap.size rfl (heap_alloc_new _ _) rfl (by omega) (by omega) (by simp; omega) ?_; intro v' w' hO' hb')
        have hbs : Below C w4 w' := ((Below.refl C w4).alloc (by omega) _).trans hb'
        have hsw := hbs.size
        go_roundw
        case rel => exact ⟨k + 1, ys ++ [q], by omega, by go_num, by simp; omega, (ho.trans ho4).then hbs (by omega), hc4.below hbs (by omega), by omega, hO', (hbs.block BX (by omega)).trans hX4, hR4.below hbs (by omega)⟩
        case measure => simp [intOf]; omega
    · have hki : ¬ (k : Int) < x.rules.length := by omega
      obtain rfl : k = x.rules.length := by omega
      go_wp2_with fail
      refine (l01Below_any (n := 10) hcu (by omega) (by omega)).mono ?_
      rintro e w4 ⟨q, rfl, q1, q2, ho4, hc4⟩
      have hs4 := ho4.size
      have hO4 := hO.out ho4 (by omega) (by omega) hCw
      have hof := ho.trans ho4
      clear hO ho hcu hX hR p0 p1 p2 p3 p4
      rcases (by omega : q = 0 ∨ q = 1 ∨ 2 ≤ q) with rfl | rfl | hq2
      · go_wp2_with (at_builtin; refine wp_app1e (F := intF) (P := Try.prog) (y := (0 : Int)) rfl (.tmp 34) (.tmp 35) 32 rfl Try.underlying32 hi0 hz0 hz1 hz2 rfl (by decide) rfl (hO4.keep (w' := w4.alloc _) ((Below.refl _ _).alloc (Nat.le_refl _) _) (by omega)) w4.heap.size rfl (heap_alloc_new _ _) rfl (by omega) (by omega) (by simp; omega) ?_; intro v' w' hO' hb')
        have hbs : Below C w4 w' := ((Below.refl C w4).alloc (by omega) _).trans hb'
        have hsw := hbs.size
        go_wp2
        go_ret
        have hw := (hO'.own (by omega) (by omega)).wide (lo' := w.heap.size) (by omega) (Nat.le_refl _)
        exact ⟨v', _, rfl, by simp; omega, hw, hof.then hbs (by omega), hc4.below hbs (by omega)⟩
      · have hw0 := hO4.own (by omega) (by omega)
        obtain ⟨a, c, rfl, -, -, hG⟩ := hw0.form
        have HYL := Lib.hid hyl
        have hyl9 : ys.length ≤ 9 := by omega
        clear hyl
        by_cases h0 : 0 < ys.length
        · obtain ⟨G, rfl, hG1, hG2⟩ := hG h0
          have h0i : (0 : Int) < (ys.length : Int) := by omega
          go_upto_region 14 with fail
          have hrl := rd_lit intF w4 [-1, 3] #[.int .i64 (-1), .int .i64 3] 3 rfl (by decide)
          have hbl : Below w4.heap.size w4 (w4.alloc (.cells #[.int .i64 (-1), .int .i64 3] 3)) := (Below.refl _ _).alloc (Nat.le_refl _) _
          have hcl := hc4.below hbl (by omega)
          have hol := hof.then hbl (by omega)
          have hwl := (hw0.below hbl (Nat.le_refl _)).wide (Nat.le_refl _) hbl.size
          have hsl : (w4.alloc (.cells #[.int .i64 (-1), .int .i64 3] 3)).heap.size = w4.heap.size + 1 := by simp
          go_wp2_with fail
          generalize w4.alloc (.cells #[.int .i64 (-1), .int .i64 3] 3) = wl at *
          refine (l01PickInt_any hcl hrl (by omega) (.inr (by omega)) (by decide) (by decide)).mono ?_
          rintro e w5 ⟨q, rfl, -, ho5, hc5⟩
          have hw5 := (hwl.same (ho5.same (by omega) (.inr (by omega)))).wide (Nat.le_refl _) ho5.size
          have hrow : w5.cell? ⟨G, 0, none⟩ = some (.int .i64 (ys[0]'h0)) := hw5.cell (k := 0) (j := 0) rfl h0 (by decide)
          have hfz : w5.frozen? ⟨G, 0, none⟩ = false := hw5.frozen rfl 0
          have hS2 : Own intF 3 (BX + 1) w5.heap.size (w5.setCell ⟨G, 0, none⟩ (.int .i64 q)) (.slice (some ⟨G, 0, none⟩) ys.length c) (ys.set 0 q) := hw5.set (k := 0) (j := 0) (x := q) rfl h0 (by decide) rfl
          have hBG : Below G w5 (w5.setCell ⟨G, 0, none⟩ (.int .i64 q)) := (Below.refl _ _).setCell (p := ⟨G, 0, none⟩) (Nat.le_refl _) _
          have hzz : (w5.setCell ⟨G, 0, none⟩ (.int .i64 q)).heap.size = w5.heap.size := by simp [World.setCell]
          have hs5 := ho5.size
          go_wp2
          go_ret
          refine ⟨.slice (some ⟨G, 0, none⟩) ys.length c, ys.set 0 q, rfl, ?_, ?_, ?_, hc5.below hBG (by omega)⟩
          · rw [List.length_set]; omega
          · have := hS2.wide (lo' := w.heap.size) (hi' := (w5.setCell ⟨G, 0, none⟩ (.int .i64 q)).heap.size) (by omega) (by omega)
            exact this
          · exact (hol.trans ho5).then hBG (by omega)
        · obtain rfl : ys = [] := List.eq_nil_of_length_eq_zero (by omega)
          have hw := hw0.wide (lo' := w.heap.size) (by omega) (Nat.le_refl _)
          go_wp2
          go_ret
          exact ⟨_, [], rfl, by simp, hw, hof, hc4⟩
      · have n0 : ¬ q = 0 := by omega
        have n1 : ¬ q = 1 := by omega
        have hw := (hO4.own (by omega) (by omega)).wide (lo' := w.heap.size) (by omega) (Nat.le_refl _)
        go_wp2
        go_ret
        exact ⟨_, ys, rfl, by omega, hw, hof, hc4⟩
end Go.Proofs.Ytllpgomloblfjaa
namespace Go.Proofs.Ytllpgomloblfjaa
open Go.RowKit
set_option maxHeartbeats 2000000 in
set_option maxRecDepth 100000 in
theorem drawValues_any {lo hi : Nat} {xs : List Int} {w : World} {v : Value} (hr : Rd bytS lo hi w v xs) (hh : hi ≤ w.heap.size) (hx : ∀ x ∈ xs, U8 x) (hl : xs.length ≤ 1048576) :
    Calls Try.prog 22 #[v] w fun e w' => ∃ (x : Piece) (vs : List Int) (ra : Option Addr) (rc : Nat) (ca : Option Addr) (cc : Nat) (sa : Option Addr) (sc : Nat) (ta : Option Addr) (tc : Nat) (va : Option Addr) (vc : Nat), e = .returned (.tuple #[x.v ra rc ca cc sa sc ta tc, .slice va vs.length vc]) ∧ pieceOk x = true ∧ Sized' x ∧ 1 ≤ x.rules.length ∧ x.chunks.length ≤ 9 ∧ FullV x vs ∧ PFour x ra rc ca cc sa sc ta tc w.heap.size w'.heap.size w' ∧ Rd intF.shape w.heap.size w'.heap.size w' (.slice va vs.length vc) vs ∧ Below w.heap.size w w' := by
  obtain ⟨i0, hi0, hz0, hz1, hz2⟩ := info_parts Try.infoIntQ
  go_enter Try.func22, Try.ntmps22
  go_upto_region 1 with fail
  have hR := heap_alloc_new w (.cells #[.int .i64 0, .slice none 0 0, .slice none 0 0, .slice none 0 0, .slice none 0 0] 29)
  have hb0 : Below w.heap.size w (w.alloc (.cells #[.int .i64 0, .slice none 0 0, .slice none 0 0, .slice none 0 0, .slice none 0 0] 29)) := (Below.refl _ _).alloc (Nat.le_refl _) _
  have hs0 : (w.alloc (.cells #[.int .i64 0, .slice none 0 0, .slice none 0 0, .slice none 0 0, .slice none 0 0] 29)).heap.size = w.heap.size + 1 := by simp
  have hr0 := hr.below hb0 hh
  generalize w.alloc (.cells #[.int .i64 0, .slice none 0 0, .slice none 0 0, .slice none 0 0, .slice none 0 0] 29) = w0 at *
  go_wp2_with fail
  refine (l01New_any hr0 (by omega) hx hl).mono ?_
  rintro e w1 ⟨rfl, hb1, hc1, hs1⟩
  have hB1 := hb0.trans (hb1.mono (by omega))
  replace hR := (hb1.block w.heap.size (by omega)).trans hR
  clear hb0 hb1 hr0
  obtain ⟨g, hg⟩ : ∃ g, Hid (g = w0.heap.size) := ⟨_, rfl⟩
  rw [← hg.out] at hs0 hs1 hc1 ⊢
  have hg1 : w.heap.size < g := by omega
  have hg2 : g < w1.heap.size := by omega
  clear hs0 hs1 hg
  go_upto_region 2 with fail
  go_wp2_with fail
  refine (l08Piece_any hc1).mono ?_
  rintro e w2 ⟨x, ra, rc, ca, cc, sa, sc, ta, tc, rfl, hok, hz, r1, r5, c9, hPO, ho2, hc2⟩
  have hP := hPO.rd
  clear hPO
  have hRt := (right_of hok).rule
  have hs2 := ho2.size
  replace hR := (ho2.block w.heap.size (by omega) (by omega)).trans hR
  have hB2 : Below w.heap.size w w2 := hB1.trans (ho2.below (by omega) (by omega))
  clear hB1 ho2 hc1
  unfold Piece.v
  go_upto_region 3 with fail
  have kb : Below w2.heap.size w2 (w2.alloc (.cells #[.int .i64 x.indent, .slice ra x.rules.length rc, .slice ca x.chunks.length cc, .slice sa x.spans.length sc, .slice ta x.ties.length tc] 29)) := (Below.refl _ _).alloc (Nat.le_refl _) _
  have hX0 := heap_alloc_new w2 (.cells #[.int .i64 x.indent, .slice ra x.rules.length rc, .slice ca x.chunks.length cc, .slice sa x.spans.length sc, .slice ta x.ties.length tc] 29)
  have hs3 : (w2.alloc (.cells #[.int .i64 x.indent, .slice ra x.rules.length rc, .slice ca x.chunks.length cc, .slice sa x.spans.length sc, .slice ta x.ties.length tc] 29)).heap.size = w2.heap.size + 1 := by simp
  obtain ⟨P, hPe⟩ : ∃ P, Hid (P = w2.heap.size) := ⟨_, rfl⟩
  have hP1 : P ≤ w2.heap.size := Nat.le_of_eq hPe.out
  have hP2 : w2.heap.size ≤ P := Nat.le_of_eq hPe.out.symm
  rw [← hPe.out] at hX0 ⊢
  have hX1 : PBox x ra rc ca cc sa sc ta tc P (w2.alloc (.cells #[.int .i64 x.indent, .slice ra x.rules.length rc, .slice ca x.chunks.length cc, .slice sa x.spans.length sc, .slice ta x.ties.length tc] 29)) := hX0
  clear hX0
  replace hP := hP.below kb (Nat.le_refl _)
  replace hR := blk kb hR
  have hB3 := hB2.trans (kb.mono (by omega))
  have hc3 := hc2.below kb hc2.lt
  clear hB2 hc2 kb
  have hPw : P < (w2.alloc (.cells #[.int .i64 x.indent, .slice ra x.rules.length rc, .slice ca x.chunks.length cc, .slice sa x.spans.length sc, .slice ta x.ties.length tc] 29)).heap.size := by omega
  have hPw2 : (w2.alloc (.cells #[.int .i64 x.indent, .slice ra x.rules.length rc, .slice ca x.chunks.length cc, .slice sa x.spans.length sc, .slice ta x.ties.length tc] 29)).heap.size ≤ P + 1 := by omega
  obtain ⟨PH, hPH⟩ : ∃ n, Hid (n = w2.heap.size) := ⟨_, rfl⟩
  have hPH1 : PH ≤ w2.heap.size := Nat.le_of_eq hPH.out
  have hPH2 : w2.heap.size ≤ PH := Nat.le_of_eq hPH.out.symm
  rw [← hPH.out] at hP
  have hL1 : w1.heap.size ≤ PH := by omega
  clear hs3
  generalize w2.alloc (.cells #[.int .i64 x.indent, .slice ra x.rules.length rc, .slice ca x.chunks.length cc, .slice sa x.spans.length sc, .slice ta x.ties.length tc] 29) = w3 at *
  go_upto_region 4 with fail
  have kb : Below w3.heap.size w3 (w3.alloc (.cells #[] 3)) := (Below.refl _ _).alloc (Nat.le_refl _) _
  have hE := Own.empty intF 3 w3.heap.size w3 (Nat.le_refl _)
  have hs4 : (w3.alloc (.cells #[] 3)).heap.size = w3.heap.size + 1 := by simp
  replace hP := hP.below kb (by omega)
  replace hR := blk kb hR
  have hB4 := hB3.trans (kb.mono (by omega))
  have hc4 := hc3.below kb hc3.lt
  have hX2 := blk kb hX1
  clear hB3 hc3 kb hX1
  obtain ⟨C, HC⟩ : ∃ C, Hid (C = (w3.alloc (.cells #[] 3)).heap.size) := ⟨_, rfl⟩
  have hC1 : C ≤ (w3.alloc (.cells #[] 3)).heap.size := Nat.le_of_eq HC.out
  have hC2 : (w3.alloc (.cells #[] 3)).heap.size ≤ C := Nat.le_of_eq HC.out.symm
  have hOE : OutE intF 3 (P + 1) C (w3.alloc (.cells #[] 3)) (.slice (some ⟨w3.heap.size, 0, none⟩) 0 0) [] := .inr ⟨rfl, ⟨_, rfl⟩, hE.wide (by omega) hC2⟩
  have hBC : P + 1 ≤ C := by omega
  clear hE
  generalize w3.alloc (.cells #[] 3) = w4 at *
  go_wp2
  go_loopw [6, 7] (fun out i wr => ∃ (k : Nat) (ys : List Int), k ≤ x.rules.length ∧ i = .int .i64 k ∧ ys.length = k ∧ Hid (∀ j (h : j < x.rules.length), j < k → 0 ≤ ys.getD j 0 ∧ ys.getD j 0 < x.rules[j].values) ∧ Below w.heap.size w wr ∧ Cur g lo hi xs wr ∧ C ≤ wr.heap.size ∧ OutE intF 3 (P + 1) C wr out ys ∧ PBox x ra rc ca cc sa sc ta tc P wr ∧ PFour x ra rc ca cc sa sc ta tc w1.heap.size PH wr ∧ wr.heap[w.heap.size]? = some (.cells #[.int .i64 0, .slice none 0 0, .slice none 0 0, .slice none 0 0, .slice none 0 0] 29)) (fun _ i _ => x.rules.length - (intOf i).toNat)
  case atStart => exact ⟨0, [], Nat.zero_le _, rfl, rfl, (by intro j h hj; exact absurd hj (Nat.not_lt_zero _)), hB4, hc4, hC1, hOE, hX2, hP, hR⟩
  case round =>
    clear hB4 hc4 hOE hX2 hP hR
    obtain ⟨k, ys, hk, rfl, hyl, HV, hB, hcu, hCw, hO, hX, hP, hR⟩ := hrel
    obtain ⟨p0, p1, p2, p3, p4⟩ := hX.five
    by_cases hlt : k < x.rules.length
    · have hki : (k : Int) < x.rules.length := by omega
      obtain ⟨b, off, rfl, hlo, hhi, c0, -⟩ := (at_rule hP.r).2 k hlt
      obtain ⟨m1, m2, -, -⟩ := hRt k hlt
      have hmv : Hid (∀ z : Int, z < x.rules[k].values → z < x.rules[k].values) := fun _ h => h
      generalize hm : x.rules[k].values = m at m1 m2 c0 ⊢
      go_wp2_with fail
      refine (l01Below_any hcu (by omega) (by omega)).mono ?_
      rintro e w5 ⟨q, rfl, q1, q2, ho4, hc4⟩
      have hs5 := ho4.size
      have hO4 := hO.out ho4 (by omega) (by omega) hCw
      have hX4 := (ho4.block P hX.lt (by omega)).trans hX
      have hP4 := hP.same (ho4.same (by omega) (.inr (by omega)))
      have hR4 := (ho4.block w.heap.size (by omega) (by omega)).trans hR
      have hB5 := hB.trans (ho4.below (B := w.heap.size) (by omega) (by omega))
      go_wp2_with (at_builtin; refine wp_app1e (F := intF) (P := Try.prog) (y := q) rfl (.tmp 20) (.tmp 29) 32 rfl Try.underlying32 hi0 hz0 hz1 hz2 rfl (by decide) rfl (hO4.keep (w' := w5.alloc _) ((Below.refl _ _).alloc (Nat.le_refl _) _) (by omega)) w5.heap.size rfl (heap_alloc_new _ _) rfl (by omega) (by omega) (by simp; omega) ?_; intro v' w' hO' hb')
      have hbs : Below C w5 w' := ((Below.refl C w5).alloc (by omega) _).trans hb'
      have hsw := hbs.size
      have hV2 : Hid (∀ j (h : j < x.rules.length), j < k + 1 → 0 ≤ (ys ++ [q]).getD j 0 ∧ (ys ++ [q]).getD j 0 < x.rules[j].values) := by
        intro j h hj
        by_cases hjk : j < k
        · have h1 := HV.out j h hjk
          rwa [List.getD_eq_getElem?_getD, List.getElem?_append_left (by omega), ← List.getD_eq_getElem?_getD]
        · obtain rfl : j = k := by omega
          rw [List.getD_eq_getElem?_getD, List.getElem?_append_right (by omega), hyl, Nat.sub_self, hm]
          exact ⟨q1, q2⟩
      clear hm HV hmv
      go_roundw
      case rel => exact ⟨k + 1, ys ++ [q], by omega, by go_num, by simp; omega, hV2, hB5.trans (hbs.mono (by omega)), hc4.below hbs (by omega), by omega, hO', (hbs.block P (by omega)).trans hX4, hP4.below hbs (by omega), (hbs.block w.heap.size (by omega)).trans hR4⟩
      case measure => simp [intOf]; omega
    · have hki : ¬ (k : Int) < x.rules.length := by omega
      obtain rfl : k = x.rules.length := by omega
      have hw0 := hO.own hBC hCw
      obtain ⟨va, vc, rfl, -, -, -⟩ := hw0.form
      have hF : FullV x ys := ⟨hyl, fun i h => HV.out i h h⟩
      have z0 := cell_heap (j := 0) hR rfl
      have z1 := cell_heap (j := 1) hR rfl
      have z2 := cell_heap (j := 2) hR rfl
      have z3 := cell_heap (j := 3) hR rfl
      have z4 := cell_heap (j := 4) hR rfl
      have f0 := frozen_heap (j := 0) hR
      have f1 := frozen_heap (j := 1) hR
      have f2 := frozen_heap (j := 2) hR
      have f3 := frozen_heap (j := 3) hR
      have f4 := frozen_heap (j := 4) hR
      go_wp2
      change bodyPost _ _ _ _ _ (storeAll w.heap.size [.int .i64 x.indent, .slice ra x.rules.length rc, .slice ca x.chunks.length cc, .slice sa x.spans.length sc, .slice ta x.ties.length tc] 0 wr)
      clear p0 p1 p2 p3 p4 z0 z1 z2 z3 z4 f0 f1 f2 f3 f4
      obtain ⟨q0, q1, q2, q3, q4⟩ := stored5 hR [.int .i64 x.indent, .slice ra x.rules.length rc, .slice ca x.chunks.length cc, .slice sa x.spans.length sc, .slice ta x.ties.length tc] rfl
      have hBe : Below w.heap.size wr (storeAll w.heap.size [.int .i64 x.indent, .slice ra x.rules.length rc, .slice ca x.chunks.length cc, .slice sa x.spans.length sc, .slice ta x.ties.length tc] 0 wr) := blw_storeAll (Below.refl _ _) (Nat.le_refl _) _ _
      have hSa : ∀ lo hi : Nat, (w.heap.size < lo ∨ hi ≤ w.heap.size) → Same lo hi wr (storeAll w.heap.size [.int .i64 x.indent, .slice ra x.rules.length rc, .slice ca x.chunks.length cc, .slice sa x.spans.length sc, .slice ta x.ties.length tc] 0 wr) := fun lo hi h => same_storeAllP h _ 0 _
      have hse := hBe.size
      generalize storeAll w.heap.size [.int .i64 x.indent, .slice ra x.rules.length rc, .slice ca x.chunks.length cc, .slice sa x.spans.length sc, .slice ta x.ties.length tc] 0 wr = wf at *
      refine bodyPost_ret (v := .tuple #[.agg #[.int .i64 x.indent, .slice ra x.rules.length rc, .slice ca x.chunks.length cc, .slice sa x.spans.length sc, .slice ta x.ties.length tc], .slice va ys.length vc]) (by simp [results, Try.results22, go_sem, q0, q1, q2, q3, q4, hyl]) rfl ?_
      exact ⟨x, ys, ra, rc, ca, cc, sa, sc, ta, tc, va, vc, rfl, hok, hz, r1, c9, hF, (hP.same (hSa w1.heap.size PH (.inl (by omega)))).wide (by omega) (by omega), (hw0.rd.same (hSa (P + 1) wr.heap.size (.inl (by omega)))).wide (by omega) (by omega), hB.trans hBe⟩
end Go.Proofs.Ytllpgomloblfjaa
namespace Go.Proofs.Ytllpgomloblfjaa
open Go.RowKit

theorem Rd.take {α : Type} {S : Shape α} {lo hi n c m : Nat} {w : World} {a : Option Addr} {xs : List α} (h : Rd S lo hi w (.slice a n c) xs) (hm : m ≤ n) : Rd S lo hi w (.slice a m c) (xs.take m) := by
  obtain ⟨a', c', e, h2, h3, h4, h5⟩ := h
  injection e with e1 e2 e3
  subst e1; subst e2; subst e3
  have hl : (xs.take m).length = m := by rw [List.length_take]; omega
  refine ⟨a, c, by rw [hl], by omega, h3, h4, fun k hk => ?_⟩
  obtain ⟨b, off, cs, q1, q2, q3, q4, q5⟩ := h5 k (by omega)
  exact ⟨b, off, cs, q1, q2, q3, by rw [List.getElem_take]; exact q4, q5⟩
theorem blk_drew {w : World} {b : Nat} {o : Obj} (h : w.heap[b]? = some o) : w.drew.heap[b]? = some o := h
theorem PFour.drew {x : Piece} {ra ca sa ta : Option Addr} {rc cc sc tc lo hi : Nat} {w : World} (h : PFour x ra rc ca cc sa sc ta tc lo hi w) : PFour x ra rc ca cc sa sc ta tc lo hi w.drew := ⟨h.r, h.c, h.s, h.t⟩
theorem Cur.drew {g lo hi : Nat} {xs : List Int} {w : World} (h : Cur g lo hi xs w) : Cur g lo hi xs w.drew := h
set_option maxHeartbeats 4000000 in
set_option maxRecDepth 100000 in
theorem l08Pair_any {lo hi : Nat} {xs : List Int} {w : World} {v : Value} (hr : Rd bytS lo hi w v xs) (hh : hi ≤ w.heap.size) (hx : ∀ x ∈ xs, U8 x) (hl : xs.length ≤ 1048576) :
    Calls Try.prog 70 #[v] w fun e w' => ∃ (x : Piece) (vs : List Int) (ra : Option Addr) (rc : Nat) (ca : Option Addr) (cc : Nat) (sa : Option Addr) (sc : Nat) (ta : Option Addr) (tc : Nat) (va : Option Addr) (vc : Nat), e = .returned (.tuple #[x.v ra rc ca cc sa sc ta tc, .slice va vs.length vc]) ∧ AnyP x ∧ vs.length ≤ 10 ∧ PFour x ra rc ca cc sa sc ta tc w.heap.size w'.heap.size w' ∧ Rd intF.shape w.heap.size w'.heap.size w' (.slice va vs.length vc) vs ∧ Below w.heap.size w w' := by
  go_enter Try.func70, Try.ntmps70
  go_upto_region 1 with fail
  have hR := heap_alloc_new w (.cells #[.int .i64 0, .slice none 0 0, .slice none 0 0, .slice none 0 0, .slice none 0 0] 29)
  have hb0 : Below w.heap.size w (w.alloc (.cells #[.int .i64 0, .slice none 0 0, .slice none 0 0, .slice none 0 0, .slice none 0 0] 29)) := (Below.refl _ _).alloc (Nat.le_refl _) _
  have hs0 : (w.alloc (.cells #[.int .i64 0, .slice none 0 0, .slice none 0 0, .slice none 0 0, .slice none 0 0] 29)).heap.size = w.heap.size + 1 := by simp
  have hr0 := hr.below hb0 hh
  generalize w.alloc (.cells #[.int .i64 0, .slice none 0 0, .slice none 0 0, .slice none 0 0, .slice none 0 0] 29) = w0 at *
  go_wp2_with fail
  refine (l01New_any hr0 (by omega) hx hl).mono ?_
  rintro e w1 ⟨rfl, hb1, hc1, hs1⟩
  have hB1 := hb0.trans (hb1.mono (by omega))
  replace hR := (hb1.block w.heap.size (by omega)).trans hR
  clear hb0 hb1 hr0
  obtain ⟨g, hg⟩ : ∃ g, Hid (g = w0.heap.size) := ⟨_, rfl⟩
  rw [← hg.out] at hs0 hs1 hc1 ⊢
  have hg1 : w.heap.size < g := by omega
  have hg2 : g < w1.heap.size := by omega
  clear hs0 hs1 hg
  go_upto_region 2 with fail
  go_wp2_with fail
  refine (l08Any_any hc1).mono ?_
  rintro e w2 ⟨x, ra, rc, ca, cc, sa, sc, ta, tc, rfl, hA, hP, ho2, hc2⟩
  have hs2 := ho2.size
  replace hR := (ho2.block w.heap.size (by omega) (by omega)).trans hR
  have hB2 : Below w.heap.size w w2 := hB1.trans (ho2.below (by omega) (by omega))
  clear hB1 ho2 hc1
  unfold Piece.v
  go_upto_region 3 with fail
  have kb : Below w2.heap.size w2 (w2.alloc (.cells #[.int .i64 x.indent, .slice ra x.rules.length rc, .slice ca x.chunks.length cc, .slice sa x.spans.length sc, .slice ta x.ties.length tc] 29)) := (Below.refl _ _).alloc (Nat.le_refl _) _
  have hX0 := heap_alloc_new w2 (.cells #[.int .i64 x.indent, .slice ra x.rules.length rc, .slice ca x.chunks.length cc, .slice sa x.spans.length sc, .slice ta x.ties.length tc] 29)
  have hs3 : (w2.alloc (.cells #[.int .i64 x.indent, .slice ra x.rules.length rc, .slice ca x.chunks.length cc, .slice sa x.spans.length sc, .slice ta x.ties.length tc] 29)).heap.size = w2.heap.size + 1 := by simp
  obtain ⟨P, hPe⟩ : ∃ P, Hid (P = w2.heap.size) := ⟨_, rfl⟩
  have hP1 : P ≤ w2.heap.size := Nat.le_of_eq hPe.out
  have hP2 : w2.heap.size ≤ P := Nat.le_of_eq hPe.out.symm
  rw [← hPe.out] at hX0 ⊢
  have hX : PBox x ra rc ca cc sa sc ta tc P (w2.alloc (.cells #[.int .i64 x.indent, .slice ra x.rules.length rc, .slice ca x.chunks.length cc, .slice sa x.spans.length sc, .slice ta x.ties.length tc] 29)) := hX0
  clear hX0
  replace hP := hP.below kb (Nat.le_refl _)
  replace hR := blk kb hR
  have hB3 := hB2.trans (kb.mono (by omega))
  have hc3 := hc2.below kb hc2.lt
  clear hB2 hc2 kb
  generalize w2.alloc (.cells #[.int .i64 x.indent, .slice ra x.rules.length rc, .slice ca x.chunks.length cc, .slice sa x.spans.length sc, .slice ta x.ties.length tc] 29) = wq at *
  have hPs : w2.heap.size ≤ wq.heap.size := by omega
  have hs4 : w2.heap.size ≤ wq.drew.heap.size := hPs
  clear hs3
  refine wp_region_held_drew (S := fun w' => PBox x ra rc ca cc sa sc ta tc P w') (by kernel_rfl) ?_ (fun hHeld => ?_)
  · exact hX.drew
  clear hHeld
  replace hPs : w2.heap.size ≤ wq.drew.heap.size := hPs
  replace hB3 := hB3.drew
  replace hX := hX.drew
  replace hc3 := hc3.drew
  replace hP := hP.drew
  replace hR := blk_drew hR
  generalize wq.drew = wD at *
  refine wpAnyH_take (i := 0) (v := ?v1) (at_op rfl) (by kernel_rfl) (by kernel_rfl) (by kernel_rfl) (fun _ _ _ h => h) (Or.inl ⟨by rfl, ?y1⟩) (by assumption) ?r1
  case y1 =>
    intro wx hSx
    obtain ⟨p0, p1, p2, p3, p4⟩ := hSx.five
    go_simp
    try with_reducible rfl
  try simp only [Act.put, List.setIfInBounds_toArray, List.set_cons_zero, List.set_cons_succ]
  refine wpAnyH_take (i := 1) (v := ?v2) (at_op rfl) (by kernel_rfl) (by kernel_rfl) (by kernel_rfl) (fun _ _ _ h => h) (Or.inl ⟨by rfl, ?y2⟩) (by assumption) ?r2
  case y2 =>
    intro wx hSx
    obtain ⟨p0, p1, p2, p3, p4⟩ := hSx.five
    go_simp
    try with_reducible rfl
  try simp only [Act.put, List.setIfInBounds_toArray, List.set_cons_zero, List.set_cons_succ]
  refine wpAnyH_take (i := 2) (v := ?v3) (at_op rfl) (by kernel_rfl) (by kernel_rfl) (by kernel_rfl) (fun _ _ _ h => h) (Or.inl ⟨by rfl, ?y3⟩) (by assumption) ?r3
  case y3 =>
    intro wx hSx
    obtain ⟨p0, p1, p2, p3, p4⟩ := hSx.five
    go_simp
    try with_reducible rfl
  try simp only [Act.put, List.setIfInBounds_toArray, List.set_cons_zero, List.set_cons_succ]
  refine wpAnyH_ready (rs := [3]) (by kernel_rfl) (by simp) ?_
  refine AllReadyH.cons (at_op rfl) (fun K hK => ?_) AllReadyH.nil
  go_simp
  refine (l08Values_any hc3 x ra ca sa ta rc cc sc tc hP.r hPs (.inr (by omega)) hA.r hA.v).mono ?_
  rintro e w5 ⟨u, vs, rfl, hvl, hO, ho5, hc5⟩
  have hs5 := ho5.size
  obtain ⟨va, vc, rfl, -, -, -⟩ := hO.form
  have hX5 := (ho5.block P hX.lt (by omega)).trans hX
  refine hK.out _ _ hX5 (fun _ => ?_)
  clear hK K
  try simp only [Act.put, List.setIfInBounds_toArray, List.set_cons_zero, List.set_cons_succ]
  have hR5 := (ho5.block w.heap.size (by omega) (by omega)).trans hR
  have z0 := cell_heap (j := 0) hR5 rfl
  have z1 := cell_heap (j := 1) hR5 rfl
  have z2 := cell_heap (j := 2) hR5 rfl
  have z3 := cell_heap (j := 3) hR5 rfl
  have z4 := cell_heap (j := 4) hR5 rfl
  have f0 := frozen_heap (j := 0) hR5
  have f1 := frozen_heap (j := 1) hR5
  have f2 := frozen_heap (j := 2) hR5
  have f3 := frozen_heap (j := 3) hR5
  have f4 := frozen_heap (j := 4) hR5
  refine wpAnyH_ready (rs := [4]) (by kernel_rfl) (by simp) ?_
  refine AllReadyH.cons (at_op rfl) (fun K hK => ?_) AllReadyH.nil
  go_wp2_with fail
  change K _ (storeAll w.heap.size [.int .i64 x.indent, .slice ra x.rules.length rc, .slice ca x.chunks.length cc, .slice sa x.spans.length sc, .slice ta x.ties.length tc] 0 w5)
  clear z0 z1 z2 z3 z4 f0 f1 f2 f3 f4
  obtain ⟨q0, q1, q2, q3, q4⟩ := stored5 hR5 [.int .i64 x.indent, .slice ra x.rules.length rc, .slice ca x.chunks.length cc, .slice sa x.spans.length sc, .slice ta x.ties.length tc] rfl
  have hBe : Below w.heap.size w5 (storeAll w.heap.size [.int .i64 x.indent, .slice ra x.rules.length rc, .slice ca x.chunks.length cc, .slice sa x.spans.length sc, .slice ta x.ties.length tc] 0 w5) := blw_storeAll (Below.refl _ _) (Nat.le_refl _) _ _
  have hSa : ∀ lo hi : Nat, (w.heap.size < lo ∨ hi ≤ w.heap.size) → Same lo hi w5 (storeAll w.heap.size [.int .i64 x.indent, .slice ra x.rules.length rc, .slice ca x.chunks.length cc, .slice sa x.spans.length sc, .slice ta x.ties.length tc] 0 w5) := fun lo hi h => same_storeAllP h _ 0 _
  have hse := hBe.size
  generalize storeAll w.heap.size [.int .i64 x.indent, .slice ra x.rules.length rc, .slice ca x.chunks.length cc, .slice sa x.spans.length sc, .slice ta x.ties.length tc] 0 w5 = wf at *
  have hXf := (hSa P (P + 1) (.inl (by omega)) P (Nat.le_refl _) (by omega)).trans hX5
  refine hK.out _ _ hXf (fun _ => ?_)
  clear hK K
  try simp only [Act.put, List.setIfInBounds_toArray, List.set_cons_zero, List.set_cons_succ]
  refine wpAnyH_take (i := 5) (v := ?v4) (at_op rfl) (by kernel_rfl) (by kernel_rfl) (by kernel_rfl) (fun _ _ _ h => h) (Or.inl ⟨by rfl, ?y4⟩) (by assumption) ?r4
  case y4 =>
    intro wx hSx
    obtain ⟨p0, p1, p2, p3, p4⟩ := hSx.five
    go_simp
    try with_reducible rfl
  try simp only [Act.put, List.setIfInBounds_toArray, List.set_cons_zero, List.set_cons_succ]
  refine wpAnyH_done (by kernel_rfl) ?_ _
  go_wp2
  refine bodyPost_ret (v := .tuple #[.agg #[.int .i64 x.indent, .slice ra x.rules.length rc, .slice ca x.chunks.length cc, .slice sa x.spans.length sc, .slice ta x.ties.length tc], .slice va vs.length vc]) (by simp [results, Try.results70, go_sem, q0, q1, q2, q3, q4]) rfl ?_
  have hP5 := hP.same (ho5.same (by omega) (.inr (by omega)))
  exact ⟨x, vs, ra, rc, ca, cc, sa, sc, ta, tc, va, vc, rfl, hA, hvl, (hP5.sameK (hSa _ _ (.inl (by omega))) (by omega) (by omega)), (hO.rd.same (hSa _ _ (.inl (by omega)))).wide (by omega) (by omega), (hB3.trans (ho5.below (B := w.heap.size) (by omega) (by omega))).trans hBe⟩
set_option maxHeartbeats 4000000 in
set_option maxRecDepth 100000 in
theorem drawBound_any {lo hi : Nat} {xs : List Int} {w : World} {v : Value} (hr : Rd bytS lo hi w v xs) (hh : hi ≤ w.heap.size) (hx : ∀ x ∈ xs, U8 x) (hl : xs.length ≤ 1048576) :
    Calls Try.prog 24 #[v] w fun e w' => ∃ (x : Piece) (vs : List Int) (ra : Option Addr) (rc : Nat) (ca : Option Addr) (cc : Nat) (sa : Option Addr) (sc : Nat) (ta : Option Addr) (tc : Nat) (va : Option Addr) (vc : Nat), e = .returned (.tuple #[x.v ra rc ca cc sa sc ta tc, .slice va vs.length vc]) ∧ AnyP x ∧ vs.length ≤ 10 ∧ PFour x ra rc ca cc sa sc ta tc w.heap.size w'.heap.size w' ∧ Rd intF.shape w.heap.size w'.heap.size w' (.slice va vs.length vc) vs ∧ Below w.heap.size w w' := by
  go_enter Try.func24, Try.ntmps24
  go_upto_region 1 with fail
  have hR := heap_alloc_new w (.cells #[.int .i64 0, .slice none 0 0, .slice none 0 0, .slice none 0 0, .slice none 0 0] 29)
  have hb0 : Below w.heap.size w (w.alloc (.cells #[.int .i64 0, .slice none 0 0, .slice none 0 0, .slice none 0 0, .slice none 0 0] 29)) := (Below.refl _ _).alloc (Nat.le_refl _) _
  have hs0 : (w.alloc (.cells #[.int .i64 0, .slice none 0 0, .slice none 0 0, .slice none 0 0, .slice none 0 0] 29)).heap.size = w.heap.size + 1 := by simp
  have hr0 := hr.below hb0 hh
  generalize w.alloc (.cells #[.int .i64 0, .slice none 0 0, .slice none 0 0, .slice none 0 0, .slice none 0 0] 29) = w0 at *
  go_wp2_with fail
  refine (l01New_any hr0 (by omega) hx hl).mono ?_
  rintro e w1 ⟨rfl, hb1, hc1, hs1⟩
  have hB1 := hb0.trans (hb1.mono (by omega))
  replace hR := (hb1.block w.heap.size (by omega)).trans hR
  have hr1 := hr0.below hb1 (by omega)
  clear hb0 hb1 hr0
  obtain ⟨g, hg⟩ : ∃ g, Hid (g = w0.heap.size) := ⟨_, rfl⟩
  rw [← hg.out] at hs0 hs1 hc1 ⊢
  have hg1 : w.heap.size < g := by omega
  have hg2 : g < w1.heap.size := by omega
  clear hs0 hs1 hg
  go_upto_region 2 with fail
  go_wp2_with fail
  refine (l01Below_any (n := 6) hc1 (by omega) (by omega)).mono ?_
  rintro e w2 ⟨q, rfl, q1, q2, ho2, -⟩
  have hs2 := ho2.size
  replace hR := (ho2.block w.heap.size (by omega) (by omega)).trans hR
  have hB2 : Below w.heap.size w w2 := hB1.trans (ho2.below (by omega) (by omega))
  have hr2 := hr1.same (ho2.same (by omega) (.inl (by omega)))
  clear hB1 ho2 hc1 hr1
  go_upto_region 3 with fail
  go_wp2_with fail
  refine (l08Pair_any hr2 (by omega) hx hl).mono ?_
  rintro e w3 ⟨x, vs, ra, rc, ca, cc, sa, sc, ta, tc, va, vc, rfl, hA, hvl, hP, hV, hb3⟩
  have hs3 := hb3.size
  replace hR := (hb3.block w.heap.size (by omega)).trans hR
  have hB3 : Below w.heap.size w w3 := hB2.trans (hb3.mono (by omega))
  clear hB2 hb3 hr2
  unfold Piece.v
  go_upto_region 4 with fail
  have kb : Below w3.heap.size w3 (w3.alloc (.cells #[.int .i64 x.indent, .slice ra x.rules.length rc, .slice ca x.chunks.length cc, .slice sa x.spans.length sc, .slice ta x.ties.length tc] 29)) := (Below.refl _ _).alloc (Nat.le_refl _) _
  have hX0 := heap_alloc_new w3 (.cells #[.int .i64 x.indent, .slice ra x.rules.length rc, .slice ca x.chunks.length cc, .slice sa x.spans.length sc, .slice ta x.ties.length tc] 29)
  have hsz : w3.heap.size < (w3.alloc (.cells #[.int .i64 x.indent, .slice ra x.rules.length rc, .slice ca x.chunks.length cc, .slice sa x.spans.length sc, .slice ta x.ties.length tc] 29)).heap.size := by simp
  obtain ⟨P, hPe⟩ : ∃ P, Hid (P = w3.heap.size) := ⟨_, rfl⟩
  have hP1 : P ≤ w3.heap.size := Nat.le_of_eq hPe.out
  have hP2 : w3.heap.size ≤ P := Nat.le_of_eq hPe.out.symm
  rw [← hPe.out] at hX0 ⊢
  have hX : PBox x ra rc ca cc sa sc ta tc P (w3.alloc (.cells #[.int .i64 x.indent, .slice ra x.rules.length rc, .slice ca x.chunks.length cc, .slice sa x.spans.length sc, .slice ta x.ties.length tc] 29)) := hX0
  clear hX0
  replace hP := (hP.below kb (Nat.le_refl _)).wide (lo' := w.heap.size + 1) (hi' := (w3.alloc (.cells #[.int .i64 x.indent, .slice ra x.rules.length rc, .slice ca x.chunks.length cc, .slice sa x.spans.length sc, .slice ta x.ties.length tc] 29)).heap.size) (by omega) (by omega)
  replace hV := (hV.below kb (Nat.le_refl _)).wide (lo' := w.heap.size + 1) (hi' := (w3.alloc (.cells #[.int .i64 x.indent, .slice ra x.rules.length rc, .slice ca x.chunks.length cc, .slice sa x.spans.length sc, .slice ta x.ties.length tc] 29)).heap.size) (by omega) (by omega)
  replace hR := blk kb hR
  have hB4 := hB3.trans (kb.mono (by omega))
  clear hB3 kb
  generalize w3.alloc (.cells #[.int .i64 x.indent, .slice ra x.rules.length rc, .slice ca x.chunks.length cc, .slice sa x.spans.length sc, .slice ta x.ties.length tc] 29) = wq at *
  obtain ⟨p0, p1, p2, p3, p4⟩ := hX.five
  have hL := hV.lenEq
  obtain ⟨n, rfl⟩ := Int.eq_ofNat_of_zero_le q1
  by_cases hn : n < vs.length
  · have hni : (n : Int) < (vs.length : Int) := by omega
    have hni2 : n ≤ vs.length := by omega
    have hnc : n ≤ vc := by omega
    have hni3 : (n : Int) ≤ (vc : Int) := by omega
    have hTl : (vs.take n).length = n := by rw [List.length_take]; omega
    have hT : Rd intF.shape (w.heap.size + 1) wq.heap.size wq (.slice va (vs.take n).length vc) (vs.take n) := by
      rw [hTl]; exact hV.take hni2
    obtain ⟨b, off, rfl, -, -, -⟩ := (at_int hV).2 n hn
    go_upto_region 6 with fail
    clear hL hnc hni3 hni hn
    replace hTl := Lib.hid hTl
    have z0 := cell_heap (j := 0) hR rfl
    have z1 := cell_heap (j := 1) hR rfl
    have z2 := cell_heap (j := 2) hR rfl
    have z3 := cell_heap (j := 3) hR rfl
    have z4 := cell_heap (j := 4) hR rfl
    have f0 := frozen_heap (j := 0) hR
    have f1 := frozen_heap (j := 1) hR
    have f2 := frozen_heap (j := 2) hR
    have f3 := frozen_heap (j := 3) hR
    have f4 := frozen_heap (j := 4) hR
    go_wp2
    change bodyPost _ _ _ _ _ (storeAll w.heap.size [.int .i64 x.indent, .slice ra x.rules.length rc, .slice ca x.chunks.length cc, .slice sa x.spans.length sc, .slice ta x.ties.length tc] 0 wq)
    clear p0 p1 p2 p3 p4 z0 z1 z2 z3 z4 f0 f1 f2 f3 f4
    obtain ⟨q0, q1, q2, q3, q4⟩ := stored5 hR [.int .i64 x.indent, .slice ra x.rules.length rc, .slice ca x.chunks.length cc, .slice sa x.spans.length sc, .slice ta x.ties.length tc] rfl
    have hBe : Below w.heap.size wq (storeAll w.heap.size [.int .i64 x.indent, .slice ra x.rules.length rc, .slice ca x.chunks.length cc, .slice sa x.spans.length sc, .slice ta x.ties.length tc] 0 wq) := blw_storeAll (Below.refl _ _) (Nat.le_refl _) _ _
    have hSa : ∀ lo hi : Nat, (w.heap.size < lo ∨ hi ≤ w.heap.size) → Same lo hi wq (storeAll w.heap.size [.int .i64 x.indent, .slice ra x.rules.length rc, .slice ca x.chunks.length cc, .slice sa x.spans.length sc, .slice ta x.ties.length tc] 0 wq) := fun lo hi h => same_storeAllP h _ 0 _
    have hse := hBe.size
    generalize storeAll w.heap.size [.int .i64 x.indent, .slice ra x.rules.length rc, .slice ca x.chunks.length cc, .slice sa x.spans.length sc, .slice ta x.ties.length tc] 0 wq = wf at *
    refine bodyPost_ret (v := .tuple #[.agg #[.int .i64 x.indent, .slice ra x.rules.length rc, .slice ca x.chunks.length cc, .slice sa x.spans.length sc, .slice ta x.ties.length tc], .slice (some ⟨b, off, none⟩) n vc]) (by simp [results, Try.results24, go_sem, q0, q1, q2, q3, q4]) rfl ?_
    exact ⟨x, vs.take n, ra, rc, ca, cc, sa, sc, ta, tc, some ⟨b, off, none⟩, vc, by rw [hTl.out]; rfl, hA, by rw [List.length_take]; omega, (hP.same (hSa _ _ (.inl (by omega)))).wide (by omega) (by omega), (hT.same (hSa _ _ (.inl (by omega)))).wide (by omega) (by omega), hB4.trans hBe⟩
  · have hni : ¬ (n : Int) < (vs.length : Int) := by omega
    go_upto_region 6 with fail
    clear hL hni hn
    have z0 := cell_heap (j := 0) hR rfl
    have z1 := cell_heap (j := 1) hR rfl
    have z2 := cell_heap (j := 2) hR rfl
    have z3 := cell_heap (j := 3) hR rfl
    have z4 := cell_heap (j := 4) hR rfl
    have f0 := frozen_heap (j := 0) hR
    have f1 := frozen_heap (j := 1) hR
    have f2 := frozen_heap (j := 2) hR
    have f3 := frozen_heap (j := 3) hR
    have f4 := frozen_heap (j := 4) hR
    go_wp2
    change bodyPost _ _ _ _ _ (storeAll w.heap.size [.int .i64 x.indent, .slice ra x.rules.length rc, .slice ca x.chunks.length cc, .slice sa x.spans.length sc, .slice ta x.ties.length tc] 0 wq)
    clear p0 p1 p2 p3 p4 z0 z1 z2 z3 z4 f0 f1 f2 f3 f4
    obtain ⟨q0, q1, q2, q3, q4⟩ := stored5 hR [.int .i64 x.indent, .slice ra x.rules.length rc, .slice ca x.chunks.length cc, .slice sa x.spans.length sc, .slice ta x.ties.length tc] rfl
    have hBe : Below w.heap.size wq (storeAll w.heap.size [.int .i64 x.indent, .slice ra x.rules.length rc, .slice ca x.chunks.length cc, .slice sa x.spans.length sc, .slice ta x.ties.length tc] 0 wq) := blw_storeAll (Below.refl _ _) (Nat.le_refl _) _ _
    have hSa : ∀ lo hi : Nat, (w.heap.size < lo ∨ hi ≤ w.heap.size) → Same lo hi wq (storeAll w.heap.size [.int .i64 x.indent, .slice ra x.rules.length rc, .slice ca x.chunks.length cc, .slice sa x.spans.length sc, .slice ta x.ties.length tc] 0 wq) := fun lo hi h => same_storeAllP h _ 0 _
    have hse := hBe.size
    generalize storeAll w.heap.size [.int .i64 x.indent, .slice ra x.rules.length rc, .slice ca x.chunks.length cc, .slice sa x.spans.length sc, .slice ta x.ties.length tc] 0 wq = wf at *
    refine bodyPost_ret (v := .tuple #[.agg #[.int .i64 x.indent, .slice ra x.rules.length rc, .slice ca x.chunks.length cc, .slice sa x.spans.length sc, .slice ta x.ties.length tc], .slice va vs.length vc]) (by simp [results, Try.results24, go_sem, q0, q1, q2, q3, q4]) rfl ?_
    exact ⟨x, vs, ra, rc, ca, cc, sa, sc, ta, tc, va, vc, rfl, hA, hvl, (hP.same (hSa _ _ (.inl (by omega)))).wide (by omega) (by omega), (hV.same (hSa _ _ (.inl (by omega)))).wide (by omega) (by omega), hB4.trans hBe⟩
set_option maxHeartbeats 1000000 in
set_option maxRecDepth 100000 in
theorem drawTies_any {lo hi : Nat} {xs : List Int} {w : World} {v : Value} (hr : Rd bytS lo hi w v xs) (hh : hi ≤ w.heap.size) (hx : ∀ x ∈ xs, U8 x) (hl : xs.length ≤ 1048576) :
    Calls Try.prog 25 #[v] w fun e w' => ∃ (x : Piece) (vs : List Int) (ra : Option Addr) (rc : Nat) (ca : Option Addr) (cc : Nat) (sa : Option Addr) (sc : Nat) (ta : Option Addr) (tc : Nat) (va : Option Addr) (vc : Nat), e = .returned (.tuple #[x.v ra rc ca cc sa sc ta tc, .slice va vs.length vc]) ∧ AnyP x ∧ vs.length ≤ 10 ∧ PFour x ra rc ca cc sa sc ta tc w.heap.size w'.heap.size w' ∧ Rd intF.shape w.heap.size w'.heap.size w' (.slice va vs.length vc) vs ∧ Below w.heap.size w w' := by
  go_enter Try.func25, Try.ntmps25
  go_upto_region 1 with fail
  have hR0 := heap_alloc_new w (.cells #[.int .i64 0, .slice none 0 0, .slice none 0 0, .slice none 0 0, .slice none 0 0] 29)
  have hb0 : Below w.heap.size w (w.alloc (.cells #[.int .i64 0, .slice none 0 0, .slice none 0 0, .slice none 0 0, .slice none 0 0] 29)) := (Below.refl _ _).alloc (Nat.le_refl _) _
  have hs0 : w.heap.size < (w.alloc (.cells #[.int .i64 0, .slice none 0 0, .slice none 0 0, .slice none 0 0, .slice none 0 0] 29)).heap.size := by simp
  have hr0 := hr.below hb0 hh
  generalize w.alloc (.cells #[.int .i64 0, .slice none 0 0, .slice none 0 0, .slice none 0 0, .slice none 0 0] 29) = w0 at *
  go_wp2_with fail
  refine (drawBound_any hr0 (by omega) hx hl).mono ?_
  rintro e wr ⟨x, vs, ra, rc, ca, cc, sa, sc, ta, tc, va, vc, rfl, hA, hvl, hP, hV, hb3⟩
  have hR := (hb3.block w.heap.size (by omega)).trans hR0
  have hB4 := hb0.trans (hb3.mono (by omega))
  have hs3 := hb3.size
  clear hb0 hb3 hR0
  unfold Piece.v
  have p0 := 0
  have p1 := 0
  have p2 := 0
  have p3 := 0
  have p4 := 0
  have z0 := cell_heap (j := 0) hR rfl
  have z1 := cell_heap (j := 1) hR rfl
  have z2 := cell_heap (j := 2) hR rfl
  have z3 := cell_heap (j := 3) hR rfl
  have z4 := cell_heap (j := 4) hR rfl
  have f0 := frozen_heap (j := 0) hR
  have f1 := frozen_heap (j := 1) hR
  have f2 := frozen_heap (j := 2) hR
  have f3 := frozen_heap (j := 3) hR
  have f4 := frozen_heap (j := 4) hR
  go_wp2
  change bodyPost _ _ _ _ _ (storeAll w.heap.size [.int .i64 x.indent, .slice ra x.rules.length rc, .slice ca x.chunks.length cc, .slice sa x.spans.length sc, .slice ta x.ties.length tc] 0 wr)
  clear p0 p1 p2 p3 p4 z0 z1 z2 z3 z4 f0 f1 f2 f3 f4
  obtain ⟨q0, q1, q2, q3, q4⟩ := stored5 hR [.int .i64 x.indent, .slice ra x.rules.length rc, .slice ca x.chunks.length cc, .slice sa x.spans.length sc, .slice ta x.ties.length tc] rfl
  have hBe : Below w.heap.size wr (storeAll w.heap.size [.int .i64 x.indent, .slice ra x.rules.length rc, .slice ca x.chunks.length cc, .slice sa x.spans.length sc, .slice ta x.ties.length tc] 0 wr) := blw_storeAll (Below.refl _ _) (Nat.le_refl _) _ _
  have hSa : ∀ lo hi : Nat, (w.heap.size < lo ∨ hi ≤ w.heap.size) → Same lo hi wr (storeAll w.heap.size [.int .i64 x.indent, .slice ra x.rules.length rc, .slice ca x.chunks.length cc, .slice sa x.spans.length sc, .slice ta x.ties.length tc] 0 wr) := fun lo hi h => same_storeAllP h _ 0 _
  have hse := hBe.size
  generalize storeAll w.heap.size [.int .i64 x.indent, .slice ra x.rules.length rc, .slice ca x.chunks.length cc, .slice sa x.spans.length sc, .slice ta x.ties.length tc] 0 wr = wf at *
  refine bodyPost_ret (v := .tuple #[.agg #[.int .i64 x.indent, .slice ra x.rules.length rc, .slice ca x.chunks.length cc, .slice sa x.spans.length sc, .slice ta x.ties.length tc], .slice va vs.length vc]) (by simp [results, Try.results25, go_sem, q0, q1, q2, q3, q4]) rfl ?_
  exact ⟨x, vs, ra, rc, ca, cc, sa, sc, ta, tc, va, vc, rfl, hA, hvl, (hP.same (hSa _ _ (.inl (by omega)))).wide (by omega) (by omega), (hV.same (hSa _ _ (.inl (by omega)))).wide (by omega) (by omega), hB4.trans hBe⟩
end Go.Proofs.Ytllpgomloblfjaa
