/- Values that are drawn for a piece. -/
import Derived.Test.YtllpgomloblfjaaDrawC
import Derived.Test.YtllpgomloblfjaaDrawQ
import Derived.Test.YtllpgomloblfjaaBestP
namespace Go.Proofs.Ytllpgomloblfjaa
open Go.RowKit

theorem below_out {C g : Nat} {w0 w w' : World} (h : Out g (g + 1) w0 w) (hb : Below C w w') (hC : w0.heap.size ≤ C) : Out g (g + 1) w0 w' := h.then hb hC
set_option maxHeartbeats 2000000 in
set_option maxRecDepth 100000 in
theorem l08Values_any {g lo hi plo phi : Nat} {xs : List Int} {w : World} (hc : Cur g lo hi xs w) (x : Piece) (ra ca sa ta : Option Addr) (rc cc sc tc : Nat) (hr : Rd ruleF.shape plo phi w (.slice ra x.rules.length rc) x.rules) (hh : phi ≤ w.heap.size) (hfg : phi ≤ g ∨ g + 1 ≤ plo) (hl : x.rules.length ≤ 9) (hv : ∀ r ∈ x.rules, r.values ≤ 4) :
    Calls Try.prog 112 #[.pointer (some ⟨g, 0, none⟩), x.v ra rc ca cc sa sc ta tc] w fun e w' => ∃ (u : Value) (vs : List Int), e = .returned u ∧ vs.length ≤ 10 ∧ Own intF 3 w.heap.size w'.heap.size w' u vs ∧ Out g (g + 1) w w' ∧ Cur g lo hi xs w' := by
  obtain ⟨i0, hi0, hz0, hz1, hz2⟩ := info_parts Try.infoIntQ
  have hgl := hc.lt
  obtain ⟨BX, HX⟩ : ∃ B, Hid (B = w.heap.size) := ⟨_, rfl⟩
  have hX1 : BX ≤ w.heap.size := Nat.le_of_eq HX.out
  have hX2 : w.heap.size ≤ BX := Nat.le_of_eq HX.out.symm
  unfold Piece.v
  go_enter Try.func112, Try.ntmps112
  go_upto_region 2 with fail
  have hk : Below w.heap.size w ((w.alloc (.cells #[.int .i64 x.indent, .slice ra x.rules.length rc, .slice ca x.chunks.length cc, .slice sa x.spans.length sc, .slice ta x.ties.length tc] 29)).alloc (.cells #[] 3)) := ((Below.refl _ _).alloc (Nat.le_refl _) _).alloc (by simp) _
  have hB0 : ((w.alloc (.cells #[.int .i64 x.indent, .slice ra x.rules.length rc, .slice ca x.chunks.length cc, .slice sa x.spans.length sc, .slice ta x.ties.length tc] 29)).alloc (.cells #[] 3)).heap[w.heap.size]? = some (.cells #[.int .i64 x.indent, .slice ra x.rules.length rc, .slice ca x.chunks.length cc, .slice sa x.spans.length sc, .slice ta x.ties.length tc] 29) := by
    have h := heap_alloc_new w (.cells #[.int .i64 x.indent, .slice ra x.rules.length rc, .slice ca x.chunks.length cc, .slice sa x.spans.length sc, .slice ta x.ties.length tc] 29)
    rwa [← (show Below (w.heap.size + 1) (w.alloc (.cells #[.int .i64 x.indent, .slice ra x.rules.length rc, .slice ca x.chunks.length cc, .slice sa x.spans.length sc, .slice ta x.ties.length tc] 29)) ((w.alloc (.cells #[.int .i64 x.indent, .slice ra x.rules.length rc, .slice ca x.chunks.length cc, .slice sa x.spans.length sc, .slice ta x.ties.length tc] 29)).alloc (.cells #[] 3)) from (Below.refl _ _).alloc (by simp) _).block w.heap.size (by omega)] at h
  have hsz : ((w.alloc (.cells #[.int .i64 x.indent, .slice ra x.rules.length rc, .slice ca x.chunks.length cc, .slice sa x.spans.length sc, .slice ta x.ties.length tc] 29)).alloc (.cells #[] 3)).heap.size = w.heap.size + 2 := by simp
  have hE := Own.empty intF 3 (w.heap.size + 1) (w.alloc (.cells #[.int .i64 x.indent, .slice ra x.rules.length rc, .slice ca x.chunks.length cc, .slice sa x.spans.length sc, .slice ta x.ties.length tc] 29)) (by simp)
  have hes : (w.alloc (.cells #[.int .i64 x.indent, .slice ra x.rules.length rc, .slice ca x.chunks.length cc, .slice sa x.spans.length sc, .slice ta x.ties.length tc] 29)).heap.size = w.heap.size + 1 := by simp
  rw [hes] at hE
  rw [← HX.out] at hB0 hE ⊢
  have hX : PBox x ra rc ca cc sa sc ta tc BX ((w.alloc (.cells #[.int .i64 x.indent, .slice ra x.rules.length rc, .slice ca x.chunks.length cc, .slice sa x.spans.length sc, .slice ta x.ties.length tc] 29)).alloc (.cells #[] 3)) := hB0
  clear hB0 hes
  have ho0 : Out g (g + 1) w ((w.alloc (.cells #[.int .i64 x.indent, .slice ra x.rules.length rc, .slice ca x.chunks.length cc, .slice sa x.spans.length sc, .slice ta x.ties.length tc] 29)).alloc (.cells #[] 3)) := Out.of_below hk
  have hc0 := hc.below hk hgl
  have hR0 := hr.below hk hh
  generalize (w.alloc (.cells #[.int .i64 x.indent, .slice ra x.rules.length rc, .slice ca x.chunks.length cc, .slice sa x.spans.length sc, .slice ta x.ties.length tc] 29)).alloc (.cells #[] 3) = w0 at *
  clear hk hc hr
  obtain ⟨C, HC⟩ : ∃ C, Hid (C = w0.heap.size) := ⟨_, rfl⟩
  have hC1 : C ≤ w0.heap.size := Nat.le_of_eq HC.out
  have hC2 : w0.heap.size ≤ C := Nat.le_of_eq HC.out.symm
  have hBC : BX + 2 ≤ C := by omega
  have hOE : OutE intF 3 (BX + 1) C w0 (.slice (some ⟨BX + 1, 0, none⟩) 0 0) [] := .inr ⟨rfl, ⟨_, rfl⟩, hE.wide (Nat.le_refl _) hC2⟩
  clear hE hsz
  go_wp2
  go_loopw [5, 6] (fun out i wr => ∃ (k : Nat) (ys : List Int), k ≤ x.rules.length ∧ i = .int .i64 k ∧ ys.length = k ∧ Out g (g + 1) w wr ∧ Cur g lo hi xs wr ∧ C ≤ wr.heap.size ∧ OutE intF 3 (BX + 1) C wr out ys ∧ PBox x ra rc ca cc sa sc ta tc BX wr ∧ Rd ruleF.shape plo phi wr (.slice ra x.rules.length rc) x.rules) (fun _ i _ => x.rules.length - (intOf i).toNat)
  case atStart => exact ⟨0, [], Nat.zero_le _, rfl, rfl, ho0, hc0, hC1, hOE, hX, hR0⟩
  case round =>
    clear hX hR0 ho0 hc0 hOE
    obtain ⟨k, ys, hk, rfl, hyl, ho, hcu, hCw, hO, hX, hR⟩ := hrel
    obtain ⟨p0, p1, p2, p3, p4⟩ := hX.five
    by_cases hlt : k < x.rules.length
    · have hki : (k : Int) < x.rules.length := by omega
      obtain ⟨b, off, rfl, hlo, hhi, c0, -⟩ := (at_rule hR).2 k hlt
      have hvm := hv _ (List.getElem_mem hlt)
      generalize hm : x.rules[k].values = m at *
      clear hm
      by_cases hm1 : m < 1
      · go_wp2_with fail
        refine (l01Below_any (n := 1) hcu (by omega) (by omega)).mono ?_
        rintro e w4 ⟨q, rfl, q1, q2, ho4, hc4⟩
        have hs4 := ho4.size
        have hO4 := hO.out ho4 (by omega) (by omega) hCw
        have hX4 := (ho4.block BX (by omega) (by omega)).trans hX
        have hR4 := hR.same (ho4.same (by omega) hfg)
        go_wp2_with (at_builtin; refine wp_app1e (F := intF) (P := Try.prog) (y := q) rfl (.tmp 24) (.tmp 28) 32 rfl Try.underlying32 hi0 hz0 hz1 hz2 rfl (by decide) rfl (hO4.keep (w' := w4.alloc _) ((Below.refl _ _).alloc (Nat.le_refl _) _) (by omega)) w4.heap.size rfl (heap_alloc_new _ _) rfl (by omega) (by omega) (by simp; omega) ?_; intro v' w' hO' hb')
        have hbs : Below C w4 w' := ((Below.refl C w4).alloc (by omega) _).trans hb'
        have hsw := hbs.size
        go_roundw
        case rel => exact ⟨k + 1, ys ++ [q], by omega, by go_num, by simp; omega, (ho.trans ho4).then hbs (by omega), hc4.below hbs (by omega), by omega, hO', (hbs.block BX (by omega)).trans hX4, hR4.below hbs (by omega)⟩
        case measure => simp [intOf]; omega
      · have hm2 : ¬ m < 1 := hm1
        go_wp2_with fail
        refine (l01Below_any (n := m) hcu (by omega) (by omega)).mono ?_
        rintro e w4 ⟨q, rfl, q1, q2, ho4, hc4⟩
        have hs4 := ho4.size
        have hO4 := hO.out ho4 (by omega) (by omega) hCw
        have hX4 := (ho4.block BX (by omega) (by omega)).trans hX
        have hR4 := hR.same (ho4.same (by omega) hfg)
        go_wp2_with (at_builtin; refine wp_app1e (F := intF) (P := Try.prog) (y := q) rfl (.tmp 24) (.tmp 28) 32 rfl Try.underlying32 hi0 hz0 hz1 hz2 rfl (by decide) rfl (hO4.keep (w' := w4.alloc _) ((Below.refl _ _).alloc (Nat.le_refl _) _) (by omega)) w4.heap.size rfl (heap_alloc_new _ _) rfl (by omega) (by omega) (by simp; omega) ?_; intro v' w' hO' hb')
        have hbs : Below C w4 w' := ((Below.refl C w4).alloc (by omega) _).trans hb'
        have hsw := hbs.size
        go_roundw
        case rel => exact ⟨k + 1, ys ++ [q], by omega, by go_num, by simp; omega, (ho.trans ho4).then hbs (by omega), hc4.below hbs (by omega), by omega, hO', (hbs.block BX (by omega)).trans hX4, hR4.below hbs (by omega)⟩
        case measure => simp [intOf]; omega
    · have hki : ¬ (k : Int) < x.rules.length := by omega
      obtain rfl : k = x.rules.length := by omega
      go_wp2_with fail
      refine (l01Below_any (n := 10) hcu (by omega) (by omega)).mono ?_
      rintro e w4 ⟨q, rfl, q1, q2, ho4, hc4⟩
      have hs4 := ho4.size
      have hO4 := hO.out ho4 (by omega) (by omega) hCw
      have hof := ho.trans ho4
      clear hO ho hcu hX hR p0 p1 p2 p3 p4
      rcases (by omega : q = 0 ∨ q = 1 ∨ 2 ≤ q) with rfl | rfl | hq2
      · go_wp2_with (at_builtin; refine wp_app1e (F := intF) (P := Try.prog) (y := (0 : Int)) rfl (.tmp 34) (.tmp 35) 32 rfl Try.underlying32 hi0 hz0 hz1 hz2 rfl (by decide) rfl (hO4.keep (w' := w4.alloc _) ((Below.refl _ _).alloc (Nat.le_refl _) _) (by omega)) w4.heap.size rfl (heap_alloc_new _ _) rfl (by omega) (by omega) (by simp; omega) ?_; intro v' w' hO' hb')
        have hbs : Below C w4 w' := ((Below.refl C w4).alloc (by omega) _).trans hb'
        have hsw := hbs.size
        go_wp2
        go_ret
        have hw := (hO'.own (by omega) (by omega)).wide (lo' := w.heap.size) (by omega) (Nat.le_refl _)
        exact ⟨v', _, rfl, by simp; omega, hw, hof.then hbs (by omega), hc4.below hbs (by omega)⟩
      · have hw0 := hO4.own (by omega) (by omega)
        obtain ⟨a, c, rfl, -, -, hG⟩ := hw0.form
        have HYL := Lib.hid hyl
        have hyl9 : ys.length ≤ 9 := by omega
        clear hyl
        by_cases h0 : 0 < ys.length
        · obtain ⟨G, rfl, hG1, hG2⟩ := hG h0
          have h0i : (0 : Int) < (ys.length : Int) := by omega
          go_upto_region 14 with fail
          have hrl := rd_lit intF w4 [-1, 3] #[.int .i64 (-1), .int .i64 3] 3 rfl (by decide)
          have hbl : Below w4.heap.size w4 (w4.alloc (.cells #[.int .i64 (-1), .int .i64 3] 3)) := (Below.refl _ _).alloc (Nat.le_refl _) _
          have hcl := hc4.below hbl (by omega)
          have hol := hof.then hbl (by omega)
          have hwl := (hw0.below hbl (Nat.le_refl _)).wide (Nat.le_refl _) hbl.size
          have hsl : (w4.alloc (.cells #[.int .i64 (-1), .int .i64 3] 3)).heap.size = w4.heap.size + 1 := by simp
          go_wp2_with fail
          generalize w4.alloc (.cells #[.int .i64 (-1), .int .i64 3] 3) = wl at *
          refine (l01PickInt_any hcl hrl (by omega) (.inr (by omega)) (by decide) (by decide)).mono ?_
          rintro e w5 ⟨q, rfl, -, ho5, hc5⟩
          have hw5 := (hwl.same (ho5.same (by omega) (.inr (by omega)))).wide (Nat.le_refl _) ho5.size
          have hrow : w5.cell? ⟨G, 0, none⟩ = some (.int .i64 (ys[0]'h0)) := hw5.cell (k := 0) (j := 0) rfl h0 (by decide)
          have hfz : w5.frozen? ⟨G, 0, none⟩ = false := hw5.frozen rfl 0
          have hS2 : Own intF 3 (BX + 1) w5.heap.size (w5.setCell ⟨G, 0, none⟩ (.int .i64 q)) (.slice (some ⟨G, 0, none⟩) ys.length c) (ys.set 0 q) := hw5.set (k := 0) (j := 0) (x := q) rfl h0 (by decide) rfl
          have hBG : Below G w5 (w5.setCell ⟨G, 0, none⟩ (.int .i64 q)) := (Below.refl _ _).setCell (p := ⟨G, 0, none⟩) (Nat.le_refl _) _
          have hzz : (w5.setCell ⟨G, 0, none⟩ (.int .i64 q)).heap.size = w5.heap.size := by simp [World.setCell]
          have hs5 := ho5.size
          go_wp2
          go_ret
          refine ⟨.slice (some ⟨G, 0, none⟩) ys.length c, ys.set 0 q, rfl, ?_, ?_, ?_, hc5.below hBG (by omega)⟩
          · rw [List.length_set]; omega
          · have := hS2.wide (lo' := w.heap.size) (hi' := (w5.setCell ⟨G, 0, none⟩ (.int .i64 q)).heap.size) (by omega) (by omega)
            exact this
          · exact (hol.trans ho5).then hBG (by omega)
        · obtain rfl : ys = [] := List.eq_nil_of_length_eq_zero (by omega)
          have hw := hw0.wide (lo' := w.heap.size) (by omega) (Nat.le_refl _)
          go_wp2
          go_ret
          exact ⟨_, [], rfl, by simp, hw, hof, hc4⟩
      · have n0 : ¬ q = 0 := by omega
        have n1 : ¬ q = 1 := by omega
        have hw := (hO4.own (by omega) (by omega)).wide (lo' := w.heap.size) (by omega) (Nat.le_refl _)
        go_wp2
        go_ret
        exact ⟨_, ys, rfl, by omega, hw, hof, hc4⟩
end Go.Proofs.Ytllpgomloblfjaa
