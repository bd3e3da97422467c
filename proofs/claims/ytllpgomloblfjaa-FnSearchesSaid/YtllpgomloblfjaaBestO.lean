/- The cheapest of all values, of both. -/
import Derived.Test.YtllpgomloblfjaaBestN
import Derived.Test.YtllpgomloblfjaaValS
import Derived.Test.YtllpgomloblfjaaHuntH
import Derived.Deep.LoopGhost
namespace Go.Proofs.Ytllpgomloblfjaa
open Go.RowKit

theorem own_apart {α : Type} {F : Flat α} {T lo hi V : Nat} {w w' : World} {v : Value} {xs : List α} (h : Own F T lo hi w v xs) (hn : v.ownBlock ≠ some V) (hh : hi ≤ w.heap.size) (ho : Out V (V + 1) w w') : Own F T lo hi w' v xs := by
  rcases h.1.2 with ⟨rfl, hz⟩ | ⟨g1, c1, cur1, rfl, hb1, hh1, rest⟩
  · obtain rfl := List.eq_nil_of_length_eq_zero hz
    exact Own.nil _ _ _ _ _
  · refine ⟨⟨h.1.1, .inr ⟨g1, c1, cur1, rfl, hb1, ?_, rest⟩⟩, h.2⟩
    have hlt : g1 < hi := h.2 g1 rfl
    refine (ho.block g1 (by omega) fun c => hn ?_).trans hh1
    obtain rfl : g1 = V := by omega
    rfl
theorem own_nar {α : Type} {F : Flat α} {T lo hi V n c : Nat} {w : World} {xs : List α} (h : Own F T lo hi w (.slice (some ⟨V, 0, none⟩) n c) xs) : Own F T V (V + 1) w (.slice (some ⟨V, 0, none⟩) n c) xs := by
  rcases h.1.2 with ⟨e, _⟩ | ⟨g1, c1, cur1, e, hb1, hh1, rest⟩
  · cases e
  · obtain rfl : V = g1 := by injection e with e _ _; injection e with e; injection e with e
    exact ⟨⟨h.1.1, .inr ⟨V, c1, cur1, e, Nat.le_refl _, hh1, rest⟩⟩, fun g' hg' => by obtain rfl : V = g' := Option.some.inj hg'; omega⟩
theorem two_set' {w : World} {b : Nat} {v0 v1 u0 u1 : Value} {T : TypeId} (h : w.heap[b]? = some (.cells #[v0, v1] T)) : ((w.setCell ⟨b, 0, none⟩ u0).setCell ⟨b, 1, none⟩ u1).heap[b]? = some (.cells #[u0, u1] T) := heap_set_same (heap_set_same h)
/-- what BestOf tells -/
def BestPost (x : Piece) (wd : Int) (w : World) (e : Ending) (w' : World) : Prop :=
  Below w.heap.size w w' ∧
  (pieceOk x = false → ∃ u, e = .returned (.tuple #[u, .agg #[.int .i64 0, .int .i64 0], .bool false]) ∧ Own intF 3 w.heap.size w'.heap.size w' u []) ∧
  (pieceOk x = true → ∃ u b, IsBest x wd b ∧ e = .returned (.tuple #[u, .agg #[.int .i64 (costR x b wd).over, .int .i64 (costR x b wd).sum], .bool true]) ∧ Own intF 3 w.heap.size w'.heap.size w' u b)
set_option maxHeartbeats 4000000 in
set_option maxRecDepth 100000 in
theorem bestOf_spec (x : Piece) (ra ca sa ta : Option Addr) (rc cc sc tc lo hi : Nat) (wd : Int) (w : World) (hp : PFour x ra rc ca cc sa sc ta tc lo hi w) (hh : hi ≤ w.heap.size) (hz : Sized x) :
    Calls Try.prog 13 #[x.v ra rc ca cc sa sc ta tc, .int .i64 wd] w (BestPost x wd w) := by
  obtain ⟨i0, hi0, hz0, hz1, hz2⟩ := info_parts Try.infoInt1
  have hT : ∀ c ∈ x.chunks, c.text.size ≤ maxLen := fun c hc => by have := hz.text c hc; unfold maxLen; omega
  have HPP := Lib.hid (fun (w2 : World) (h2 : Below w.heap.size w w2) => hp.below h2 hh)
  unfold Piece.v
  go_enter Try.func13, Try.ntmps13
  go_upto_region 1 with fail
  obtain ⟨hX0, hR0⟩ := heap_two w (.cells #[.int .i64 x.indent, .slice ra x.rules.length rc, .slice ca x.chunks.length cc, .slice sa x.spans.length sc, .slice ta x.ties.length tc] 29) (.cells #[.int .i64 0, .int .i64 0] 37)
  have hb0 : Below w.heap.size w ((w.alloc (.cells #[.int .i64 x.indent, .slice ra x.rules.length rc, .slice ca x.chunks.length cc, .slice sa x.spans.length sc, .slice ta x.ties.length tc] 29)).alloc (.cells #[.int .i64 0, .int .i64 0] 37)) := ((Below.refl _ _).alloc (Nat.le_refl _) _).alloc (by simp) _
  have hs0 : w.heap.size + 1 < ((w.alloc (.cells #[.int .i64 x.indent, .slice ra x.rules.length rc, .slice ca x.chunks.length cc, .slice sa x.spans.length sc, .slice ta x.ties.length tc] 29)).alloc (.cells #[.int .i64 0, .int .i64 0] 37)).heap.size := by simp
  generalize (w.alloc (.cells #[.int .i64 x.indent, .slice ra x.rules.length rc, .slice ca x.chunks.length cc, .slice sa x.spans.length sc, .slice ta x.ties.length tc] 29)).alloc (.cells #[.int .i64 0, .int .i64 0] 37) = w0 at *
  replace hX0 : PBox x ra rc ca cc sa sc ta tc w.heap.size w0 := hX0
  obtain ⟨p0, p1, p2, p3, p4⟩ := hX0.five
  have HPK := Lib.hid (pieceOk_spec x ra ca sa ta rc cc sc tc lo hi w0 (HPP.out w0 hb0) (by omega) hT)
  unfold Piece.v at HPK
  go_wp2_with fail
  refine HPK.out.mono ?_
  clear HPK p0 p1 p2 p3 p4
  rintro e w1 ⟨rfl, k1⟩
  have hb1 := hb0.trans (k1.mono (by omega))
  have hX1 := hX0.below k1
  have hR1 := blk k1 hR0
  have hs1 := k1.size
  clear hX0 hb0 hR0 k1
  cases g2 : pieceOk x with
  | false =>
    have hbE : Below w1.heap.size w1 (w1.alloc (.cells #[] 3)) := (Below.refl _ _).alloc (Nat.le_refl _) _
    have hR2 := blk hbE hR1
    obtain ⟨r0, r1⟩ := two_c hR2
    have g0 : (w1.alloc (.cells #[] 3)).frozen? ⟨w.heap.size + 1, 0, none⟩ = false := frozen_heap hR2
    have g1 : (w1.alloc (.cells #[] 3)).frozen? ⟨w.heap.size + 1, 1, none⟩ = false := frozen_heap hR2
    obtain ⟨q0, q1⟩ := two_c (two_set' (u0 := .int .i64 0) (u1 := .int .i64 0) hR2)
    have hO := Own.empty intF 3 w.heap.size w1 (by omega)
    have hBF : Below w.heap.size w (((w1.alloc (.cells #[] 3)).setCell ⟨w.heap.size + 1, 0, none⟩ (.int .i64 0)).setCell ⟨w.heap.size + 1, 1, none⟩ (.int .i64 0)) := ((hb1.trans (hbE.mono (by omega))).setCell (p := ⟨w.heap.size + 1, 0, none⟩) (Nat.le_succ _) _).setCell (p := ⟨w.heap.size + 1, 1, none⟩) (Nat.le_succ _) _
    have hOF : Own intF 3 w.heap.size (((w1.alloc (.cells #[] 3)).setCell ⟨w.heap.size + 1, 0, none⟩ (.int .i64 0)).setCell ⟨w.heap.size + 1, 1, none⟩ (.int .i64 0)).heap.size (((w1.alloc (.cells #[] 3)).setCell ⟨w.heap.size + 1, 0, none⟩ (.int .i64 0)).setCell ⟨w.heap.size + 1, 1, none⟩ (.int .i64 0)) (.slice (some ⟨w1.heap.size, 0, none⟩) 0 0) [] := by
      have hne : (Value.slice (some ⟨w1.heap.size, 0, none⟩) 0 0).ownBlock ≠ some (w.heap.size + 1) := fun e => by have e2 : w1.heap.size = w.heap.size + 1 := Option.some.inj e; omega
      exact ((hO.keepFar hne 0 (.int .i64 0)).keepFar hne 1 (.int .i64 0)).wide (Nat.le_refl _) (by simp [World.setCell])
    clear hO
    go_wp2_with fail
    refine bodyPost_ret (v := .tuple #[.slice (some ⟨w1.heap.size, 0, none⟩) 0 0, .agg #[.int .i64 0, .int .i64 0], .bool false]) (by simp [results, Try.results13, go_sem, q0, q1]) rfl ?_
    exact ⟨hBF, fun _ => ⟨_, rfl, hOF⟩, fun h => by rw [g2] at h; cases h⟩
  | true =>
  have hx := right_of g2
  have HG2 := Lib.hid g2
  clear g2
  obtain ⟨p0, p1, p2, p3, p4⟩ := hX1.five
  go_upto_region 6 with fail
  obtain ⟨C, hC⟩ : ∃ C, C = w1.heap.size + 1 := ⟨_, rfl⟩
  have hb2 : Below w1.heap.size w1 ((w1.alloc (.cells #[] 3)).alloc (.cells #[.int .i64 0, .int .i64 0] 37)) := ((Below.refl _ _).alloc (Nat.le_refl _) _).alloc (by simp) _
  have hC2 : ((w1.alloc (.cells #[] 3)).alloc (.cells #[.int .i64 0, .int .i64 0] 37)).heap[C]? = some (.cells #[.int .i64 0, .int .i64 0] 37) := by
    have h := heap_alloc_new (w1.alloc (.cells #[] 3)) (.cells #[.int .i64 0, .int .i64 0] 37)
    rwa [show (w1.alloc (.cells #[] 3)).heap.size = C by simp [hC]] at h
  have hs2 : ((w1.alloc (.cells #[] 3)).alloc (.cells #[.int .i64 0, .int .i64 0] 37)).heap.size = C + 1 := by simp [hC]
  have hE2 : Own intF 3 w1.heap.size ((w1.alloc (.cells #[] 3)).alloc (.cells #[.int .i64 0, .int .i64 0] 37)).heap.size ((w1.alloc (.cells #[] 3)).alloc (.cells #[.int .i64 0, .int .i64 0] 37)) (.slice (some ⟨w1.heap.size, 0, none⟩) 0 0) [] := ((Own.empty intF 3 w1.heap.size w1 (Nat.le_refl _)).alloc _).wide (Nat.le_refl _) (by simp)
  rw [← hC]
  generalize (w1.alloc (.cells #[] 3)).alloc (.cells #[.int .i64 0, .int .i64 0] 37) = w2 at *
  have HC1 : Hid (w1.heap.size + 1 = C) := hC.symm
  have HC2 := Lib.hid hs2
  clear hC hs2
  have hX2 := hX1.below hb2
  have hR2 := blk hb2 hR1
  have hB2 := hb1.trans (hb2.mono (by omega))
  clear hX1 hR1 hb1 p0 p1 p2 p3 p4
  obtain ⟨p0, p1, p2, p3, p4⟩ := hX2.five
  go_wp2_with (at_make; refine wpList_make_full _ rfl _ _ 32 rfl w2.heap.size 3 i0 _ 1 Try.underlying32 hi0 hz0 hz1 _ _ _ _ x.rules.length rfl rfl (by simp) (by simp) ?b1 ?b2 ?b3 ?_)
  case b1 => have := hx.rules; rw [hz2]; omega
  case b2 => have := hx.rules; unfold maxLen; omega
  case b3 => first | exact Nat.le_refl _ | (simp; done) | omega
  intro w3 hown hgr
  have hb3 : Below w2.heap.size w2 w3 := (Below.refl _ _).grown hgr (Nat.le_refl _) (fun k hk => by cases hk)
  have hV3 : Own intF 3 w2.heap.size w3.heap.size w3 (.slice (some ⟨w2.heap.size, 0, none⟩) x.rules.length x.rules.length) (List.replicate x.rules.length (0 : Int)) := by
    have h := made_cells intF (by decide) (0 : Int) #[.int .i64 0] rfl x.rules.length
    rw [show x.rules.length * intF.size = x.rules.length from Nat.mul_one _] at h
    exact Own.of_row hown (by simp) h (Nat.le_refl _)
  have hVl := (hV3.below_heap _ rfl).2.2
  replace hV3 := own_nar hV3
  have hs3 := hb3.size
  have hX3 := hX2.below hb3
  have hR3 := blk hb3 hR2
  have hC3 := blk hb3 hC2
  have hE3 := (hE2.below hb3 (Nat.le_refl _)).wide (Nat.le_refl _) hs3
  have hEV : (Value.slice (some ⟨w1.heap.size, 0, none⟩) 0 0).ownBlock ≠ some w2.heap.size := fun e => Nat.lt_irrefl _ (hE2.below_heap _ e).2.2
  have hB3 := hB2.trans (hb3.mono (by have := HC2.out; have := HC1.out; omega))
  have hLV : w1.heap.size ≤ w2.heap.size := by have := HC2.out; have := HC1.out; omega
  have hLC : w1.heap.size ≤ C := by have := HC1.out; omega
  have hCV : C ≠ w2.heap.size := by have := HC2.out; omega
  clear hown hgr hb3 hX2 hR2 hC2 hE2 hB2 hb2 p0 p1 p2 p3 p4 HC1 HC2
  generalize w2.heap.size = V at *
  have hs1L : w.heap.size + 1 < w1.heap.size := by omega
  clear hs1
  generalize w1.heap.size = L at *
  go_wp2_with fail
  go_loopg [7, 9, 11] (leftG (gapsL x.rules (List.replicate x.rules.length 0)) 0 + 1) (fun g bs so mo wr => ∃ (best : List Int) (c : CostL) (sm : Bool) (bv : SV), bs = bv.v ∧ so = .bool sm ∧ Own intF 3 L wr.heap.size wr bv.v best ∧ bv.v.ownBlock ≠ Option.some V ∧ wr.heap[C]? = Option.some (.cells #[.int .i64 c.over, .int .i64 c.sum] 37) ∧ Below L w3 wr ∧
    ((∃ v, mo = .bool true ∧ g = leftG (gapsL x.rules v) 0 + 1 ∧ Hid (FullV x v) ∧ Hid (BestSt x wd (fun u => cmpL u v < 0) best c sm) ∧ Own intF 3 V (V + 1) wr (.slice (Option.some ⟨V, 0, none⟩) x.rules.length x.rules.length) v) ∨
     (mo = .bool false ∧ g = 0 ∧ Hid (sm = true ∧ IsBest x wd best ∧ c = costR x best wd))))
  case atStart => exact ⟨[], ⟨0, 0⟩, false, (some ⟨L, 0, none⟩, 0, 0), rfl, rfl, hE3, hEV, hC3, Below.refl _ _, .inl ⟨_, rfl, rfl, zeros_full hx, bestSt_start wd _ _, hV3⟩⟩
  case round =>
    clear hE3 hV3 hC3 hEV
    obtain ⟨best, c, sm, bv, rfl, rfl, hO, hOV, hCr, hbr, hcase⟩ := hrel
    have hsr := hbr.size
    have hXr : PBox x ra rc ca cc sa sc ta tc w.heap.size wr := (hbr.block w.heap.size (by omega)).trans hX3
    have hRr := (hbr.block (w.heap.size + 1) hs1L).trans hR3
    have hBr := hB3.trans (hbr.mono (by omega))
    rcases hcase with ⟨v, rfl, hg, HF, HS, hV⟩ | ⟨rfl, hg, HE⟩
    · have hVr : V + 1 ≤ wr.heap.size := by omega
      have HFU := Lib.hid HF.out.full
      have hRV : Rd intF.shape V (V + 1) wr (.slice (some ⟨V, 0, none⟩) v.length x.rules.length) v := by rw [HFU.out]; exact hV.rd
      have HTH := tiesHold_spec x v ra ca sa ta (some ⟨V, 0, none⟩) rc cc sc tc x.rules.length lo hi V (V + 1) wr (HPP.out wr hBr) (by omega) hRV hVr hx HF.out
      rw [HFU.out] at HTH
      unfold Piece.v at HTH
      replace HTH := Lib.hid HTH
      obtain ⟨tm, htm⟩ : ∃ tm, Hid (tiesMay x.ties v = tm) := ⟨_, rfl⟩
      rw [htm.out] at HTH
      obtain ⟨p0, p1, p2, p3, p4⟩ := hXr.five
      go_wp2_with fail
      refine HTH.out.mono ?_
      clear HTH p0 p1 p2 p3 p4
      rintro e w4 ⟨rfl, k4⟩
      have hs4 := k4.size
      have hX4 := hXr.below (k4.mono (Nat.le_refl _))
      have hR4 := blk k4 hRr
      have hC4 := blk k4 hCr
      have hB4 := hBr.trans (k4.mono (by omega))
      have hb4 := hbr.trans (k4.mono (by omega))
      have hV4 := hV.below k4 (by omega)
      have hO4 := (hO.below k4 (Nat.le_refl _)).wide (Nat.le_refl _) hs4
      clear hXr hRr hCr hBr hbr hV hO k4
      obtain ⟨p0, p1, p2, p3, p4⟩ := hX4.five
      cases tm with
      | false =>
        have HS2 := Lib.hid (HS.out.skip htm.out)
        clear HS htm
        have HNX := l10Next_spec x v ra ca sa ta (some ⟨V, 0, none⟩) rc cc sc tc x.rules.length lo hi V (V + 1) w4 (HPP.out w4 hB4) (by omega) (by rw [HFU.out]; exact hV4) (Nat.le_succ _) (by omega) hx HF.out
        rw [HFU.out] at HNX
        unfold Piece.v at HNX
        replace HNX := Lib.hid HNX
        go_wp2_with fail
        refine HNX.out.mono ?_
        clear HNX p0 p1 p2 p3 p4
        rintro e wn ⟨hTn, hcn⟩
        have hsn := hTn.size
        have hbn := hb4.trans (hTn.below (by omega) (by omega))
        have hCn := (hTn.block C (by have := blk_lt hC4; omega) (by omega)).trans hC4
        have hOn := (own_apart hO4 hOV (Nat.le_refl _) hTn).wide (Nat.le_refl _) hsn
        clear hX4 hR4 hC4 hB4 hb4 hV4 hO4
        rcases hcn with ⟨rfl, v', hnv, hVn⟩ | ⟨rfl, hlv⟩
        · have HN := Lib.hid hnv
          clear hnv hTn
          go_wp2_with fail
          go_roundg (leftG (gapsL x.rules v') 0 + 1)
          case measure => have := HN.out.left HF.out hx; omega
          case rel => exact ⟨_, c, sm, bv, rfl, rfl, hOn, hOV, hCn, hbn, .inl ⟨v', rfl, rfl, HN.out.full HF.out hx, HS2.out.next HF.out HN.out, hVn⟩⟩
        · have HL := Lib.hid (HS2.out.last hx HF.out hlv)
          clear hlv hTn
          go_wp2_with fail
          go_roundg 0
          case measure => omega
          case rel => exact ⟨_, c, sm, bv, rfl, rfl, hOn, hOV, hCn, hbn, .inr ⟨rfl, rfl, (show _ ∧ _ from ⟨by first | exact HL.out.1 | rfl, HL.out.2⟩)⟩⟩
      | true =>
        have HCO := l09Cost_any x v ra ca sa ta (some ⟨V, 0, none⟩) rc cc sc tc x.rules.length lo hi V (V + 1) wd w4 (HPP.out w4 hB4) (by omega) (by rw [HFU.out]; exact hV4.rd) (by omega) hx (HF.out.right hx) HFU.out hz
        rw [HFU.out] at HCO
        unfold Piece.v at HCO
        obtain ⟨y, hy⟩ : ∃ y, Hid (costR x v wd = y) := ⟨_, rfl⟩
        rw [hy.out] at HCO
        replace HCO := Lib.hid HCO
        go_wp2_with fail
        refine HCO.out.mono ?_
        clear HCO p0 p1 p2 p3 p4
        rintro e w5 ⟨rfl, k5⟩
        have hCY : C < w5.heap.size := by have := blk_lt hC4; have := k5.size; omega
        go_upto_region 12 with fail
        have hY6 := heap_alloc_new w5 (.cells #[.int .i64 y.over, .int .i64 y.sum] 37)
        have k6 : Below w5.heap.size w5 (w5.alloc (.cells #[.int .i64 y.over, .int .i64 y.sum] 37)) := (Below.refl _ _).alloc (Nat.le_refl _) _
        have k46 := k5.trans (k6.mono k5.size)
        generalize w5.alloc (.cells #[.int .i64 y.over, .int .i64 y.sum] 37) = w6 at *
        have hYs := blk_lt hY6
        clear k5 k6
        generalize w5.heap.size = Y at *
        have hs6 := k46.size
        have hX6 := hX4.below (k46.mono (Nat.le_refl _))
        have hR6 := blk k46 hR4
        have hC6 := blk k46 hC4
        have hB6 := hB4.trans (k46.mono (by omega))
        have hb6 := hb4.trans (k46.mono (by omega))
        have hV6 := hV4.below k46 (by omega)
        have hO6 := (hO4.below k46 (Nat.le_refl _)).wide (Nat.le_refl _) hs6
        clear hX4 hR4 hC4 hB4 hb4 hV4 hO4 k46
        obtain ⟨y0, y1⟩ := two_c hY6
        obtain ⟨c0, c1⟩ := two_c hC6
        cases sm with
        | false =>
          have HS2 := Lib.hid (HS.out.take HF.out htm.out (fun h => by cases h))
          rw [hy.out] at HS2
          clear HS htm hy
          have hCl := blk_lt hC6
          have hv8 : v.length ≤ 8 := by have := HFU.out; have := hx.rules; omega
          have hRV9 : Rd intF.shape V (V + 1) w6 (.slice (some ⟨V, 0, none⟩) x.rules.length x.rules.length) v := hV6.rd
          have hV16 : V + 1 ≤ w6.heap.size := by omega
          clear y0 y1 c0 c1
          go_upto_region 14 with (at_builtin; refine wp_appAll (F := intF) (P := Try.prog) (ys := v) (lo' := V) (hi' := V + 1) rfl (.tmp 43) (.tmp 44) 32 rfl Try.underlying32 hi0 hz0 hz1 hz2 rfl (by decide) rfl (Own.empty intF 3 w6.heap.size w6 (Nat.le_refl _)) rfl (hRV9.below ((Below.refl _ _).alloc (Nat.le_refl _) _) hV16) (by simp; omega) (by simp; omega) (by simp) ?_; intro v9 w9 hO9 hb9)
          rw [List.nil_append] at hO9
          have k9 := blw_al1 hb9 (Nat.le_refl _)
          clear hb9
          have hvl9 : v9.ownBlock ≠ some V := fun e => by have := (hO9.below_heap _ e).1; omega
          have hvc9 : v9.ownBlock ≠ some C := fun e => by have := (hO9.below_heap _ e).1; omega
          obtain ⟨a9, c9, rfl, -, -, -⟩ := hO9.form
          have hs9 := k9.size
          have hX9 := hX6.below k9
          have hR9 := blk k9 hR6
          have hC9 := blk k9 hC6
          have hB9 := hB6.trans (k9.mono (by omega))
          have hb9' := hb6.trans (k9.mono (by omega))
          have hV9 := hV6.below k9 (by omega)
          have hY9 := blk k9 hY6
          have hXl := hX6.lt
          have hRl := blk_lt hR6
          have hYl := blk_lt hY6
          clear hX6 hR6 hC6 hB6 hb6 hV6 hO6 hY6
          obtain ⟨y0, y1⟩ := two_c hY9
          obtain ⟨c0, c1⟩ := two_c hC9
          have g0 : w9.frozen? ⟨C, 0, none⟩ = false := frozen_heap hC9
          have g1 : w9.frozen? ⟨C, 1, none⟩ = false := frozen_heap hC9
          have hTF : Out C (C + 1) w9 ((w9.setCell ⟨C, 0, none⟩ (.int .i64 y.over)).setCell ⟨C, 1, none⟩ (.int .i64 y.sum)) := ((Out.refl _ _ _).setCell (p := ⟨C, 0, none⟩) (Nat.le_refl _) (Nat.lt_succ_self _) _).setCell (p := ⟨C, 1, none⟩) (Nat.le_refl _) (Nat.lt_succ_self _) _
          have hX10 : PBox x ra rc ca cc sa sc ta tc w.heap.size ((w9.setCell ⟨C, 0, none⟩ (.int .i64 y.over)).setCell ⟨C, 1, none⟩ (.int .i64 y.sum)) := (hTF.block w.heap.size (by omega) (by omega)).trans hX9
          have hR10 := (hTF.block (w.heap.size + 1) (by omega) (by omega)).trans hR9
          have hC10 := two_set' (u0 := .int .i64 y.over) (u1 := .int .i64 y.sum) hC9
          have hB10 := hB9.trans (hTF.below (show w.heap.size ≤ C by omega) (by omega))
          have hb10 := hb9'.trans (hTF.below hLC (by omega))
          have hV10 := hV9.same (hTF.same (by omega) (by omega))
          have hs10 := hTF.size
          have hO10 := (own_apart hO9 hvc9 (Nat.le_refl _) hTF).wide (show L ≤ w6.heap.size by omega) hs10
          have hY10 := (hTF.block Y (by omega) (by omega)).trans hY9
          clear y0 y1
          obtain ⟨y0, y1⟩ := two_c hY9
          go_upto_region 15 with fail
          clear y0 y1
          clear hTF hX9 hR9 hC9 hB9 hb9' hV9 hO9 hY9 hY10 c0 c1 g0 g1
          generalize ((w9.setCell ⟨C, 0, none⟩ (.int .i64 y.over)).setCell ⟨C, 1, none⟩ (.int .i64 y.sum)) = w10 at *
          have HNX := l10Next_spec x v ra ca sa ta (some ⟨V, 0, none⟩) rc cc sc tc x.rules.length lo hi V (V + 1) w10 (HPP.out w10 hB10) (by omega) (by rw [HFU.out]; exact hV10) (Nat.le_succ _) (by omega) hx HF.out
          rw [HFU.out] at HNX
          unfold Piece.v at HNX
          replace HNX := Lib.hid HNX
          obtain ⟨p0, p1, p2, p3, p4⟩ := hX10.five
          go_wp2_with fail
          refine HNX.out.mono ?_
          clear HNX p0 p1 p2 p3 p4
          rintro e wn ⟨hTn, hcn⟩
          have hsn := hTn.size
          have hbn := hb10.trans (hTn.below (by omega) (by omega))
          have hCn := (hTn.block C (by have := blk_lt hC10; omega) (by omega)).trans hC10
          have hOn := (own_apart hO10 hvl9 (Nat.le_refl _) hTn).wide (Nat.le_refl _) hsn
          clear hX10 hR10 hC10 hB10 hb10 hV10 hO10
          rcases hcn with ⟨rfl, v', hnv, hVn⟩ | ⟨rfl, hlv⟩
          · have HN := Lib.hid hnv
            clear hnv hTn
            go_wp2_with fail
            go_roundg (leftG (gapsL x.rules v') 0 + 1)
            case measure => have := HN.out.left HF.out hx; omega
            case rel => exact ⟨_, y, true, (a9, v.length, c9), rfl, rfl, hOn, hvl9, hCn, hbn, .inl ⟨v', rfl, rfl, HN.out.full HF.out hx, HS2.out.next HF.out HN.out, hVn⟩⟩
          · have HL := Lib.hid (HS2.out.last hx HF.out hlv)
            clear hlv hTn
            go_wp2_with fail
            go_roundg 0
            case measure => omega
            case rel => exact ⟨_, y, true, (a9, v.length, c9), rfl, rfl, hOn, hvl9, hCn, hbn, .inr ⟨rfl, rfl, (show _ ∧ _ from ⟨by first | exact HL.out.1 | rfl, HL.out.2⟩)⟩⟩
        | true =>
          have HCL := Lib.hid (costLess_spec y c w6)
          obtain ⟨cl, hcl⟩ : ∃ cl, Hid (costLess y c = cl) := ⟨_, rfl⟩
          rw [hcl.out] at HCL
          go_wp2_with fail
          refine HCL.out.mono ?_
          clear HCL y0 y1 c0 c1
          rintro e w7 ⟨rfl, k7⟩
          have hY7 := blk k7 hY6
          clear hY6
          have hs7 := k7.size
          have hX7 := hX6.below (k7.mono (Nat.le_refl _))
          have hR7 := blk k7 hR6
          have hC7 := blk k7 hC6
          have hB7 := hB6.trans (k7.mono (by omega))
          have hb7 := hb6.trans (k7.mono (by omega))
          have hV7 := hV6.below k7 (by omega)
          have hO7 := (hO6.below k7 (Nat.le_refl _)).wide (Nat.le_refl _) hs7
          clear hX6 hR6 hC6 hB6 hb6 hV6 hO6 k7
          obtain ⟨y0, y1⟩ := two_c hY7
          obtain ⟨c0, c1⟩ := two_c hC7
          cases cl with
          | false =>
            have HS2 := Lib.hid (HS.out.stay (by rw [hy.out]; exact hcl.out))
            clear HS htm hy hcl y0 y1 c0 c1 hY7
            have HNX := l10Next_spec x v ra ca sa ta (some ⟨V, 0, none⟩) rc cc sc tc x.rules.length lo hi V (V + 1) w7 (HPP.out w7 hB7) (by omega) (by rw [HFU.out]; exact hV7) (Nat.le_succ _) (by omega) hx HF.out
            rw [HFU.out] at HNX
            unfold Piece.v at HNX
            replace HNX := Lib.hid HNX
            obtain ⟨p0, p1, p2, p3, p4⟩ := hX7.five
            go_wp2_with fail
            refine HNX.out.mono ?_
            clear HNX p0 p1 p2 p3 p4
            rintro e wn ⟨hTn, hcn⟩
            have hsn := hTn.size
            have hbn := hb7.trans (hTn.below (by omega) (by omega))
            have hCn := (hTn.block C (by have := blk_lt hC7; omega) (by omega)).trans hC7
            have hOn := (own_apart hO7 hOV (Nat.le_refl _) hTn).wide (Nat.le_refl _) hsn
            clear hX7 hR7 hC7 hB7 hb7 hV7 hO7
            rcases hcn with ⟨rfl, v', hnv, hVn⟩ | ⟨rfl, hlv⟩
            · have HN := Lib.hid hnv
              clear hnv hTn
              go_wp2_with fail
              go_roundg (leftG (gapsL x.rules v') 0 + 1)
              case measure => have := HN.out.left HF.out hx; omega
              case rel => exact ⟨_, c, true, bv, rfl, rfl, hOn, hOV, hCn, hbn, .inl ⟨v', rfl, rfl, HN.out.full HF.out hx, HS2.out.next HF.out HN.out, hVn⟩⟩
            · have HL := Lib.hid (HS2.out.last hx HF.out hlv)
              clear hlv hTn
              go_wp2_with fail
              go_roundg 0
              case measure => omega
              case rel => exact ⟨_, c, true, bv, rfl, rfl, hOn, hOV, hCn, hbn, .inr ⟨rfl, rfl, (show _ ∧ _ from ⟨by first | exact HL.out.1 | rfl, HL.out.2⟩)⟩⟩
          | true =>
            have HS2 := Lib.hid (HS.out.take HF.out htm.out (fun _ => by rw [hy.out]; exact hcl.out))
            rw [hy.out] at HS2
            clear HS htm hy hcl
            have hCl := blk_lt hC7
            have hv8 : v.length ≤ 8 := by have := HFU.out; have := hx.rules; omega
            have hRV9 : Rd intF.shape V (V + 1) w7 (.slice (some ⟨V, 0, none⟩) x.rules.length x.rules.length) v := hV7.rd
            have hV17 : V + 1 ≤ w7.heap.size := by omega
            clear y0 y1 c0 c1
            go_upto_region 14 with (at_builtin; refine wp_appAll (F := intF) (P := Try.prog) (ys := v) (lo' := V) (hi' := V + 1) rfl (.tmp 43) (.tmp 44) 32 rfl Try.underlying32 hi0 hz0 hz1 hz2 rfl (by decide) rfl (Own.empty intF 3 w7.heap.size w7 (Nat.le_refl _)) rfl (hRV9.below ((Below.refl _ _).alloc (Nat.le_refl _) _) hV17) (by simp; omega) (by simp; omega) (by simp) ?_; intro v9 w9 hO9 hb9)
            rw [List.nil_append] at hO9
            have k9 := blw_al1 hb9 (Nat.le_refl _)
            clear hb9
            have hvl9 : v9.ownBlock ≠ some V := fun e => by have := (hO9.below_heap _ e).1; omega
            have hvc9 : v9.ownBlock ≠ some C := fun e => by have := (hO9.below_heap _ e).1; omega
            obtain ⟨a9, c9, rfl, -, -, -⟩ := hO9.form
            have hs9 := k9.size
            have hX9 := hX7.below k9
            have hR9 := blk k9 hR7
            have hC9 := blk k9 hC7
            have hB9 := hB7.trans (k9.mono (by omega))
            have hb9' := hb7.trans (k9.mono (by omega))
            have hV9 := hV7.below k9 (by omega)
            have hY9 := blk k9 hY7
            have hXl := hX7.lt
            have hRl := blk_lt hR7
            have hYl := blk_lt hY7
            clear hX7 hR7 hC7 hB7 hb7 hV7 hO7 hY7
            obtain ⟨y0, y1⟩ := two_c hY9
            obtain ⟨c0, c1⟩ := two_c hC9
            have g0 : w9.frozen? ⟨C, 0, none⟩ = false := frozen_heap hC9
            have g1 : w9.frozen? ⟨C, 1, none⟩ = false := frozen_heap hC9
            have hTF : Out C (C + 1) w9 ((w9.setCell ⟨C, 0, none⟩ (.int .i64 y.over)).setCell ⟨C, 1, none⟩ (.int .i64 y.sum)) := ((Out.refl _ _ _).setCell (p := ⟨C, 0, none⟩) (Nat.le_refl _) (Nat.lt_succ_self _) _).setCell (p := ⟨C, 1, none⟩) (Nat.le_refl _) (Nat.lt_succ_self _) _
            have hX10 : PBox x ra rc ca cc sa sc ta tc w.heap.size ((w9.setCell ⟨C, 0, none⟩ (.int .i64 y.over)).setCell ⟨C, 1, none⟩ (.int .i64 y.sum)) := (hTF.block w.heap.size (by omega) (by omega)).trans hX9
            have hR10 := (hTF.block (w.heap.size + 1) (by omega) (by omega)).trans hR9
            have hC10 := two_set' (u0 := .int .i64 y.over) (u1 := .int .i64 y.sum) hC9
            have hB10 := hB9.trans (hTF.below (show w.heap.size ≤ C by omega) (by omega))
            have hb10 := hb9'.trans (hTF.below hLC (by omega))
            have hV10 := hV9.same (hTF.same (by omega) (by omega))
            have hs10 := hTF.size
            have hO10 := (own_apart hO9 hvc9 (Nat.le_refl _) hTF).wide (show L ≤ w7.heap.size by omega) hs10
            have hY10 := (hTF.block Y (by omega) (by omega)).trans hY9
            clear y0 y1
            obtain ⟨y0, y1⟩ := two_c hY9
            go_upto_region 15 with fail
            clear y0 y1
            clear hTF hX9 hR9 hC9 hB9 hb9' hV9 hO9 hY9 hY10 c0 c1 g0 g1
            generalize ((w9.setCell ⟨C, 0, none⟩ (.int .i64 y.over)).setCell ⟨C, 1, none⟩ (.int .i64 y.sum)) = w10 at *
            have HNX := l10Next_spec x v ra ca sa ta (some ⟨V, 0, none⟩) rc cc sc tc x.rules.length lo hi V (V + 1) w10 (HPP.out w10 hB10) (by omega) (by rw [HFU.out]; exact hV10) (Nat.le_succ _) (by omega) hx HF.out
            rw [HFU.out] at HNX
            unfold Piece.v at HNX
            replace HNX := Lib.hid HNX
            obtain ⟨p0, p1, p2, p3, p4⟩ := hX10.five
            go_wp2_with fail
            refine HNX.out.mono ?_
            clear HNX p0 p1 p2 p3 p4
            rintro e wn ⟨hTn, hcn⟩
            have hsn := hTn.size
            have hbn := hb10.trans (hTn.below (by omega) (by omega))
            have hCn := (hTn.block C (by have := blk_lt hC10; omega) (by omega)).trans hC10
            have hOn := (own_apart hO10 hvl9 (Nat.le_refl _) hTn).wide (Nat.le_refl _) hsn
            clear hX10 hR10 hC10 hB10 hb10 hV10 hO10
            rcases hcn with ⟨rfl, v', hnv, hVn⟩ | ⟨rfl, hlv⟩
            · have HN := Lib.hid hnv
              clear hnv hTn
              go_wp2_with fail
              go_roundg (leftG (gapsL x.rules v') 0 + 1)
              case measure => have := HN.out.left HF.out hx; omega
              case rel => exact ⟨_, y, true, (a9, v.length, c9), rfl, rfl, hOn, hvl9, hCn, hbn, .inl ⟨v', rfl, rfl, HN.out.full HF.out hx, HS2.out.next HF.out HN.out, hVn⟩⟩
            · have HL := Lib.hid (HS2.out.last hx HF.out hlv)
              clear hlv hTn
              go_wp2_with fail
              go_roundg 0
              case measure => omega
              case rel => exact ⟨_, y, true, (a9, v.length, c9), rfl, rfl, hOn, hvl9, hCn, hbn, .inr ⟨rfl, rfl, (show _ ∧ _ from ⟨by first | exact HL.out.1 | rfl, HL.out.2⟩)⟩⟩
    · obtain ⟨rfl, hib, hce⟩ := HE.out
      subst hce
      have HIB := Lib.hid hib
      obtain ⟨c0, c1⟩ := two_c hCr
      obtain ⟨r0, r1⟩ := two_c hRr
      have g0 : wr.frozen? ⟨w.heap.size + 1, 0, none⟩ = false := frozen_heap hRr
      have g1 : wr.frozen? ⟨w.heap.size + 1, 1, none⟩ = false := frozen_heap hRr
      have HRF := two_set' (u0 := .int .i64 (costR x best wd).over) (u1 := .int .i64 (costR x best wd).sum) hRr
      have hBF := (hBr.setCell (p := ⟨w.heap.size + 1, 0, none⟩) (Nat.le_succ _) (.int .i64 (costR x best wd).over)).setCell (p := ⟨w.heap.size + 1, 1, none⟩) (Nat.le_succ _) (.int .i64 (costR x best wd).sum)
      have hOR : bv.v.ownBlock ≠ some (w.heap.size + 1) := fun e => by have := (hO.below_heap _ e).1; omega
      have hOF := (hO.keepFar hOR 0 (.int .i64 (costR x best wd).over)).keepFar hOR 1 (.int .i64 (costR x best wd).sum)
      have hzF : wr.heap.size = ((wr.setCell ⟨w.heap.size + 1, 0, none⟩ (.int .i64 (costR x best wd).over)).setCell ⟨w.heap.size + 1, 1, none⟩ (.int .i64 (costR x best wd).sum)).heap.size := by simp [World.setCell]
      replace hOF := hOF.wide (show w.heap.size ≤ L by omega) (Nat.le_of_eq hzF)
      obtain ⟨q0, q1⟩ := two_c HRF
      clear hib HE hCr hRr hO HRF
      generalize hcst : costR x best wd = cst at *
      go_wp2_with fail
      go_region
      all_goals
        go_wp2_with fail
        replace q0 : (((wr.setCell ⟨w.heap.size + 1, 0, none⟩ (.int .i64 cst.over)).setCell ⟨w.heap.size + 1, 1, none⟩ (.int .i64 cst.sum)).drew).cell? ⟨w.heap.size + 1, 0, none⟩ = some (.int .i64 cst.over) := q0
        replace q1 : (((wr.setCell ⟨w.heap.size + 1, 0, none⟩ (.int .i64 cst.over)).setCell ⟨w.heap.size + 1, 1, none⟩ (.int .i64 cst.sum)).drew).cell? ⟨w.heap.size + 1, 1, none⟩ = some (.int .i64 cst.sum) := q1
        refine bodyPost_ret (v := .tuple #[bv.v, .agg #[.int .i64 cst.over, .int .i64 cst.sum], .bool true]) (by simp [results, Try.results13, go_sem, q0, q1]) rfl ?_
        exact ⟨hBF.drew, fun h => (by rw [HG2.out] at h; cases h), fun _ => ⟨_, best, HIB.out, by rw [hcst], hOF⟩⟩
end Go.Proofs.Ytllpgomloblfjaa
