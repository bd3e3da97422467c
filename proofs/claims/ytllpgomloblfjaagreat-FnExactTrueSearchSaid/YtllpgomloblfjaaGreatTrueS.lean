/- TrueSearch of both: it always holds. -/
import Derived.Test.YtllpgomloblfjaaGreatCostT
import Derived.Test.YtllpgomloblfjaaGreatBestO
import Derived.Test.YtllpgomloblfjaaGreatHuntS
namespace Go.Proofs.YtllpgomloblfjaaGreat
open Go.RowKit

set_option maxHeartbeats 4000000 in
set_option maxRecDepth 100000 in
theorem trueSearch_spec (x : Piece) (ra ca sa ta : Option Addr) (rc cc sc tc lo hi : Nat) (wd budget : Int) (w : World) (hp : PFour x ra rc ca cc sa sc ta tc lo hi w) (hh : hi ≤ w.heap.size) (hz : Sized x) :
    Calls Tryz.prog 14 #[x.v ra rc ca cc sa sc ta tc, .int .i64 wd, .int .i64 budget] w fun e w' => e = .returned (.bool true) ∧ Below w.heap.size w w' := by
  have HPP := Lib.hid (fun (w2 : World) (h2 : Below w.heap.size w w2) => hp.below h2 hh)
  have hX0 := PBox.new x ra ca sa ta rc cc sc tc w
  have hb0 : Below w.heap.size w (w.alloc (.cells #[.int .i64 x.indent, .slice ra x.rules.length rc, .slice ca x.chunks.length cc, .slice sa x.spans.length sc, .slice ta x.ties.length tc] 38)) := (Below.refl _ _).alloc (Nat.le_refl _) _
  obtain ⟨sb, hsb⟩ : ∃ sb, Hid (searchB x wd budget = sb) := ⟨_, rfl⟩
  obtain ⟨ss, hss⟩ : ∃ ss, Hid (searchS x wd budget = ss) := ⟨_, rfl⟩
  unfold Piece.v
  go_enter Tryz.func14, Tryz.ntmps14
  go_upto_region 1 with fail
  generalize w.alloc (.cells #[.int .i64 x.indent, .slice ra x.rules.length rc, .slice ca x.chunks.length cc, .slice sa x.spans.length sc, .slice ta x.ties.length tc] 38) = w0 at *
  have hs0 := hb0.size
  have hxl0 := hX0.lt
  have HSE := search_spec x ra ca sa ta rc cc sc tc lo hi wd budget w0 (HPP.out w0 hb0) (by omega) hz
  rw [hsb.out, hss.out] at HSE
  unfold Piece.v at HSE
  replace HSE := Lib.hid HSE
  obtain ⟨p0, p1, p2, p3, p4⟩ := hX0.five
  go_wp2_with fail
  refine HSE.out.mono ?_
  clear HSE p0 p1 p2 p3 p4
  rintro e w1 ⟨u1, rfl, k1, hO1⟩
  obtain ⟨va, vc, rfl, -, -, -⟩ := hO1.form
  have hb1 := hb0.trans (k1.mono hs0)
  have hs1 := k1.size
  have hX1 := hX0.below k1
  clear hX0 hb0 k1
  have HBO := bestOf_spec x ra ca sa ta rc cc sc tc lo hi wd w1 (HPP.out w1 hb1) (by omega) hz
  unfold Piece.v at HBO
  replace HBO := Lib.hid HBO
  obtain ⟨p0, p1, p2, p3, p4⟩ := hX1.five
  cases g2 : pieceOk x with
  | false =>
    obtain rfl : ([] : List Int) = sb := by rw [← hsb.out]; unfold searchB; rw [g2]; rfl
    obtain rfl : (0 : Int) = ss := by rw [← hss.out]; unfold searchS; rw [g2]; rfl
    have HG2 := Lib.hid g2
    clear hsb hss g2
    go_wp2_with fail
    refine HBO.out.mono ?_
    clear HBO p0 p1 p2 p3 p4
    rintro e w2 ⟨k2, h2, -⟩
    obtain ⟨u2, rfl, -⟩ := h2 HG2.out
    have hb2 := hb1.trans (k2.mono hb1.size)
    clear h2
    go_wp2
    go_ret
    exact ⟨rfl, hb2.alloc hb2.size _⟩
  | true =>
  have hx := right_of g2
  have HG2 := Lib.hid g2
  have HGO : (huntL x wd budget).best = sb ∧ (huntL x wd budget).state = ss := ⟨by rw [← hsb.out]; unfold searchB; rw [g2]; rfl, by rw [← hss.out]; unfold searchS; rw [g2]; rfl⟩
  have HHL := (hunt_law hx hz wd budget).1
  have hgood := HHL.good
  have hall := HHL.all
  have hbest := HHL.best
  rw [HGO.1] at hgood hall hbest
  rw [HGO.2] at hbest
  have HGD := Lib.hid hgood
  have HAL := Lib.hid hall
  have HBE := Lib.hid hbest
  have HFU := Lib.hid hgood.fullV
  have hss2 : Hid ((huntL x wd budget).state = ss) := HGO.2
  clear hgood hall hbest HHL HGO hsb hss g2
  go_wp2_with fail
  refine HBO.out.mono ?_
  clear HBO p0 p1 p2 p3 p4
  rintro e w2 ⟨k2, -, h2⟩
  obtain ⟨u2, bb, hib, rfl, hO2⟩ := h2 HG2.out
  have HIB := Lib.hid hib
  obtain ⟨ba, bc, rfl, -, -, -⟩ := hO2.form
  clear h2 hib
  have hb2 := hb1.trans (k2.mono hb1.size)
  have hs2 := k2.size
  have hX2 := hX1.below k2
  have hV2 := hO1.below k2 (Nat.le_refl _)
  obtain ⟨cst, hcst⟩ : ∃ cst, Hid (costR x bb wd = cst) := ⟨_, rfl⟩
  rw [hcst.out]
  go_upto_region 3 with fail
  have k3 : Below w2.heap.size w2 (w2.alloc (.cells #[.int .i64 cst.over, .int .i64 cst.sum] 70)) := (Below.refl _ _).alloc (Nat.le_refl _) _
  have hC3 := heap_alloc_new w2 (.cells #[.int .i64 cst.over, .int .i64 cst.sum] 70)
  generalize w2.alloc (.cells #[.int .i64 cst.over, .int .i64 cst.sum] 70) = w3 at *
  have hb3 := hb2.trans (k3.mono hb2.size)
  have hs3 := k3.size
  have hX3 := hX2.below k3
  have hV3 := hV2.below k3 (by omega)
  have hO3 := hO2.below k3 (Nat.le_refl _)
  clear hX1 hX2 hV2 hO1 hO2 hb1 hb2 k2 k3
  generalize w2.heap.size = C at *
  obtain ⟨cv, hcv⟩ : ∃ cv, Hid (costR x sb wd = cv) := ⟨_, rfl⟩
  obtain ⟨ca', hca⟩ : ∃ ca', Hid (costR x (allL x) wd = ca') := ⟨_, rfl⟩
  obtain ⟨al, hal⟩ : ∃ al, Hid (allL x = al) := ⟨_, rfl⟩
  have HALF : Hid (FullV x al) := by rw [← hal.out]; exact (all_good hx).fullV
  have HCL : Hid (costLess ca' cv = false) := by show _ = _; rw [← hca.out, ← hcv.out]; exact HAL.out
  rw [hal.out] at hca
  have HCV := Lib.hid (fun (w4 : World) (h4 : Below w3.heap.size w3 w4) => costTop_spec x sb ra ca sa ta va rc cc sc tc vc lo hi w0.heap.size w1.heap.size wd w4 (HPP.out w4 (hb3.trans (h4.mono hb3.size))) (by have := h4.size; omega) (hV3.rd.below h4 (by omega)) (by have := h4.size; omega) hz)
  have HCA := Lib.hid (fun (w4 : World) (h4 : Below w3.heap.size w3 w4) (aa : Option Addr) (ac l2 h2 : Nat) (hr : Rd intF.shape l2 h2 w4 (.slice aa al.length ac) al) (hh2 : h2 ≤ w4.heap.size) => costTop_spec x al ra ca sa ta aa rc cc sc tc ac lo hi l2 h2 wd w4 (HPP.out w4 (hb3.trans (h4.mono hb3.size))) (by have := h4.size; omega) hr hh2 hz)
  have HASP := Lib.hid (fun (w4 : World) (h4 : Below w3.heap.size w3 w4) => allSplit_spec x ra ca sa ta rc cc sc tc lo hi w4 (HPP.out w4 (hb3.trans (h4.mono hb3.size))) (by have := h4.size; omega) hx)
  have HTH := Lib.hid (fun (w4 : World) (h4 : Below w3.heap.size w3 w4) => tiesHold_spec x sb ra ca sa ta va rc cc sc tc vc lo hi w0.heap.size w1.heap.size w4 (HPP.out w4 (hb3.trans (h4.mono hb3.size))) (by have := h4.size; omega) (hV3.rd.below h4 (by omega)) (by have := h4.size; omega) hx HFU.out)
  unfold Piece.v at HCV HCA HASP HTH
  rw [costB_full HG2.out HFU.out, hcv.out] at HCV
  rw [costB_full HG2.out HALF.out, hca.out] at HCA
  rw [hal.out] at HASP
  rw [HGD.out.ties] at HTH
  have HST := (hunt_law hx hz wd budget).1.state
  rw [hss2.out] at HST
  have HCVE := hcv
  clear hcv hca hal HAL HALF
  have HCLS := Lib.hid (fun w2 => costLess_spec ca' cv w2)
  rw [HCL.out] at HCLS
  obtain ⟨p0, p1, p2, p3, p4⟩ := hX3.five
  go_wp2_with fail
  refine (HCV.out w3 (Below.refl _ _)).mono ?_
  clear p0 p1 p2 p3 p4
  rintro e w5 ⟨rfl, k5⟩
  go_upto_region 6 with fail
  have k6 : Below w5.heap.size w5 (w5.alloc (.cells #[.int .i64 cv.over, .int .i64 cv.sum] 70)) := (Below.refl _ _).alloc (Nat.le_refl _) _
  have hY6 := heap_alloc_new w5 (.cells #[.int .i64 cv.over, .int .i64 cv.sum] 70)
  have hCY := blk (k5.trans (k6.mono k5.size)) hC3
  have hk6 := k5.trans (k6.mono k5.size)
  generalize w5.alloc (.cells #[.int .i64 cv.over, .int .i64 cv.sum] 70) = w6 at *
  generalize w5.heap.size = Y at *
  clear k5 k6
  have hX6 := hX3.below hk6
  obtain ⟨y0, y1⟩ := two_c hY6
  obtain ⟨c0, c1⟩ := two_c hCY
  rcases HST with rfl | rfl
  · have hsbb : bb = sb := (HBE.out rfl).one HIB.out ▸ rfl
    subst hsbb
    obtain rfl : cst = cv := hcst.out.symm.trans HCVE.out
    have HCM := compare_spec (hV3.rd.below hk6 (by omega)) (by have := hk6.size; omega) (hO3.rd.below hk6 (by omega)) (by have := hk6.size; omega)
    rw [cmpL_self] at HCM
    replace HCM := Lib.hid HCM
    go_wp2_with fail
    refine HCM.out.mono ?_
    clear HCM y0 y1 c0 c1
    rintro e w7 ⟨rfl, k7⟩
    obtain ⟨y0, y1⟩ := two_c (blk k7 hY6)
    obtain ⟨c0, c1⟩ := two_c (blk k7 hCY)
    have hk7 := hk6.trans (k7.mono hk6.size)
    have hX7 := hX6.below k7
    have hY7 := blk k7 hY6
    clear hX6 hY6 hk6 hCY k7
    go_upto_region 8 with fail
    clear y0 y1 c0 c1
    go_wp2_with fail
    refine wp_region_held_drew (S := fun w' => PBox x ra rc ca cc sa sc ta tc w.heap.size w' ∧ w'.heap[Y]? = some (.cells #[.int .i64 cst.over, .int .i64 cst.sum] 70) ∧ Below w3.heap.size w3 w') (by kernel_rfl) ?_ (fun hHeld => ?_)
    · exact ⟨hX7, hY7, hk7.drew⟩
    generalize w7.drew = wD at *
    refine wpAnyH_take (i := 0) (v := ?v1) (at_op rfl) (by kernel_rfl) (by kernel_rfl) (by kernel_rfl) (fun _ _ _ h => h) (Or.inl ⟨by rfl, ?y1⟩) (by assumption) ?r1
    case y1 =>
      intro wx hSx
      obtain ⟨p0, p1, p2, p3, p4⟩ := (hSx.1).five; obtain ⟨y0, y1⟩ := two_c hSx.2.1
      go_simp
      try with_reducible rfl
    try simp only [Act.put, List.setIfInBounds_toArray, List.set_cons_zero, List.set_cons_succ]
    refine wpAnyH_take (i := 1) (v := ?v2) (at_op rfl) (by kernel_rfl) (by kernel_rfl) (by kernel_rfl) (fun _ _ _ h => h) (Or.inl ⟨by rfl, ?y2⟩) (by assumption) ?r2
    case y2 =>
      intro wx hSx
      obtain ⟨p0, p1, p2, p3, p4⟩ := (hSx.1).five; obtain ⟨y0, y1⟩ := two_c hSx.2.1
      go_simp
      try with_reducible rfl
    try simp only [Act.put, List.setIfInBounds_toArray, List.set_cons_zero, List.set_cons_succ]
    refine wpAnyH_ready (rs := [2]) (by kernel_rfl) (by simp) ?_
    refine AllReadyH.cons (at_op rfl) (fun K hK => ?_) AllReadyH.nil
    go_simp
    refine (HTH.out _ hHeld.2.2).mono ?_
    rintro e wa ⟨rfl, ka⟩
    have hH2 : PBox x ra rc ca cc sa sc ta tc w.heap.size wa ∧ wa.heap[Y]? = some (.cells #[.int .i64 cst.over, .int .i64 cst.sum] 70) ∧ Below w3.heap.size w3 wa := ⟨hHeld.1.below ka, blk ka hHeld.2.1, hHeld.2.2.trans (ka.mono hHeld.2.2.size)⟩
    clear ka
    go_wp2_with fail
    refine hK.out _ _ hH2 (fun _ => ?_)
    clear hK K
    try simp only [Act.put, List.setIfInBounds_toArray, List.set_cons_zero, List.set_cons_succ]
    refine wpAnyH_take (i := 3) (v := ?v3) (at_op rfl) (by kernel_rfl) (by kernel_rfl) (by kernel_rfl) (fun _ _ _ h => h) (Or.inl ⟨by rfl, ?y3⟩) (by assumption) ?r3
    case y3 =>
      intro wx hSx
      obtain ⟨p0, p1, p2, p3, p4⟩ := (hSx.1).five; obtain ⟨y0, y1⟩ := two_c hSx.2.1
      go_simp
      try with_reducible rfl
    try simp only [Act.put, List.setIfInBounds_toArray, List.set_cons_zero, List.set_cons_succ]
    refine wpAnyH_take (i := 4) (v := ?v4) (at_op rfl) (by kernel_rfl) (by kernel_rfl) (by kernel_rfl) (fun _ _ _ h => h) (Or.inl ⟨by rfl, ?y4⟩) (by assumption) ?r4
    case y4 =>
      intro wx hSx
      obtain ⟨p0, p1, p2, p3, p4⟩ := (hSx.1).five; obtain ⟨y0, y1⟩ := two_c hSx.2.1
      go_simp
      try with_reducible rfl
    try simp only [Act.put, List.setIfInBounds_toArray, List.set_cons_zero, List.set_cons_succ]
    refine wpAnyH_take (i := 5) (v := ?v5) (at_op rfl) (by kernel_rfl) (by kernel_rfl) (by kernel_rfl) (fun _ _ _ h => h) (Or.inl ⟨by rfl, ?y5⟩) (by assumption) ?r5
    case y5 =>
      intro wx hSx
      obtain ⟨p0, p1, p2, p3, p4⟩ := (hSx.1).five; obtain ⟨y0, y1⟩ := two_c hSx.2.1
      go_simp
      try with_reducible rfl
    try simp only [Act.put, List.setIfInBounds_toArray, List.set_cons_zero, List.set_cons_succ]
    refine wpAnyH_take (i := 7) (v := ?v6) (at_op rfl) (by kernel_rfl) (by kernel_rfl) (by kernel_rfl) (fun _ _ _ h => h) (Or.inl ⟨by rfl, ?y6⟩) (by assumption) ?r6
    case y6 =>
      intro wx hSx
      obtain ⟨p0, p1, p2, p3, p4⟩ := (hSx.1).five; obtain ⟨y0, y1⟩ := two_c hSx.2.1
      go_simp
      try with_reducible rfl
    try simp only [Act.put, List.setIfInBounds_toArray, List.set_cons_zero, List.set_cons_succ]
    refine wpAnyH_take (i := 9) (v := ?v7) (at_op rfl) (by kernel_rfl) (by kernel_rfl) (by kernel_rfl) (fun _ _ _ h => h) (Or.inl ⟨by rfl, ?y7⟩) (by assumption) ?r7
    case y7 =>
      intro wx hSx
      obtain ⟨p0, p1, p2, p3, p4⟩ := (hSx.1).five; obtain ⟨y0, y1⟩ := two_c hSx.2.1
      go_simp
      try with_reducible rfl
    try simp only [Act.put, List.setIfInBounds_toArray, List.set_cons_zero, List.set_cons_succ]
    refine wpAnyH_ready (rs := [6]) (by kernel_rfl) (by simp) ?_
    refine AllReadyH.cons (at_op rfl) (fun K hK => ?_) AllReadyH.nil
    go_simp
    refine (HASP.out _ hH2.2.2).mono ?_
    rintro e wb ⟨ub, rfl, kb, hOb⟩
    obtain ⟨aa, ac, rfl, -, -, -⟩ := hOb.form
    have hH3 : PBox x ra rc ca cc sa sc ta tc w.heap.size wb ∧ wb.heap[Y]? = some (.cells #[.int .i64 cst.over, .int .i64 cst.sum] 70) ∧ Below w3.heap.size w3 wb := ⟨hH2.1.below kb, blk kb hH2.2.1, hH2.2.2.trans (kb.mono hH2.2.2.size)⟩
    clear kb
    go_wp2_with fail
    refine hK.out _ _ hH3 (fun _ => ?_)
    clear hK K
    try simp only [Act.put, List.setIfInBounds_toArray, List.set_cons_zero, List.set_cons_succ]
    refine wpAnyH_ready (rs := [8]) (by kernel_rfl) (by simp) ?_
    refine AllReadyH.cons (at_op rfl) (fun K hK => ?_) AllReadyH.nil
    go_simp
    refine (HCA.out _ hH3.2.2 aa ac _ _ hOb.rd (Nat.le_refl _)).mono ?_
    rintro e wc ⟨rfl, kc⟩
    clear hOb
    have hH4 : PBox x ra rc ca cc sa sc ta tc w.heap.size wc ∧ wc.heap[Y]? = some (.cells #[.int .i64 cst.over, .int .i64 cst.sum] 70) ∧ Below w3.heap.size w3 wc := ⟨hH3.1.below kc, blk kc hH3.2.1, hH3.2.2.trans (kc.mono hH3.2.2.size)⟩
    clear kc
    go_wp2_with fail
    refine hK.out _ _ hH4 (fun _ => ?_)
    clear hK K
    try simp only [Act.put, List.setIfInBounds_toArray, List.set_cons_zero, List.set_cons_succ]
    refine wpAnyH_ready (rs := [10]) (by kernel_rfl) (by simp) ?_
    refine AllReadyH.cons (at_op rfl) (fun K hK => ?_) AllReadyH.nil
    go_simp
    refine (HCLS.out wc).mono ?_
    rintro e we ⟨rfl, kd⟩
    have hH5 : PBox x ra rc ca cc sa sc ta tc w.heap.size we ∧ we.heap[Y]? = some (.cells #[.int .i64 cst.over, .int .i64 cst.sum] 70) ∧ Below w3.heap.size w3 we := ⟨hH4.1.below kd, blk kd hH4.2.1, hH4.2.2.trans (kd.mono hH4.2.2.size)⟩
    clear kd
    go_wp2_with fail
    refine hK.out _ _ hH5 (fun _ => ?_)
    clear hK K
    try simp only [Act.put, List.setIfInBounds_toArray, List.set_cons_zero, List.set_cons_succ]
    refine wpAnyH_take (i := 11) (v := ?v8) (at_op rfl) (by kernel_rfl) (by kernel_rfl) (by kernel_rfl) (fun _ _ _ h => h) (Or.inl ⟨by rfl, ?y8⟩) (by assumption) ?r8
    case y8 =>
      intro wx hSx
      obtain ⟨p0, p1, p2, p3, p4⟩ := (hSx.1).five; obtain ⟨y0, y1⟩ := two_c hSx.2.1
      go_simp
      try with_reducible rfl
    try simp only [Act.put, List.setIfInBounds_toArray, List.set_cons_zero, List.set_cons_succ]
    refine wpAnyH_take (i := 12) (v := ?v9) (at_op rfl) (by kernel_rfl) (by kernel_rfl) (by kernel_rfl) (fun _ _ _ h => h) (Or.inl ⟨by rfl, ?y9⟩) (by assumption) ?r9
    case y9 =>
      intro wx hSx
      obtain ⟨p0, p1, p2, p3, p4⟩ := (hSx.1).five; obtain ⟨y0, y1⟩ := two_c hSx.2.1
      go_simp
      try with_reducible rfl
    try simp only [Act.put, List.setIfInBounds_toArray, List.set_cons_zero, List.set_cons_succ]
    refine wpAnyH_take (i := 13) (v := ?v10) (at_op rfl) (by kernel_rfl) (by kernel_rfl) (by kernel_rfl) (fun _ _ _ h => h) (Or.inl ⟨by rfl, ?y10⟩) (by assumption) ?r10
    case y10 =>
      intro wx hSx
      obtain ⟨p0, p1, p2, p3, p4⟩ := (hSx.1).five; obtain ⟨y0, y1⟩ := two_c hSx.2.1
      go_simp
      try with_reducible rfl
    try simp only [Act.put, List.setIfInBounds_toArray, List.set_cons_zero, List.set_cons_succ]
    refine wpAnyH_done (by kernel_rfl) ?_ _
    go_wp2
    go_ret
    exact ⟨rfl, hb3.trans (hH5.2.2.mono hb3.size)⟩
  · go_upto_region 8 with fail
    clear y0 y1 c0 c1 hCY
    go_wp2_with fail
    refine wp_region_held_drew (S := fun w' => PBox x ra rc ca cc sa sc ta tc w.heap.size w' ∧ w'.heap[Y]? = some (.cells #[.int .i64 cv.over, .int .i64 cv.sum] 70) ∧ Below w3.heap.size w3 w') (by kernel_rfl) ?_ (fun hHeld => ?_)
    · exact ⟨hX6, hY6, hk6.drew⟩
    generalize w6.drew = wD at *
    refine wpAnyH_take (i := 0) (v := ?v11) (at_op rfl) (by kernel_rfl) (by kernel_rfl) (by kernel_rfl) (fun _ _ _ h => h) (Or.inl ⟨by rfl, ?y11⟩) (by assumption) ?r11
    case y11 =>
      intro wx hSx
      obtain ⟨p0, p1, p2, p3, p4⟩ := (hSx.1).five; obtain ⟨y0, y1⟩ := two_c hSx.2.1
      go_simp
      try with_reducible rfl
    try simp only [Act.put, List.setIfInBounds_toArray, List.set_cons_zero, List.set_cons_succ]
    refine wpAnyH_take (i := 1) (v := ?v12) (at_op rfl) (by kernel_rfl) (by kernel_rfl) (by kernel_rfl) (fun _ _ _ h => h) (Or.inl ⟨by rfl, ?y12⟩) (by assumption) ?r12
    case y12 =>
      intro wx hSx
      obtain ⟨p0, p1, p2, p3, p4⟩ := (hSx.1).five; obtain ⟨y0, y1⟩ := two_c hSx.2.1
      go_simp
      try with_reducible rfl
    try simp only [Act.put, List.setIfInBounds_toArray, List.set_cons_zero, List.set_cons_succ]
    refine wpAnyH_ready (rs := [2]) (by kernel_rfl) (by simp) ?_
    refine AllReadyH.cons (at_op rfl) (fun K hK => ?_) AllReadyH.nil
    go_simp
    refine (HTH.out _ hHeld.2.2).mono ?_
    rintro e wa ⟨rfl, ka⟩
    have hH2 : PBox x ra rc ca cc sa sc ta tc w.heap.size wa ∧ wa.heap[Y]? = some (.cells #[.int .i64 cv.over, .int .i64 cv.sum] 70) ∧ Below w3.heap.size w3 wa := ⟨hHeld.1.below ka, blk ka hHeld.2.1, hHeld.2.2.trans (ka.mono hHeld.2.2.size)⟩
    clear ka
    go_wp2_with fail
    refine hK.out _ _ hH2 (fun _ => ?_)
    clear hK K
    try simp only [Act.put, List.setIfInBounds_toArray, List.set_cons_zero, List.set_cons_succ]
    refine wpAnyH_take (i := 3) (v := ?v13) (at_op rfl) (by kernel_rfl) (by kernel_rfl) (by kernel_rfl) (fun _ _ _ h => h) (Or.inl ⟨by rfl, ?y13⟩) (by assumption) ?r13
    case y13 =>
      intro wx hSx
      obtain ⟨p0, p1, p2, p3, p4⟩ := (hSx.1).five; obtain ⟨y0, y1⟩ := two_c hSx.2.1
      go_simp
      try with_reducible rfl
    try simp only [Act.put, List.setIfInBounds_toArray, List.set_cons_zero, List.set_cons_succ]
    refine wpAnyH_take (i := 4) (v := ?v14) (at_op rfl) (by kernel_rfl) (by kernel_rfl) (by kernel_rfl) (fun _ _ _ h => h) (Or.inl ⟨by rfl, ?y14⟩) (by assumption) ?r14
    case y14 =>
      intro wx hSx
      obtain ⟨p0, p1, p2, p3, p4⟩ := (hSx.1).five; obtain ⟨y0, y1⟩ := two_c hSx.2.1
      go_simp
      try with_reducible rfl
    try simp only [Act.put, List.setIfInBounds_toArray, List.set_cons_zero, List.set_cons_succ]
    refine wpAnyH_take (i := 5) (v := ?v15) (at_op rfl) (by kernel_rfl) (by kernel_rfl) (by kernel_rfl) (fun _ _ _ h => h) (Or.inl ⟨by rfl, ?y15⟩) (by assumption) ?r15
    case y15 =>
      intro wx hSx
      obtain ⟨p0, p1, p2, p3, p4⟩ := (hSx.1).five; obtain ⟨y0, y1⟩ := two_c hSx.2.1
      go_simp
      try with_reducible rfl
    try simp only [Act.put, List.setIfInBounds_toArray, List.set_cons_zero, List.set_cons_succ]
    refine wpAnyH_take (i := 7) (v := ?v16) (at_op rfl) (by kernel_rfl) (by kernel_rfl) (by kernel_rfl) (fun _ _ _ h => h) (Or.inl ⟨by rfl, ?y16⟩) (by assumption) ?r16
    case y16 =>
      intro wx hSx
      obtain ⟨p0, p1, p2, p3, p4⟩ := (hSx.1).five; obtain ⟨y0, y1⟩ := two_c hSx.2.1
      go_simp
      try with_reducible rfl
    try simp only [Act.put, List.setIfInBounds_toArray, List.set_cons_zero, List.set_cons_succ]
    refine wpAnyH_take (i := 9) (v := ?v17) (at_op rfl) (by kernel_rfl) (by kernel_rfl) (by kernel_rfl) (fun _ _ _ h => h) (Or.inl ⟨by rfl, ?y17⟩) (by assumption) ?r17
    case y17 =>
      intro wx hSx
      obtain ⟨p0, p1, p2, p3, p4⟩ := (hSx.1).five; obtain ⟨y0, y1⟩ := two_c hSx.2.1
      go_simp
      try with_reducible rfl
    try simp only [Act.put, List.setIfInBounds_toArray, List.set_cons_zero, List.set_cons_succ]
    refine wpAnyH_ready (rs := [6]) (by kernel_rfl) (by simp) ?_
    refine AllReadyH.cons (at_op rfl) (fun K hK => ?_) AllReadyH.nil
    go_simp
    refine (HASP.out _ hH2.2.2).mono ?_
    rintro e wb ⟨ub, rfl, kb, hOb⟩
    obtain ⟨aa, ac, rfl, -, -, -⟩ := hOb.form
    have hH3 : PBox x ra rc ca cc sa sc ta tc w.heap.size wb ∧ wb.heap[Y]? = some (.cells #[.int .i64 cv.over, .int .i64 cv.sum] 70) ∧ Below w3.heap.size w3 wb := ⟨hH2.1.below kb, blk kb hH2.2.1, hH2.2.2.trans (kb.mono hH2.2.2.size)⟩
    clear kb
    go_wp2_with fail
    refine hK.out _ _ hH3 (fun _ => ?_)
    clear hK K
    try simp only [Act.put, List.setIfInBounds_toArray, List.set_cons_zero, List.set_cons_succ]
    refine wpAnyH_ready (rs := [8]) (by kernel_rfl) (by simp) ?_
    refine AllReadyH.cons (at_op rfl) (fun K hK => ?_) AllReadyH.nil
    go_simp
    refine (HCA.out _ hH3.2.2 aa ac _ _ hOb.rd (Nat.le_refl _)).mono ?_
    rintro e wc ⟨rfl, kc⟩
    clear hOb
    have hH4 : PBox x ra rc ca cc sa sc ta tc w.heap.size wc ∧ wc.heap[Y]? = some (.cells #[.int .i64 cv.over, .int .i64 cv.sum] 70) ∧ Below w3.heap.size w3 wc := ⟨hH3.1.below kc, blk kc hH3.2.1, hH3.2.2.trans (kc.mono hH3.2.2.size)⟩
    clear kc
    go_wp2_with fail
    refine hK.out _ _ hH4 (fun _ => ?_)
    clear hK K
    try simp only [Act.put, List.setIfInBounds_toArray, List.set_cons_zero, List.set_cons_succ]
    refine wpAnyH_ready (rs := [10]) (by kernel_rfl) (by simp) ?_
    refine AllReadyH.cons (at_op rfl) (fun K hK => ?_) AllReadyH.nil
    go_simp
    refine (HCLS.out wc).mono ?_
    rintro e we ⟨rfl, kd⟩
    have hH5 : PBox x ra rc ca cc sa sc ta tc w.heap.size we ∧ we.heap[Y]? = some (.cells #[.int .i64 cv.over, .int .i64 cv.sum] 70) ∧ Below w3.heap.size w3 we := ⟨hH4.1.below kd, blk kd hH4.2.1, hH4.2.2.trans (kd.mono hH4.2.2.size)⟩
    clear kd
    go_wp2_with fail
    refine hK.out _ _ hH5 (fun _ => ?_)
    clear hK K
    try simp only [Act.put, List.setIfInBounds_toArray, List.set_cons_zero, List.set_cons_succ]
    refine wpAnyH_take (i := 11) (v := ?v18) (at_op rfl) (by kernel_rfl) (by kernel_rfl) (by kernel_rfl) (fun _ _ _ h => h) (Or.inl ⟨by rfl, ?y18⟩) (by assumption) ?r18
    case y18 =>
      intro wx hSx
      obtain ⟨p0, p1, p2, p3, p4⟩ := (hSx.1).five; obtain ⟨y0, y1⟩ := two_c hSx.2.1
      go_simp
      try with_reducible rfl
    try simp only [Act.put, List.setIfInBounds_toArray, List.set_cons_zero, List.set_cons_succ]
    refine wpAnyH_take (i := 12) (v := ?v19) (at_op rfl) (by kernel_rfl) (by kernel_rfl) (by kernel_rfl) (fun _ _ _ h => h) (Or.inl ⟨by rfl, ?y19⟩) (by assumption) ?r19
    case y19 =>
      intro wx hSx
      obtain ⟨p0, p1, p2, p3, p4⟩ := (hSx.1).five; obtain ⟨y0, y1⟩ := two_c hSx.2.1
      go_simp
      try with_reducible rfl
    try simp only [Act.put, List.setIfInBounds_toArray, List.set_cons_zero, List.set_cons_succ]
    refine wpAnyH_take (i := 13) (v := ?v20) (at_op rfl) (by kernel_rfl) (by kernel_rfl) (by kernel_rfl) (fun _ _ _ h => h) (Or.inl ⟨by rfl, ?y20⟩) (by assumption) ?r20
    case y20 =>
      intro wx hSx
      obtain ⟨p0, p1, p2, p3, p4⟩ := (hSx.1).five; obtain ⟨y0, y1⟩ := two_c hSx.2.1
      go_simp
      try with_reducible rfl
    try simp only [Act.put, List.setIfInBounds_toArray, List.set_cons_zero, List.set_cons_succ]
    refine wpAnyH_done (by kernel_rfl) ?_ _
    go_wp2
    go_ret
    exact ⟨rfl, hb3.trans (hH5.2.2.mono hb3.size)⟩
set_option maxHeartbeats 4000000 in
set_option maxRecDepth 100000 in
theorem trueSearch_impl (x : Piece) (ra ca sa ta : Option Addr) (rc cc sc tc lo hi : Nat) (wd budget : Int) (w : World) (hp : PFour x ra rc ca cc sa sc ta tc lo hi w) (hh : hi ≤ w.heap.size) (hz : Sized x) :
    Calls Tryz.prog 15 #[x.v ra rc ca cc sa sc ta tc, .int .i64 wd, .int .i64 budget] w fun e w' => e = .returned (.bool true) ∧ Below w.heap.size w w' := by
  have HPP := Lib.hid (fun (w2 : World) (h2 : Below w.heap.size w w2) => hp.below h2 hh)
  have hX0 := PBox.new x ra ca sa ta rc cc sc tc w
  have hb0 : Below w.heap.size w (w.alloc (.cells #[.int .i64 x.indent, .slice ra x.rules.length rc, .slice ca x.chunks.length cc, .slice sa x.spans.length sc, .slice ta x.ties.length tc] 38)) := (Below.refl _ _).alloc (Nat.le_refl _) _
  obtain ⟨sb, hsb⟩ : ∃ sb, Hid (searchB x wd budget = sb) := ⟨_, rfl⟩
  obtain ⟨ss, hss⟩ : ∃ ss, Hid (searchS x wd budget = ss) := ⟨_, rfl⟩
  unfold Piece.v
  go_enter Tryz.func15, Tryz.ntmps15
  go_upto_region 1 with fail
  generalize w.alloc (.cells #[.int .i64 x.indent, .slice ra x.rules.length rc, .slice ca x.chunks.length cc, .slice sa x.spans.length sc, .slice ta x.ties.length tc] 38) = w0 at *
  have hs0 := hb0.size
  have hxl0 := hX0.lt
  have HSE := search_impl x ra ca sa ta rc cc sc tc lo hi wd budget w0 (HPP.out w0 hb0) (by omega) hz
  rw [hsb.out, hss.out] at HSE
  unfold Piece.v at HSE
  replace HSE := Lib.hid HSE
  obtain ⟨p0, p1, p2, p3, p4⟩ := hX0.five
  go_wp2_with fail
  refine HSE.out.mono ?_
  clear HSE p0 p1 p2 p3 p4
  rintro e w1 ⟨u1, rfl, k1, hO1⟩
  obtain ⟨va, vc, rfl, -, -, -⟩ := hO1.form
  have hb1 := hb0.trans (k1.mono hs0)
  have hs1 := k1.size
  have hX1 := hX0.below k1
  clear hX0 hb0 k1
  have HBO := bestOf_impl x ra ca sa ta rc cc sc tc lo hi wd w1 (HPP.out w1 hb1) (by omega) hz
  unfold Piece.v at HBO
  replace HBO := Lib.hid HBO
  obtain ⟨p0, p1, p2, p3, p4⟩ := hX1.five
  cases g2 : pieceOk x with
  | false =>
    obtain rfl : ([] : List Int) = sb := by rw [← hsb.out]; unfold searchB; rw [g2]; rfl
    obtain rfl : (0 : Int) = ss := by rw [← hss.out]; unfold searchS; rw [g2]; rfl
    have HG2 := Lib.hid g2
    clear hsb hss g2
    go_wp2_with fail
    refine HBO.out.mono ?_
    clear HBO p0 p1 p2 p3 p4
    rintro e w2 ⟨k2, h2, -⟩
    obtain ⟨u2, rfl, -⟩ := h2 HG2.out
    have hb2 := hb1.trans (k2.mono hb1.size)
    clear h2
    go_wp2
    go_ret
    exact ⟨rfl, hb2.alloc hb2.size _⟩
  | true =>
  have hx := right_of g2
  have HG2 := Lib.hid g2
  have HGO : (huntL x wd budget).best = sb ∧ (huntL x wd budget).state = ss := ⟨by rw [← hsb.out]; unfold searchB; rw [g2]; rfl, by rw [← hss.out]; unfold searchS; rw [g2]; rfl⟩
  have HHL := (hunt_law hx hz wd budget).1
  have hgood := HHL.good
  have hall := HHL.all
  have hbest := HHL.best
  rw [HGO.1] at hgood hall hbest
  rw [HGO.2] at hbest
  have HGD := Lib.hid hgood
  have HAL := Lib.hid hall
  have HBE := Lib.hid hbest
  have HFU := Lib.hid hgood.fullV
  have hss2 : Hid ((huntL x wd budget).state = ss) := HGO.2
  clear hgood hall hbest HHL HGO hsb hss g2
  go_wp2_with fail
  refine HBO.out.mono ?_
  clear HBO p0 p1 p2 p3 p4
  rintro e w2 ⟨k2, -, h2⟩
  obtain ⟨u2, bb, hib, rfl, hO2⟩ := h2 HG2.out
  have HIB := Lib.hid hib
  obtain ⟨ba, bc, rfl, -, -, -⟩ := hO2.form
  clear h2 hib
  have hb2 := hb1.trans (k2.mono hb1.size)
  have hs2 := k2.size
  have hX2 := hX1.below k2
  have hV2 := hO1.below k2 (Nat.le_refl _)
  obtain ⟨cst, hcst⟩ : ∃ cst, Hid (costR x bb wd = cst) := ⟨_, rfl⟩
  rw [hcst.out]
  go_upto_region 3 with fail
  have k3 : Below w2.heap.size w2 (w2.alloc (.cells #[.int .i64 cst.over, .int .i64 cst.sum] 70)) := (Below.refl _ _).alloc (Nat.le_refl _) _
  have hC3 := heap_alloc_new w2 (.cells #[.int .i64 cst.over, .int .i64 cst.sum] 70)
  generalize w2.alloc (.cells #[.int .i64 cst.over, .int .i64 cst.sum] 70) = w3 at *
  have hb3 := hb2.trans (k3.mono hb2.size)
  have hs3 := k3.size
  have hX3 := hX2.below k3
  have hV3 := hV2.below k3 (by omega)
  have hO3 := hO2.below k3 (Nat.le_refl _)
  clear hX1 hX2 hV2 hO1 hO2 hb1 hb2 k2 k3
  generalize w2.heap.size = C at *
  obtain ⟨cv, hcv⟩ : ∃ cv, Hid (costR x sb wd = cv) := ⟨_, rfl⟩
  obtain ⟨ca', hca⟩ : ∃ ca', Hid (costR x (allL x) wd = ca') := ⟨_, rfl⟩
  obtain ⟨al, hal⟩ : ∃ al, Hid (allL x = al) := ⟨_, rfl⟩
  have HALF : Hid (FullV x al) := by rw [← hal.out]; exact (all_good hx).fullV
  have HCL : Hid (costLess ca' cv = false) := by show _ = _; rw [← hca.out, ← hcv.out]; exact HAL.out
  rw [hal.out] at hca
  have HCV := Lib.hid (fun (w4 : World) (h4 : Below w3.heap.size w3 w4) => costTop_impl x sb ra ca sa ta va rc cc sc tc vc lo hi w0.heap.size w1.heap.size wd w4 (HPP.out w4 (hb3.trans (h4.mono hb3.size))) (by have := h4.size; omega) (hV3.rd.below h4 (by omega)) (by have := h4.size; omega) hz)
  have HCA := Lib.hid (fun (w4 : World) (h4 : Below w3.heap.size w3 w4) (aa : Option Addr) (ac l2 h2 : Nat) (hr : Rd intF.shape l2 h2 w4 (.slice aa al.length ac) al) (hh2 : h2 ≤ w4.heap.size) => costTop_impl x al ra ca sa ta aa rc cc sc tc ac lo hi l2 h2 wd w4 (HPP.out w4 (hb3.trans (h4.mono hb3.size))) (by have := h4.size; omega) hr hh2 hz)
  have HASP := Lib.hid (fun (w4 : World) (h4 : Below w3.heap.size w3 w4) => allSplit_impl x ra ca sa ta rc cc sc tc lo hi w4 (HPP.out w4 (hb3.trans (h4.mono hb3.size))) (by have := h4.size; omega) hx)
  have HTH := Lib.hid (fun (w4 : World) (h4 : Below w3.heap.size w3 w4) => tiesTop_impl x sb ra ca sa ta va rc cc sc tc vc lo hi w0.heap.size w1.heap.size w4 (HPP.out w4 (hb3.trans (h4.mono hb3.size))) (by have := h4.size; omega) (hV3.rd.below h4 (by omega)) (by have := h4.size; omega) hx HFU.out)
  unfold Piece.v at HCV HCA HASP HTH
  rw [costB_full HG2.out HFU.out, hcv.out] at HCV
  rw [costB_full HG2.out HALF.out, hca.out] at HCA
  rw [hal.out] at HASP
  rw [HGD.out.ties] at HTH
  have HST := (hunt_law hx hz wd budget).1.state
  rw [hss2.out] at HST
  have HCVE := hcv
  clear hcv hca hal HAL HALF
  have HCLS := Lib.hid (fun w2 => costLess_impl ca' cv w2)
  rw [HCL.out] at HCLS
  obtain ⟨p0, p1, p2, p3, p4⟩ := hX3.five
  rcases HST with rfl | rfl
  · have hsbb : bb = sb := (HBE.out rfl).one HIB.out ▸ rfl
    subst hsbb
    have HEQ := equalI_any bb bb _ _ _ _ _ _ w3 hV3.rd (by omega) hO3.rd (by omega)
    rw [beq_self_eq_true] at HEQ
    replace HEQ := Lib.hid HEQ
    go_wp2_with fail
    refine HEQ.out.mono ?_
    clear HEQ p0 p1 p2 p3 p4
    rintro e w7 ⟨rfl, k7⟩
    have hX7 := hX3.below k7
    obtain ⟨p0, p1, p2, p3, p4⟩ := hX7.five
    go_wp2_with fail
    refine (HTH.out w7 k7).mono ?_
    clear p0 p1 p2 p3 p4
    rintro e w8 ⟨rfl, k8⟩
    have hk8 := k7.trans (k8.mono k7.size)
    have hX8 := hX7.below k8
    clear k7 k8 hX7
    go_wp2_with fail
    refine wp_region_held_drew (S := fun w' => PBox x ra rc ca cc sa sc ta tc w.heap.size w' ∧ Below w3.heap.size w3 w') (by kernel_rfl) ?_ (fun hHeld => ?_)
    · exact ⟨hX8, hk8.drew⟩
    generalize w8.drew = wD at *
    refine wpAnyH_take (i := 0) (v := ?v21) (at_op rfl) (by kernel_rfl) (by kernel_rfl) (by kernel_rfl) (fun _ _ _ h => h) (Or.inl ⟨by rfl, ?y21⟩) (by assumption) ?r21
    case y21 =>
      intro wx hSx
      obtain ⟨p0, p1, p2, p3, p4⟩ := (hSx.1).five
      go_simp
      try with_reducible rfl
    try simp only [Act.put, List.setIfInBounds_toArray, List.set_cons_zero, List.set_cons_succ]
    refine wpAnyH_take (i := 1) (v := ?v22) (at_op rfl) (by kernel_rfl) (by kernel_rfl) (by kernel_rfl) (fun _ _ _ h => h) (Or.inl ⟨by rfl, ?y22⟩) (by assumption) ?r22
    case y22 =>
      intro wx hSx
      obtain ⟨p0, p1, p2, p3, p4⟩ := (hSx.1).five
      go_simp
      try with_reducible rfl
    try simp only [Act.put, List.setIfInBounds_toArray, List.set_cons_zero, List.set_cons_succ]
    refine wpAnyH_take (i := 3) (v := ?v23) (at_op rfl) (by kernel_rfl) (by kernel_rfl) (by kernel_rfl) (fun _ _ _ h => h) (Or.inl ⟨by rfl, ?y23⟩) (by assumption) ?r23
    case y23 =>
      intro wx hSx
      obtain ⟨p0, p1, p2, p3, p4⟩ := (hSx.1).five
      go_simp
      try with_reducible rfl
    try simp only [Act.put, List.setIfInBounds_toArray, List.set_cons_zero, List.set_cons_succ]
    refine wpAnyH_take (i := 5) (v := ?v24) (at_op rfl) (by kernel_rfl) (by kernel_rfl) (by kernel_rfl) (fun _ _ _ h => h) (Or.inl ⟨by rfl, ?y24⟩) (by assumption) ?r24
    case y24 =>
      intro wx hSx
      obtain ⟨p0, p1, p2, p3, p4⟩ := (hSx.1).five
      go_simp
      try with_reducible rfl
    try simp only [Act.put, List.setIfInBounds_toArray, List.set_cons_zero, List.set_cons_succ]
    refine wpAnyH_take (i := 6) (v := ?v25) (at_op rfl) (by kernel_rfl) (by kernel_rfl) (by kernel_rfl) (fun _ _ _ h => h) (Or.inl ⟨by rfl, ?y25⟩) (by assumption) ?r25
    case y25 =>
      intro wx hSx
      obtain ⟨p0, p1, p2, p3, p4⟩ := (hSx.1).five
      go_simp
      try with_reducible rfl
    try simp only [Act.put, List.setIfInBounds_toArray, List.set_cons_zero, List.set_cons_succ]
    refine wpAnyH_take (i := 7) (v := ?v26) (at_op rfl) (by kernel_rfl) (by kernel_rfl) (by kernel_rfl) (fun _ _ _ h => h) (Or.inl ⟨by rfl, ?y26⟩) (by assumption) ?r26
    case y26 =>
      intro wx hSx
      obtain ⟨p0, p1, p2, p3, p4⟩ := (hSx.1).five
      go_simp
      try with_reducible rfl
    try simp only [Act.put, List.setIfInBounds_toArray, List.set_cons_zero, List.set_cons_succ]
    refine wpAnyH_ready (rs := [2]) (by kernel_rfl) (by simp) ?_
    refine AllReadyH.cons (at_op rfl) (fun K hK => ?_) AllReadyH.nil
    go_simp
    refine (HASP.out _ hHeld.2).mono ?_
    rintro e wa ⟨ua, rfl, ka, hOa⟩
    obtain ⟨aa, ac, rfl, -, -, -⟩ := hOa.form
    have hHa : PBox x ra rc ca cc sa sc ta tc w.heap.size wa ∧ Below w3.heap.size w3 wa := ⟨hHeld.1.below ka, hHeld.2.trans (ka.mono hHeld.2.size)⟩
    go_wp2_with fail
    refine hK.out _ _ hHa (fun _ => ?_)
    clear hK K
    try simp only [Act.put, List.setIfInBounds_toArray, List.set_cons_zero, List.set_cons_succ]
    refine wpAnyH_ready (rs := [4]) (by kernel_rfl) (by simp) ?_
    refine AllReadyH.cons (at_op rfl) (fun K hK => ?_) AllReadyH.nil
    go_simp
    refine (HCA.out _ hHa.2 aa ac _ _ hOa.rd (Nat.le_refl _)).mono ?_
    rintro e wb ⟨rfl, kb⟩
    have hHb : PBox x ra rc ca cc sa sc ta tc w.heap.size wb ∧ Below w3.heap.size w3 wb := ⟨hHa.1.below kb, hHa.2.trans (kb.mono hHa.2.size)⟩
    go_wp2_with fail
    refine hK.out _ _ hHb (fun _ => ?_)
    clear hK K
    try simp only [Act.put, List.setIfInBounds_toArray, List.set_cons_zero, List.set_cons_succ]
    refine wpAnyH_ready (rs := [8]) (by kernel_rfl) (by simp) ?_
    refine AllReadyH.cons (at_op rfl) (fun K hK => ?_) AllReadyH.nil
    go_simp
    refine (HCV.out _ hHb.2).mono ?_
    rintro e wc ⟨rfl, kc⟩
    have hHc : PBox x ra rc ca cc sa sc ta tc w.heap.size wc ∧ Below w3.heap.size w3 wc := ⟨hHb.1.below kc, hHb.2.trans (kc.mono hHb.2.size)⟩
    go_wp2_with fail
    refine hK.out _ _ hHc (fun _ => ?_)
    clear hK K
    try simp only [Act.put, List.setIfInBounds_toArray, List.set_cons_zero, List.set_cons_succ]
    refine wpAnyH_ready (rs := [9]) (by kernel_rfl) (by simp) ?_
    refine AllReadyH.cons (at_op rfl) (fun K hK => ?_) AllReadyH.nil
    go_simp
    refine (HCLS.out wc).mono ?_
    rintro e we ⟨rfl, ke⟩
    have hHz : PBox x ra rc ca cc sa sc ta tc w.heap.size we ∧ Below w3.heap.size w3 we := ⟨hHc.1.below ke, hHc.2.trans (ke.mono hHc.2.size)⟩
    go_wp2_with fail
    refine hK.out _ _ hHz (fun _ => ?_)
    clear hK K
    try simp only [Act.put, List.setIfInBounds_toArray, List.set_cons_zero, List.set_cons_succ]
    refine wpAnyH_take (i := 10) (v := ?v27) (at_op rfl) (by kernel_rfl) (by kernel_rfl) (by kernel_rfl) (fun _ _ _ h => h) (Or.inl ⟨by rfl, ?y27⟩) (by assumption) ?r27
    case y27 =>
      intro wx hSx
      obtain ⟨p0, p1, p2, p3, p4⟩ := (hSx.1).five
      go_simp
      try with_reducible rfl
    try simp only [Act.put, List.setIfInBounds_toArray, List.set_cons_zero, List.set_cons_succ]
    refine wpAnyH_take (i := 11) (v := ?v28) (at_op rfl) (by kernel_rfl) (by kernel_rfl) (by kernel_rfl) (fun _ _ _ h => h) (Or.inl ⟨by rfl, ?y28⟩) (by assumption) ?r28
    case y28 =>
      intro wx hSx
      obtain ⟨p0, p1, p2, p3, p4⟩ := (hSx.1).five
      go_simp
      try with_reducible rfl
    try simp only [Act.put, List.setIfInBounds_toArray, List.set_cons_zero, List.set_cons_succ]
    refine wpAnyH_done (by kernel_rfl) ?_ _
    go_wp2
    go_ret
    exact ⟨rfl, hb3.trans (hHz.2.mono hb3.size)⟩
  · go_wp2_with fail
    refine (HTH.out w3 (Below.refl _ _)).mono ?_
    clear p0 p1 p2 p3 p4
    rintro e w8 ⟨rfl, hk8⟩
    have hX8 := hX3.below hk8
    go_wp2_with fail
    refine wp_region_held_drew (S := fun w' => PBox x ra rc ca cc sa sc ta tc w.heap.size w' ∧ Below w3.heap.size w3 w') (by kernel_rfl) ?_ (fun hHeld => ?_)
    · exact ⟨hX8, hk8.drew⟩
    generalize w8.drew = wD at *
    refine wpAnyH_take (i := 0) (v := ?v29) (at_op rfl) (by kernel_rfl) (by kernel_rfl) (by kernel_rfl) (fun _ _ _ h => h) (Or.inl ⟨by rfl, ?y29⟩) (by assumption) ?r29
    case y29 =>
      intro wx hSx
      obtain ⟨p0, p1, p2, p3, p4⟩ := (hSx.1).five
      go_simp
      try with_reducible rfl
    try simp only [Act.put, List.setIfInBounds_toArray, List.set_cons_zero, List.set_cons_succ]
    refine wpAnyH_take (i := 1) (v := ?v30) (at_op rfl) (by kernel_rfl) (by kernel_rfl) (by kernel_rfl) (fun _ _ _ h => h) (Or.inl ⟨by rfl, ?y30⟩) (by assumption) ?r30
    case y30 =>
      intro wx hSx
      obtain ⟨p0, p1, p2, p3, p4⟩ := (hSx.1).five
      go_simp
      try with_reducible rfl
    try simp only [Act.put, List.setIfInBounds_toArray, List.set_cons_zero, List.set_cons_succ]
    refine wpAnyH_take (i := 3) (v := ?v31) (at_op rfl) (by kernel_rfl) (by kernel_rfl) (by kernel_rfl) (fun _ _ _ h => h) (Or.inl ⟨by rfl, ?y31⟩) (by assumption) ?r31
    case y31 =>
      intro wx hSx
      obtain ⟨p0, p1, p2, p3, p4⟩ := (hSx.1).five
      go_simp
      try with_reducible rfl
    try simp only [Act.put, List.setIfInBounds_toArray, List.set_cons_zero, List.set_cons_succ]
    refine wpAnyH_take (i := 5) (v := ?v32) (at_op rfl) (by kernel_rfl) (by kernel_rfl) (by kernel_rfl) (fun _ _ _ h => h) (Or.inl ⟨by rfl, ?y32⟩) (by assumption) ?r32
    case y32 =>
      intro wx hSx
      obtain ⟨p0, p1, p2, p3, p4⟩ := (hSx.1).five
      go_simp
      try with_reducible rfl
    try simp only [Act.put, List.setIfInBounds_toArray, List.set_cons_zero, List.set_cons_succ]
    refine wpAnyH_take (i := 6) (v := ?v33) (at_op rfl) (by kernel_rfl) (by kernel_rfl) (by kernel_rfl) (fun _ _ _ h => h) (Or.inl ⟨by rfl, ?y33⟩) (by assumption) ?r33
    case y33 =>
      intro wx hSx
      obtain ⟨p0, p1, p2, p3, p4⟩ := (hSx.1).five
      go_simp
      try with_reducible rfl
    try simp only [Act.put, List.setIfInBounds_toArray, List.set_cons_zero, List.set_cons_succ]
    refine wpAnyH_take (i := 7) (v := ?v34) (at_op rfl) (by kernel_rfl) (by kernel_rfl) (by kernel_rfl) (fun _ _ _ h => h) (Or.inl ⟨by rfl, ?y34⟩) (by assumption) ?r34
    case y34 =>
      intro wx hSx
      obtain ⟨p0, p1, p2, p3, p4⟩ := (hSx.1).five
      go_simp
      try with_reducible rfl
    try simp only [Act.put, List.setIfInBounds_toArray, List.set_cons_zero, List.set_cons_succ]
    refine wpAnyH_ready (rs := [2]) (by kernel_rfl) (by simp) ?_
    refine AllReadyH.cons (at_op rfl) (fun K hK => ?_) AllReadyH.nil
    go_simp
    refine (HASP.out _ hHeld.2).mono ?_
    rintro e wa ⟨ua, rfl, ka, hOa⟩
    obtain ⟨aa, ac, rfl, -, -, -⟩ := hOa.form
    have hHa : PBox x ra rc ca cc sa sc ta tc w.heap.size wa ∧ Below w3.heap.size w3 wa := ⟨hHeld.1.below ka, hHeld.2.trans (ka.mono hHeld.2.size)⟩
    go_wp2_with fail
    refine hK.out _ _ hHa (fun _ => ?_)
    clear hK K
    try simp only [Act.put, List.setIfInBounds_toArray, List.set_cons_zero, List.set_cons_succ]
    refine wpAnyH_ready (rs := [4]) (by kernel_rfl) (by simp) ?_
    refine AllReadyH.cons (at_op rfl) (fun K hK => ?_) AllReadyH.nil
    go_simp
    refine (HCA.out _ hHa.2 aa ac _ _ hOa.rd (Nat.le_refl _)).mono ?_
    rintro e wb ⟨rfl, kb⟩
    have hHb : PBox x ra rc ca cc sa sc ta tc w.heap.size wb ∧ Below w3.heap.size w3 wb := ⟨hHa.1.below kb, hHa.2.trans (kb.mono hHa.2.size)⟩
    go_wp2_with fail
    refine hK.out _ _ hHb (fun _ => ?_)
    clear hK K
    try simp only [Act.put, List.setIfInBounds_toArray, List.set_cons_zero, List.set_cons_succ]
    refine wpAnyH_ready (rs := [8]) (by kernel_rfl) (by simp) ?_
    refine AllReadyH.cons (at_op rfl) (fun K hK => ?_) AllReadyH.nil
    go_simp
    refine (HCV.out _ hHb.2).mono ?_
    rintro e wc ⟨rfl, kc⟩
    have hHc : PBox x ra rc ca cc sa sc ta tc w.heap.size wc ∧ Below w3.heap.size w3 wc := ⟨hHb.1.below kc, hHb.2.trans (kc.mono hHb.2.size)⟩
    go_wp2_with fail
    refine hK.out _ _ hHc (fun _ => ?_)
    clear hK K
    try simp only [Act.put, List.setIfInBounds_toArray, List.set_cons_zero, List.set_cons_succ]
    refine wpAnyH_ready (rs := [9]) (by kernel_rfl) (by simp) ?_
    refine AllReadyH.cons (at_op rfl) (fun K hK => ?_) AllReadyH.nil
    go_simp
    refine (HCLS.out wc).mono ?_
    rintro e we ⟨rfl, ke⟩
    have hHz : PBox x ra rc ca cc sa sc ta tc w.heap.size we ∧ Below w3.heap.size w3 we := ⟨hHc.1.below ke, hHc.2.trans (ke.mono hHc.2.size)⟩
    go_wp2_with fail
    refine hK.out _ _ hHz (fun _ => ?_)
    clear hK K
    try simp only [Act.put, List.setIfInBounds_toArray, List.set_cons_zero, List.set_cons_succ]
    refine wpAnyH_take (i := 10) (v := ?v35) (at_op rfl) (by kernel_rfl) (by kernel_rfl) (by kernel_rfl) (fun _ _ _ h => h) (Or.inl ⟨by rfl, ?y35⟩) (by assumption) ?r35
    case y35 =>
      intro wx hSx
      obtain ⟨p0, p1, p2, p3, p4⟩ := (hSx.1).five
      go_simp
      try with_reducible rfl
    try simp only [Act.put, List.setIfInBounds_toArray, List.set_cons_zero, List.set_cons_succ]
    refine wpAnyH_take (i := 11) (v := ?v36) (at_op rfl) (by kernel_rfl) (by kernel_rfl) (by kernel_rfl) (fun _ _ _ h => h) (Or.inl ⟨by rfl, ?y36⟩) (by assumption) ?r36
    case y36 =>
      intro wx hSx
      obtain ⟨p0, p1, p2, p3, p4⟩ := (hSx.1).five
      go_simp
      try with_reducible rfl
    try simp only [Act.put, List.setIfInBounds_toArray, List.set_cons_zero, List.set_cons_succ]
    refine wpAnyH_done (by kernel_rfl) ?_ _
    go_wp2
    go_ret
    exact ⟨rfl, hb3.trans (hHz.2.mono hb3.size)⟩
end Go.Proofs.YtllpgomloblfjaaGreat
