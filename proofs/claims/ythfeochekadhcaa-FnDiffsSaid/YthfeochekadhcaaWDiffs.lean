/- The walk of FnDiffs: what changed, done to what was, is what is, and back. -/
import Derived.Test.YthfeochekadhcaaDiffP
namespace Go.Proofs.Ythfeochekadhcaa
open Go.RowKit
theorem big_any {lo hi : Nat} {xs : List Int} {w : World} {v : Value} (hr : Rd bytS lo hi w v xs) :
    Calls Try.prog 37 #[v] w fun e w' => e = .returned (.bool (decide (1048576 < xs.length))) ∧ w = w' := by
  have hl := hr.len_le
  obtain ⟨a, c, rfl, _⟩ := hr
  go_enter Try.func37, Try.ntmps37
  go_wp2
  go_ret
  exact ⟨ret_bool (by simp; omega), rfl⟩
set_option maxHeartbeats 4000000 in
set_option maxRecDepth 100000 in
theorem lawDiffs_any (xs : List Int) (v : Value) (w : World) (hr : Rd bytS 0 w.heap.size w v xs) (hx : ∀ x ∈ xs, U8 x) :
    Calls Try.prog 8 #[v] w fun e w' => e = .returned (.bool true) ∧ Below w.heap.size w w' := by
  go_enter Try.func8, Try.ntmps8
  go_wp2_with fail
  refine (big_any hr).mono ?_
  rintro e w0 ⟨rfl, rfl⟩
  by_cases hbig : 1048576 < xs.length
  · have hd : decide (1048576 < xs.length) = true := decide_eq_true hbig
    rw [hd]
    go_wp2
    go_ret
    exact ⟨rfl, Below.refl _ _⟩
  have hd : decide (1048576 < xs.length) = false := decide_eq_false hbig
  rw [hd]
  have hl : xs.length ≤ 1048576 := by omega
  clear hd hbig
  go_wp2_with fail
  have q := drawLines_any hr (by omega) hx hl
  refine q.mono ?_
  clear q
  rintro e w1 ⟨ra, rb, la, lb, rfl, ka, kb, _, _, ha, hB, hb1⟩
  have s1 := hb1.size
  have HB1 := hb1
  obtain ⟨L1, L2, L3, L4⟩ := dif_law _ la lb (Nat.le_refl _)
  have L5 : difOf la lb = dif la lb := by unfold difOf; exact if_pos ⟨by omega, by omega⟩
  have L6 : comOf la lb = lcs la lb := by unfold comOf; exact if_pos ⟨by omega, by omega⟩
  have L7 : comOf lb la = lcs la lb := by unfold comOf; rw [lcs_comm _ la lb (Nat.le_refl _)]; exact if_pos ⟨by omega, by omega⟩
  have L8 := lcs_le_left la lb
  generalize lcs la lb = n at *
  generalize hD : dif la lb = D at *
  clear hD
  obtain ⟨aa, ac, rfl, _, ac2, _⟩ := id ha
  obtain ⟨ba, bc, rfl, _, bc2, _⟩ := id hB
  unfold maxLen at ac2 bc2
  go_wp2_with fail
  have q := diffOf_impl ha (by omega) hB (by omega)
  rw [L5] at q
  refine q.mono ?_
  clear q
  rintro e w2 ⟨rd, rfl, hb2, hod⟩
  obtain ⟨da, dc, rfl, _, dc2, _⟩ := hod.form
  unfold maxLen at dc2
  have s2 := hb2.size
  have HB2 := HB1.trans (hb2.mono HB1.size)
  clear HB1
  go_wp2_with fail
  have q := applyEdits_impl (ha.same (.of_below hb2 (by omega))) (by omega) hod.rd (by omega) (by omega) (by omega)
  rw [L1] at q
  refine q.mono ?_
  clear q
  rintro e w3 ⟨ux, he, hb3, hox⟩
  obtain rfl : e = .returned (.tuple #[ux, .bool true]) := he
  have s3 := hb3.size
  have HB3 := HB2.trans (hb3.mono HB2.size)
  clear HB2
  replace hox : Own strF 9 w2.heap.size w3.heap.size w3 ux lb := hox
  go_wp2_with fail
  have q := backOf_impl (hod.rd.same (.of_below hb3 (by omega))) (by omega) (by omega)
  refine q.mono ?_
  clear q
  rintro e w4 ⟨uk, rfl, hb4, hok⟩
  have s4 := hb4.size
  have HB4 := HB3.trans (hb4.mono HB3.size)
  clear HB3
  go_wp2_with fail
  have q := applyEdits_impl (((hB.same (.of_below hb2 (by omega))).same (.of_below hb3 (by omega))).same (.of_below hb4 (by omega))) (by omega) hok.rd (by omega) (by omega) (by rw [List.length_map]; omega)
  rw [L2] at q
  refine q.mono ?_
  clear q
  rintro e w5 ⟨uy, he, hb5, hoy⟩
  obtain rfl : e = .returned (.tuple #[uy, .bool true]) := he
  have s5 := hb5.size
  have HB5 := HB4.trans (hb5.mono HB4.size)
  clear HB4
  replace hoy : Own strF 9 w4.heap.size w5.heap.size w5 uy la := hoy
  go_wp2_with fail
  have q := commonOf_impl ((((ha.same (.of_below hb2 (by omega))).same (.of_below hb3 (by omega))).same (.of_below hb4 (by omega))).same (.of_below hb5 (by omega))) (by omega) ((((hB.same (.of_below hb2 (by omega))).same (.of_below hb3 (by omega))).same (.of_below hb4 (by omega))).same (.of_below hb5 (by omega))) (by omega)
  rw [L6] at q
  refine q.mono ?_
  clear q
  rintro e w6 ⟨rfl, hb6⟩
  have s6 := hb6.size
  have HB6 := HB5.trans (hb6.mono HB5.size)
  clear HB5
  go_wp2_with fail
  have q := drawDiffOf_any ((((((hr.same (.of_below hb1 (by omega))).same (.of_below hb2 (by omega))).same (.of_below hb3 (by omega))).same (.of_below hb4 (by omega))).same (.of_below hb5 (by omega))).same (.of_below hb6 (by omega))) (by omega) hx hl
  refine q.mono ?_
  clear q
  rintro e w7 ⟨rc, rg, lc0, lg, rfl, kc, kg, _, _, hc, hg, hb7⟩
  have s7 := hb7.size
  have HB7 := HB6.trans (hb7.mono HB6.size)
  clear HB6
  go_wp2_with fail
  have q := drawApplyEdits_any (((((((hr.same (.of_below hb1 (by omega))).same (.of_below hb2 (by omega))).same (.of_below hb3 (by omega))).same (.of_below hb4 (by omega))).same (.of_below hb5 (by omega))).same (.of_below hb6 (by omega))).same (.of_below hb7 (by omega))) (by omega) hx hl
  refine q.mono ?_
  clear q
  rintro e w8 ⟨re, rf, le, lf, rfl, ke, kf, _, hE, hF, hb8⟩
  have s8 := hb8.size
  have HB8 := HB7.trans (hb8.mono HB7.size)
  clear HB7
  go_wp2_with fail
  have q := applyEdits_impl hE (by omega) hF (by omega) (by omega) (by omega)
  refine q.mono ?_
  clear q
  rintro e w9 ⟨ug, rfl, hb9, hog⟩
  have s9 := hb9.size
  have HB9 := HB8.trans (hb9.mono HB8.size)
  clear HB8
  go_wp2_with fail
  have q := applyEdits_spec (hE.same (.of_below hb9 (by omega))) (by omega) (hF.same (.of_below hb9 (by omega))) (by omega) (by omega) (by omega)
  refine q.mono ?_
  clear q
  rintro e w10 ⟨uh, rfl, hb10, hoh⟩
  have s10 := hb10.size
  have HB10 := HB9.trans (hb10.mono HB9.size)
  clear HB9
  go_wp2_with fail
  have q := drawBackOf_any ((((((((((hr.same (.of_below hb1 (by omega))).same (.of_below hb2 (by omega))).same (.of_below hb3 (by omega))).same (.of_below hb4 (by omega))).same (.of_below hb5 (by omega))).same (.of_below hb6 (by omega))).same (.of_below hb7 (by omega))).same (.of_below hb8 (by omega))).same (.of_below hb9 (by omega))).same (.of_below hb10 (by omega))) (by omega) hx hl
  refine q.mono ?_
  clear q
  rintro e w11 ⟨ri, li, rfl, ki, hi, hb11⟩
  have s11 := hb11.size
  have HB11 := HB10.trans (hb11.mono HB10.size)
  clear HB10
  generalize (apE le lf).isSome = bb at *
  have hq : ((D.length : Int) == (la.length : Int) + (lb.length : Int) - (n : Int)) = true := beq_iff_eq.2 (by omega)
  have hq2 : (D.length : Int) = (la.length : Int) + (lb.length : Int) - (n : Int) := by omega
  go_wp2_with fail
  have q := sameTx_any _ _ _ _ _ _ _ _ ((((((((hox.rd.same (.of_below hb4 (by omega))).same (.of_below hb5 (by omega))).same (.of_below hb6 (by omega))).same (.of_below hb7 (by omega))).same (.of_below hb8 (by omega))).same (.of_below hb9 (by omega))).same (.of_below hb10 (by omega))).same (.of_below hb11 (by omega))) (by omega) ((((((((((hB.same (.of_below hb2 (by omega))).same (.of_below hb3 (by omega))).same (.of_below hb4 (by omega))).same (.of_below hb5 (by omega))).same (.of_below hb6 (by omega))).same (.of_below hb7 (by omega))).same (.of_below hb8 (by omega))).same (.of_below hb9 (by omega))).same (.of_below hb10 (by omega))).same (.of_below hb11 (by omega))) (by omega)
  refine q.mono ?_
  clear q
  rintro e w12 ⟨rfl, hb12⟩
  have s12 := hb12.size
  have HB12 := HB11.trans (hb12.mono HB11.size)
  clear HB11
  go_wp2_with fail
  have q := sameTx_any _ _ _ _ _ _ _ _ (((((((hoy.rd.same (.of_below hb6 (by omega))).same (.of_below hb7 (by omega))).same (.of_below hb8 (by omega))).same (.of_below hb9 (by omega))).same (.of_below hb10 (by omega))).same (.of_below hb11 (by omega))).same (.of_below hb12 (by omega))) (by omega) (((((((((((ha.same (.of_below hb2 (by omega))).same (.of_below hb3 (by omega))).same (.of_below hb4 (by omega))).same (.of_below hb5 (by omega))).same (.of_below hb6 (by omega))).same (.of_below hb7 (by omega))).same (.of_below hb8 (by omega))).same (.of_below hb9 (by omega))).same (.of_below hb10 (by omega))).same (.of_below hb11 (by omega))).same (.of_below hb12 (by omega))) (by omega)
  refine q.mono ?_
  clear q
  rintro e w13 ⟨rfl, hb13⟩
  have s13 := hb13.size
  have HB13 := HB12.trans (hb13.mono HB12.size)
  clear HB12
  go_wp2_with fail
  have q := keptIn_impl D _ _ _ _ (((((((((((hod.rd.same (.of_below hb3 (by omega))).same (.of_below hb4 (by omega))).same (.of_below hb5 (by omega))).same (.of_below hb6 (by omega))).same (.of_below hb7 (by omega))).same (.of_below hb8 (by omega))).same (.of_below hb9 (by omega))).same (.of_below hb10 (by omega))).same (.of_below hb11 (by omega))).same (.of_below hb12 (by omega))).same (.of_below hb13 (by omega))) (by omega)
  rw [L3] at q
  refine q.mono ?_
  clear q
  rintro e w14 ⟨rfl, hb14⟩
  have s14 := hb14.size
  have HB14 := HB13.trans (hb14.mono HB13.size)
  clear HB13
  go_wp2_with fail
  have q := commonOf_impl (((((((((((((hB.same (.of_below hb2 (by omega))).same (.of_below hb3 (by omega))).same (.of_below hb4 (by omega))).same (.of_below hb5 (by omega))).same (.of_below hb6 (by omega))).same (.of_below hb7 (by omega))).same (.of_below hb8 (by omega))).same (.of_below hb9 (by omega))).same (.of_below hb10 (by omega))).same (.of_below hb11 (by omega))).same (.of_below hb12 (by omega))).same (.of_below hb13 (by omega))).same (.of_below hb14 (by omega))) (by omega) (((((((((((((ha.same (.of_below hb2 (by omega))).same (.of_below hb3 (by omega))).same (.of_below hb4 (by omega))).same (.of_below hb5 (by omega))).same (.of_below hb6 (by omega))).same (.of_below hb7 (by omega))).same (.of_below hb8 (by omega))).same (.of_below hb9 (by omega))).same (.of_below hb10 (by omega))).same (.of_below hb11 (by omega))).same (.of_below hb12 (by omega))).same (.of_below hb13 (by omega))).same (.of_below hb14 (by omega))) (by omega)
  rw [L7] at q
  refine q.mono ?_
  clear q
  rintro e w15 ⟨rfl, hb15⟩
  have s15 := hb15.size
  have HB15 := HB14.trans (hb15.mono HB14.size)
  clear HB14
  go_wp2_with fail
  have q := diffOf_impl ((((((((hc.same (.of_below hb8 (by omega))).same (.of_below hb9 (by omega))).same (.of_below hb10 (by omega))).same (.of_below hb11 (by omega))).same (.of_below hb12 (by omega))).same (.of_below hb13 (by omega))).same (.of_below hb14 (by omega))).same (.of_below hb15 (by omega))) (by omega) ((((((((hg.same (.of_below hb8 (by omega))).same (.of_below hb9 (by omega))).same (.of_below hb10 (by omega))).same (.of_below hb11 (by omega))).same (.of_below hb12 (by omega))).same (.of_below hb13 (by omega))).same (.of_below hb14 (by omega))).same (.of_below hb15 (by omega))) (by omega)
  refine q.mono ?_
  clear q
  rintro e w16 ⟨r1, rfl, hb16, ho1⟩
  have s16 := hb16.size
  have HB16 := HB15.trans (hb16.mono HB15.size)
  clear HB15
  go_wp2_with fail
  have q := diffOf_spec (((((((((hc.same (.of_below hb8 (by omega))).same (.of_below hb9 (by omega))).same (.of_below hb10 (by omega))).same (.of_below hb11 (by omega))).same (.of_below hb12 (by omega))).same (.of_below hb13 (by omega))).same (.of_below hb14 (by omega))).same (.of_below hb15 (by omega))).same (.of_below hb16 (by omega))) (by omega) (((((((((hg.same (.of_below hb8 (by omega))).same (.of_below hb9 (by omega))).same (.of_below hb10 (by omega))).same (.of_below hb11 (by omega))).same (.of_below hb12 (by omega))).same (.of_below hb13 (by omega))).same (.of_below hb14 (by omega))).same (.of_below hb15 (by omega))).same (.of_below hb16 (by omega))) (by omega)
  refine q.mono ?_
  clear q
  rintro e w17 ⟨r2, rfl, hb17, ho2⟩
  have s17 := hb17.size
  have HB17 := HB16.trans (hb17.mono HB16.size)
  clear HB16
  go_wp2_with fail
  have q := sameEdits_any _ _ _ _ _ _ _ _ (ho1.rd.same (.of_below hb17 (by omega))) (by omega) ho2.rd (by omega)
  refine q.mono ?_
  clear q
  rintro e w18 ⟨rfl, hb18⟩
  have s18 := hb18.size
  have HB18 := HB17.trans (hb18.mono HB17.size)
  clear HB17
  go_wp2_with fail
  have q := sameTx_any _ _ _ _ _ _ _ _ (((((((((hog.rd.same (.of_below hb10 (by omega))).same (.of_below hb11 (by omega))).same (.of_below hb12 (by omega))).same (.of_below hb13 (by omega))).same (.of_below hb14 (by omega))).same (.of_below hb15 (by omega))).same (.of_below hb16 (by omega))).same (.of_below hb17 (by omega))).same (.of_below hb18 (by omega))) (by omega) ((((((((hoh.rd.same (.of_below hb11 (by omega))).same (.of_below hb12 (by omega))).same (.of_below hb13 (by omega))).same (.of_below hb14 (by omega))).same (.of_below hb15 (by omega))).same (.of_below hb16 (by omega))).same (.of_below hb17 (by omega))).same (.of_below hb18 (by omega))) (by omega)
  refine q.mono ?_
  clear q
  rintro e w19 ⟨rfl, hb19⟩
  have s19 := hb19.size
  have HB19 := HB18.trans (hb19.mono HB18.size)
  clear HB18
  go_wp2_with fail
  have q := backOf_impl ((((((((hi.same (.of_below hb12 (by omega))).same (.of_below hb13 (by omega))).same (.of_below hb14 (by omega))).same (.of_below hb15 (by omega))).same (.of_below hb16 (by omega))).same (.of_below hb17 (by omega))).same (.of_below hb18 (by omega))).same (.of_below hb19 (by omega))) (by omega) (by omega)
  refine q.mono ?_
  clear q
  rintro e w20 ⟨r3, rfl, hb20, ho3⟩
  have s20 := hb20.size
  have HB20 := HB19.trans (hb20.mono HB19.size)
  clear HB19
  go_wp2_with fail
  have q := backOf_spec (((((((((hi.same (.of_below hb12 (by omega))).same (.of_below hb13 (by omega))).same (.of_below hb14 (by omega))).same (.of_below hb15 (by omega))).same (.of_below hb16 (by omega))).same (.of_below hb17 (by omega))).same (.of_below hb18 (by omega))).same (.of_below hb19 (by omega))).same (.of_below hb20 (by omega))) (by omega) (by omega)
  refine q.mono ?_
  clear q
  rintro e w21 ⟨r4, rfl, hb21, ho4⟩
  have s21 := hb21.size
  have HB21 := HB20.trans (hb21.mono HB20.size)
  clear HB20
  go_wp2_with fail
  have q := sameEdits_any _ _ _ _ _ _ _ _ (ho3.rd.same (.of_below hb21 (by omega))) (by omega) ho4.rd (by omega)
  refine q.mono ?_
  clear q
  rintro e w22 ⟨rfl, hb22⟩
  have s22 := hb22.size
  have HB22 := HB21.trans (hb22.mono HB21.size)
  clear HB21
  go_wp2_with fail
  have q := keptIn_impl li _ _ _ _ (((((((((((hi.same (.of_below hb12 (by omega))).same (.of_below hb13 (by omega))).same (.of_below hb14 (by omega))).same (.of_below hb15 (by omega))).same (.of_below hb16 (by omega))).same (.of_below hb17 (by omega))).same (.of_below hb18 (by omega))).same (.of_below hb19 (by omega))).same (.of_below hb20 (by omega))).same (.of_below hb21 (by omega))).same (.of_below hb22 (by omega))) (by omega)
  refine q.mono ?_
  clear q
  rintro e w23 ⟨rfl, hb23⟩
  have s23 := hb23.size
  have HB23 := HB22.trans (hb23.mono HB22.size)
  clear HB22
  go_wp2_with fail
  have q := keptIn_spec li _ _ _ _ ((((((((((((hi.same (.of_below hb12 (by omega))).same (.of_below hb13 (by omega))).same (.of_below hb14 (by omega))).same (.of_below hb15 (by omega))).same (.of_below hb16 (by omega))).same (.of_below hb17 (by omega))).same (.of_below hb18 (by omega))).same (.of_below hb19 (by omega))).same (.of_below hb20 (by omega))).same (.of_below hb21 (by omega))).same (.of_below hb22 (by omega))).same (.of_below hb23 (by omega))) (by omega)
  refine q.mono ?_
  clear q
  rintro e w24 ⟨rfl, hb24⟩
  have s24 := hb24.size
  have HB24 := HB23.trans (hb24.mono HB23.size)
  clear HB23
  go_wp2_with fail
  have q := commonOf_impl (((((((((((((((((hc.same (.of_below hb8 (by omega))).same (.of_below hb9 (by omega))).same (.of_below hb10 (by omega))).same (.of_below hb11 (by omega))).same (.of_below hb12 (by omega))).same (.of_below hb13 (by omega))).same (.of_below hb14 (by omega))).same (.of_below hb15 (by omega))).same (.of_below hb16 (by omega))).same (.of_below hb17 (by omega))).same (.of_below hb18 (by omega))).same (.of_below hb19 (by omega))).same (.of_below hb20 (by omega))).same (.of_below hb21 (by omega))).same (.of_below hb22 (by omega))).same (.of_below hb23 (by omega))).same (.of_below hb24 (by omega))) (by omega) (((((((((((((((((hg.same (.of_below hb8 (by omega))).same (.of_below hb9 (by omega))).same (.of_below hb10 (by omega))).same (.of_below hb11 (by omega))).same (.of_below hb12 (by omega))).same (.of_below hb13 (by omega))).same (.of_below hb14 (by omega))).same (.of_below hb15 (by omega))).same (.of_below hb16 (by omega))).same (.of_below hb17 (by omega))).same (.of_below hb18 (by omega))).same (.of_below hb19 (by omega))).same (.of_below hb20 (by omega))).same (.of_below hb21 (by omega))).same (.of_below hb22 (by omega))).same (.of_below hb23 (by omega))).same (.of_below hb24 (by omega))) (by omega)
  refine q.mono ?_
  clear q
  rintro e w25 ⟨rfl, hb25⟩
  have s25 := hb25.size
  have HB25 := HB24.trans (hb25.mono HB24.size)
  clear HB24
  go_wp2_with fail
  have q := commonOf_spec ((((((((((((((((((hc.same (.of_below hb8 (by omega))).same (.of_below hb9 (by omega))).same (.of_below hb10 (by omega))).same (.of_below hb11 (by omega))).same (.of_below hb12 (by omega))).same (.of_below hb13 (by omega))).same (.of_below hb14 (by omega))).same (.of_below hb15 (by omega))).same (.of_below hb16 (by omega))).same (.of_below hb17 (by omega))).same (.of_below hb18 (by omega))).same (.of_below hb19 (by omega))).same (.of_below hb20 (by omega))).same (.of_below hb21 (by omega))).same (.of_below hb22 (by omega))).same (.of_below hb23 (by omega))).same (.of_below hb24 (by omega))).same (.of_below hb25 (by omega))) (by omega) ((((((((((((((((((hg.same (.of_below hb8 (by omega))).same (.of_below hb9 (by omega))).same (.of_below hb10 (by omega))).same (.of_below hb11 (by omega))).same (.of_below hb12 (by omega))).same (.of_below hb13 (by omega))).same (.of_below hb14 (by omega))).same (.of_below hb15 (by omega))).same (.of_below hb16 (by omega))).same (.of_below hb17 (by omega))).same (.of_below hb18 (by omega))).same (.of_below hb19 (by omega))).same (.of_below hb20 (by omega))).same (.of_below hb21 (by omega))).same (.of_below hb22 (by omega))).same (.of_below hb23 (by omega))).same (.of_below hb24 (by omega))).same (.of_below hb25 (by omega))) (by omega)
  refine q.mono ?_
  clear q
  rintro e w26 ⟨rfl, hb26⟩
  have s26 := hb26.size
  have HB26 := HB25.trans (hb26.mono HB25.size)
  clear HB25
  go_wp2_with fail
  have hz1 := rd_lit strF w26 [ByteArray.mk #[97]] #[.string (ByteArray.mk #[97])] 9 rfl (by decide)
  have hy1 : Below w26.heap.size w26 (w26.alloc (.cells #[.string (ByteArray.mk #[97])] 9)) := (Below.refl _ _).alloc (Nat.le_refl _) _
  have hu1 : (w26.alloc (.cells #[.string (ByteArray.mk #[97])] 9)).heap.size = w26.heap.size + 1 := by simp
  generalize w26.alloc (.cells #[.string (ByteArray.mk #[97])] 9) = wx at *
  have hz2 := (Own.empty strF 9 wx.heap.size wx (Nat.le_refl _)).rd
  have hy2 : Below wx.heap.size wx (wx.alloc (.cells #[] 9)) := (Below.refl _ _).alloc (Nat.le_refl _) _
  have hu2 := hy2.size
  replace hz1 := hz1.below hy2 (by omega)
  have hyx := hy1.trans (hy2.mono (by omega))
  try rw [hu1] at *
  try rw [← hu1]
  generalize wx.alloc (.cells #[] 9) = wz at *
  have q := diffOf_impl hz1 (by omega) hz2 (Nat.le_refl _)
  rw [show difOf [ByteArray.mk #[97]] [] = [⟨2, ByteArray.mk #[97]⟩] from rfl] at q
  refine q.mono ?_
  clear q
  rintro e wl ⟨r5, rfl, hbl, ho5⟩
  obtain ⟨za, zc, hze, _, _, _⟩ := ho5.form
  obtain rfl : r5 = .slice za 1 zc := hze
  have HBl := HB26.trans ((hyx.trans (hbl.mono hyx.size)).mono HB26.size)
  go_wp2
  go_ret
  exact ⟨by trivial, HBl⟩
end Go.Proofs.Ythfeochekadhcaa
