/- The walk of FnExactDiffOf: the law answers true and leaves the old blocks alone. -/
import Derived.Test.YthfeochekadhcaaDiffW
import Derived.Test.YthfeochekadhcaaHString
namespace Go.Proofs.Ythfeochekadhcaa
open Go.ChangeShapes Go.WideShapes Go.ChangeAt Go.RowKit
open Go.ChangeMaps (open_string shut_string)

set_option maxHeartbeats 1000000 in
set_option maxRecDepth 100000 in
theorem lawDiffOf_any (xs0 : List ByteArray) (v0 : Value) (xs1 : List ByteArray) (v1 : Value) (w : World) (hr0 : Rd strF.shape 0 w.heap.size w v0 xs0) (hk0 : ∀ x ∈ xs0, SzOk x) (hr1 : Rd strF.shape 0 w.heap.size w v1 xs1) (hk1 : ∀ x ∈ xs1, SzOk x) :
    Calls Try.prog 14 #[v0, v1] w fun e w' => e = .returned (.bool true) ∧ Below w.heap.size w w' := by
  go_enter Try.func14, Try.ntmps14
  go_wp2_with fail
  refine (szStringS_any xs0 _ _ _ _ _ hr0 (by omega) (by omega) (by omega) hk0).mono ?_
  rintro e w1 ⟨rfl, hb1⟩
  have s1 := hb1.size
  have HB1 := hb1
  by_cases hz0 : szR (1048576) (strWts xs0) < 0
  · go_wp2
    go_ret
    exact ⟨rfl, HB1⟩
  have hn0 := szR_nneg hz0
  have hl0 : xs0.length ≤ 1048576 := by have := strWts_ge xs0; omega
  have hy0 := Lib.hid (szR_yes hn0)
  rw [← hy0.out] at hz0 ⊢
  go_wp2_with fail
  refine (szStringS_any xs1 _ _ _ _ _ (hr1.same (.of_below hb1 (by omega))) (by omega) (by omega) (by omega) hk1).mono ?_
  rintro e w2 ⟨rfl, hb2⟩
  have s2 := hb2.size
  have HB2 := HB1.trans (hb2.mono HB1.size)
  clear HB1
  by_cases hz1 : szR (1048576 - ((strWts xs0 : Nat) : Int)) (strWts xs1) < 0
  · go_wp2
    go_ret
    exact ⟨rfl, HB2⟩
  have hn1 := szR_nneg hz1
  have hl1 : xs1.length ≤ 1048576 := by have := strWts_ge xs1; omega
  have hy1 := Lib.hid (szR_yes hn1)
  rw [← hy1.out] at hz1 ⊢
  go_wp2_with fail
  refine (toStringS_any xs0 _ _ _ _ ((hr0.same (.of_below hb1 (by omega))).same (.of_below hb2 (by omega))) (by omega) hl0).mono ?_
  rintro e w3 ⟨uc0, rfl, hb3, hoc0⟩
  have s3 := hb3.size
  have HB3 := HB2.trans (hb3.mono HB2.size)
  clear HB2
  go_wp2_with fail
  refine (toStringS_any xs1 _ _ _ _ (((hr1.same (.of_below hb1 (by omega))).same (.of_below hb2 (by omega))).same (.of_below hb3 (by omega))) (by omega) hl1).mono ?_
  rintro e w4 ⟨uc1, rfl, hb4, hoc1⟩
  have s4 := hb4.size
  have HB4 := HB3.trans (hb4.mono HB3.size)
  clear HB3
  go_wp2_with fail
  refine (diffOf_spec (hoc0.same (.of_below hb4 (by omega))).rd (by omega) hoc1.rd (by omega)).mono ?_
  rintro e w5 ⟨rw, rfl, hb5, how⟩
  have s5 := hb5.size
  have HB5 := HB4.trans (hb5.mono HB4.size)
  clear HB4
  go_wp2_with fail
  refine (toStringS_any xs0 _ _ _ _ (((((hr0.same (.of_below hb1 (by omega))).same (.of_below hb2 (by omega))).same (.of_below hb3 (by omega))).same (.of_below hb4 (by omega))).same (.of_below hb5 (by omega))) (by omega) hl0).mono ?_
  rintro e w6 ⟨ux0, rfl, hb6, hox0⟩
  have s6 := hb6.size
  have HB6 := HB5.trans (hb6.mono HB5.size)
  clear HB5
  go_wp2_with fail
  refine (toStringS_any xs1 _ _ _ _ ((((((hr1.same (.of_below hb1 (by omega))).same (.of_below hb2 (by omega))).same (.of_below hb3 (by omega))).same (.of_below hb4 (by omega))).same (.of_below hb5 (by omega))).same (.of_below hb6 (by omega))) (by omega) hl1).mono ?_
  rintro e w7 ⟨ux1, rfl, hb7, hox1⟩
  have s7 := hb7.size
  have HB7 := HB6.trans (hb7.mono HB6.size)
  clear HB6
  go_wp2_with fail
  refine (diffOf_impl (hox0.same (.of_below hb7 (by omega))).rd (by omega) hox1.rd (by omega)).mono ?_
  rintro e w8 ⟨rg, rfl, hb8, hog⟩
  have s8 := hb8.size
  have HB8 := HB7.trans (hb8.mono HB7.size)
  clear HB7
  go_wp2_with fail
  refine (eqEditS_any _ _ _ _ _ _ _ _ hog.rd (by omega) (((how.same (.of_below hb6 (by omega))).same (.of_below hb7 (by omega))).same (.of_below hb8 (by omega))).rd (by omega)).mono ?_
  rintro e w9 ⟨rfl, hb9⟩
  have s9 := hb9.size
  have HB9 := HB8.trans (hb9.mono HB8.size)
  clear HB8
  go_wp2_with fail
  refine (toStringS_any xs0 _ _ _ _ (((((((((hr0.same (.of_below hb1 (by omega))).same (.of_below hb2 (by omega))).same (.of_below hb3 (by omega))).same (.of_below hb4 (by omega))).same (.of_below hb5 (by omega))).same (.of_below hb6 (by omega))).same (.of_below hb7 (by omega))).same (.of_below hb8 (by omega))).same (.of_below hb9 (by omega))) (by omega) hl0).mono ?_
  rintro e w10 ⟨uy0, rfl, hb10, hoy0⟩
  have s10 := hb10.size
  have HB10 := HB9.trans (hb10.mono HB9.size)
  clear HB9
  go_wp2_with fail
  refine (eqStringS_any xs0 _ _ _ _ _ _ _ ((((hox0.same (.of_below hb7 (by omega))).same (.of_below hb8 (by omega))).same (.of_below hb9 (by omega))).same (.of_below hb10 (by omega))).rd (by omega) hoy0.rd (by omega)).mono ?_
  rintro e w11 ⟨rfl, hb11⟩
  have s11 := hb11.size
  have HB11 := HB10.trans (hb11.mono HB10.size)
  clear HB10
  go_wp2_with fail
  refine (toStringS_any xs1 _ _ _ _ (((((((((((hr1.same (.of_below hb1 (by omega))).same (.of_below hb2 (by omega))).same (.of_below hb3 (by omega))).same (.of_below hb4 (by omega))).same (.of_below hb5 (by omega))).same (.of_below hb6 (by omega))).same (.of_below hb7 (by omega))).same (.of_below hb8 (by omega))).same (.of_below hb9 (by omega))).same (.of_below hb10 (by omega))).same (.of_below hb11 (by omega))) (by omega) hl1).mono ?_
  rintro e w12 ⟨uy1, rfl, hb12, hoy1⟩
  have s12 := hb12.size
  have HB12 := HB11.trans (hb12.mono HB11.size)
  clear HB11
  go_wp2_with fail
  refine (eqStringS_any xs1 _ _ _ _ _ _ _ (((((hox1.same (.of_below hb8 (by omega))).same (.of_below hb9 (by omega))).same (.of_below hb10 (by omega))).same (.of_below hb11 (by omega))).same (.of_below hb12 (by omega))).rd (by omega) hoy1.rd (by omega)).mono ?_
  rintro e w13 ⟨rfl, hb13⟩
  have s13 := hb13.size
  have HB13 := HB12.trans (hb13.mono HB12.size)
  clear HB12
  have HR : (difOf xs0 xs1).length ≤ 2097152 := by have := difOf_len xs0 xs1; omega
  go_wp2_with fail
  refine (markStringS_z (1) (by simp) (((((((hox0.same (.of_below hb7 (by omega))).same (.of_below hb8 (by omega))).same (.of_below hb9 (by omega))).same (.of_below hb10 (by omega))).same (.of_below hb11 (by omega))).same (.of_below hb12 (by omega))).same (.of_below hb13 (by omega))) (by omega) (by omega) (by omega) (by omega)).mono ?_
  rintro e w14 ⟨rfl, hb14, hm0⟩
  have s14 := hb14.size
  have HB14 := blw_out HB13 hb14 (by omega) (by omega)
  clear HB13
  go_wp2_with fail
  refine (markStringS_z (1 + 1 * xs0.length) (by simp) (((((((hox1.same (.of_below hb8 (by omega))).same (.of_below hb9 (by omega))).same (.of_below hb10 (by omega))).same (.of_below hb11 (by omega))).same (.of_below hb12 (by omega))).same (.of_below hb13 (by omega))).same (hb14.same (by omega) (by omega))) (by omega) (by omega) (by omega) (by omega)).mono ?_
  rintro e w15 ⟨rfl, hb15, hm1⟩
  have s15 := hb15.size
  have HB15 := blw_out HB14 hb15 (by omega) (by omega)
  clear HB14
  go_wp2_with fail
  refine (eqEditS_any _ _ _ _ _ _ _ _ (((((((hog.same (.of_below hb9 (by omega))).same (.of_below hb10 (by omega))).same (.of_below hb11 (by omega))).same (.of_below hb12 (by omega))).same (.of_below hb13 (by omega))).same (hb14.same (by omega) (by omega))).same (hb15.same (by omega) (by omega))).rd (by omega) ((((((((((how.same (.of_below hb6 (by omega))).same (.of_below hb7 (by omega))).same (.of_below hb8 (by omega))).same (.of_below hb9 (by omega))).same (.of_below hb10 (by omega))).same (.of_below hb11 (by omega))).same (.of_below hb12 (by omega))).same (.of_below hb13 (by omega))).same (hb14.same (by omega) (by omega))).same (hb15.same (by omega) (by omega))).rd (by omega)).mono ?_
  rintro e w16 ⟨rfl, hb16⟩
  have s16 := hb16.size
  have HB16 := HB15.trans (hb16.mono HB15.size)
  clear HB15
  go_wp2_with fail
  refine (markEditS_z 1 (by simp) ((((((((hog.same (.of_below hb9 (by omega))).same (.of_below hb10 (by omega))).same (.of_below hb11 (by omega))).same (.of_below hb12 (by omega))).same (.of_below hb13 (by omega))).same (hb14.same (by omega) (by omega))).same (hb15.same (by omega) (by omega))).same (.of_below hb16 (by omega))) (by omega) HR (by omega) (by omega)).mono ?_
  rintro e w17 ⟨rfl, hb17, homg⟩
  have s17 := hb17.size
  have HB17 := blw_out HB16 hb17 (by omega) (by omega)
  clear HB16
  go_wp2_with fail
  refine (heldEditS_z 1 _ (by simp) homg.rd (by omega) HR (by omega) (by omega)).mono ?_
  rintro e w18 ⟨rfl, hb18⟩
  have s18 := hb18.size
  have HB18 := HB17.trans (hb18.mono HB17.size)
  clear HB17
  go_wp2_with fail
  refine (toStringS_any xs0 _ _ _ _ ((((((((((((((((((hr0.same (.of_below hb1 (by omega))).same (.of_below hb2 (by omega))).same (.of_below hb3 (by omega))).same (.of_below hb4 (by omega))).same (.of_below hb5 (by omega))).same (.of_below hb6 (by omega))).same (.of_below hb7 (by omega))).same (.of_below hb8 (by omega))).same (.of_below hb9 (by omega))).same (.of_below hb10 (by omega))).same (.of_below hb11 (by omega))).same (.of_below hb12 (by omega))).same (.of_below hb13 (by omega))).same (hb14.same (by omega) (by omega))).same (hb15.same (by omega) (by omega))).same (.of_below hb16 (by omega))).same (hb17.same (by omega) (by omega))).same (.of_below hb18 (by omega))) (by omega) hl0).mono ?_
  rintro e w19 ⟨uz0, rfl, hb19, hoz0⟩
  have s19 := hb19.size
  have HB19 := HB18.trans (hb19.mono HB18.size)
  clear HB18
  go_wp2_with fail
  refine (toStringS_any xs1 _ _ _ _ (((((((((((((((((((hr1.same (.of_below hb1 (by omega))).same (.of_below hb2 (by omega))).same (.of_below hb3 (by omega))).same (.of_below hb4 (by omega))).same (.of_below hb5 (by omega))).same (.of_below hb6 (by omega))).same (.of_below hb7 (by omega))).same (.of_below hb8 (by omega))).same (.of_below hb9 (by omega))).same (.of_below hb10 (by omega))).same (.of_below hb11 (by omega))).same (.of_below hb12 (by omega))).same (.of_below hb13 (by omega))).same (hb14.same (by omega) (by omega))).same (hb15.same (by omega) (by omega))).same (.of_below hb16 (by omega))).same (hb17.same (by omega) (by omega))).same (.of_below hb18 (by omega))).same (.of_below hb19 (by omega))) (by omega) hl1).mono ?_
  rintro e w20 ⟨uz1, rfl, hb20, hoz1⟩
  have s20 := hb20.size
  have HB20 := HB19.trans (hb20.mono HB19.size)
  clear HB19
  go_wp2_with fail
  refine (diffOf_impl (hoz0.same (.of_below hb20 (by omega))).rd (by omega) hoz1.rd (by omega)).mono ?_
  rintro e w21 ⟨rh, rfl, hb21, hoh⟩
  have s21 := hb21.size
  have HB21 := HB20.trans (hb21.mono HB20.size)
  clear HB20
  go_wp2_with fail
  refine (eqEditS_any _ _ _ _ _ _ _ _ hoh.rd (by omega) ((((((((((((((((how.same (.of_below hb6 (by omega))).same (.of_below hb7 (by omega))).same (.of_below hb8 (by omega))).same (.of_below hb9 (by omega))).same (.of_below hb10 (by omega))).same (.of_below hb11 (by omega))).same (.of_below hb12 (by omega))).same (.of_below hb13 (by omega))).same (hb14.same (by omega) (by omega))).same (hb15.same (by omega) (by omega))).same (.of_below hb16 (by omega))).same (hb17.same (by omega) (by omega))).same (.of_below hb18 (by omega))).same (.of_below hb19 (by omega))).same (.of_below hb20 (by omega))).same (.of_below hb21 (by omega))).rd (by omega)).mono ?_
  rintro e w22 ⟨rfl, hb22⟩
  have s22 := hb22.size
  have HB22 := HB21.trans (hb22.mono HB21.size)
  clear HB21
  go_wp2_with fail
  refine (heldEditS_z 1 _ (by simp) (((((homg.same (.of_below hb18 (by omega))).same (.of_below hb19 (by omega))).same (.of_below hb20 (by omega))).same (.of_below hb21 (by omega))).same (.of_below hb22 (by omega))).rd (by omega) HR (by omega) (by omega)).mono ?_
  rintro e w23 ⟨rfl, hb23⟩
  have s23 := hb23.size
  have HB23 := HB22.trans (hb23.mono HB22.size)
  clear HB22
  go_wp2
  go_ret
  exact ⟨rfl, HB23⟩
end Go.Proofs.Ythfeochekadhcaa
