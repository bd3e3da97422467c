/- The walk of FnExactCommonOf: the law answers true and leaves the old blocks alone. -/
import Derived.Test.YthfeochekadhcaaDiffW
import Derived.Test.YthfeochekadhcaaHString
namespace Go.Proofs.Ythfeochekadhcaa
open Go.ChangeShapes Go.WideShapes Go.ChangeAt Go.RowKit
open Go.ChangeMaps (open_string shut_string)

set_option maxHeartbeats 1000000 in
set_option maxRecDepth 100000 in
theorem lawCommonOf_any (xs0 : List ByteArray) (v0 : Value) (xs1 : List ByteArray) (v1 : Value) (w : World) (hr0 : Rd strF.shape 0 w.heap.size w v0 xs0) (hk0 : ∀ x ∈ xs0, SzOk x) (hr1 : Rd strF.shape 0 w.heap.size w v1 xs1) (hk1 : ∀ x ∈ xs1, SzOk x) :
    Calls Try.prog 9 #[v0, v1] w fun e w' => e = .returned (.bool true) ∧ Below w.heap.size w w' := by
  go_enter Try.func9, Try.ntmps9
  go_wp2_with fail
  refine (szStringS_any xs0 _ _ _ _ _ hr0 (by omega) (by omega) (by omega) hk0).mono ?_
  rintro e w1 ⟨rfl, hb1⟩
  have s1 := hb1.size
  have HB1 := hb1
  by_cases hz0 : szR (1048576) (strWts xs0) < 0
  · go_wp2
    go_ret
    exact ⟨rfl, HB1⟩
  have hn0 := szR_nneg hz0
  have hl0 : xs0.length ≤ 1048576 := by have := strWts_ge xs0; omega
  have hy0 := Lib.hid (szR_yes hn0)
  rw [← hy0.out] at hz0 ⊢
  go_wp2_with fail
  refine (szStringS_any xs1 _ _ _ _ _ (hr1.same (.of_below hb1 (by omega))) (by omega) (by omega) (by omega) hk1).mono ?_
  rintro e w2 ⟨rfl, hb2⟩
  have s2 := hb2.size
  have HB2 := HB1.trans (hb2.mono HB1.size)
  clear HB1
  by_cases hz1 : szR (1048576 - ((strWts xs0 : Nat) : Int)) (strWts xs1) < 0
  · go_wp2
    go_ret
    exact ⟨rfl, HB2⟩
  have hn1 := szR_nneg hz1
  have hl1 : xs1.length ≤ 1048576 := by have := strWts_ge xs1; omega
  have hy1 := Lib.hid (szR_yes hn1)
  rw [← hy1.out] at hz1 ⊢
  go_wp2_with fail
  refine (toStringS_any xs0 _ _ _ _ ((hr0.same (.of_below hb1 (by omega))).same (.of_below hb2 (by omega))) (by omega) hl0).mono ?_
  rintro e w3 ⟨uc0, rfl, hb3, hoc0⟩
  have s3 := hb3.size
  have HB3 := HB2.trans (hb3.mono HB2.size)
  clear HB2
  go_wp2_with fail
  refine (toStringS_any xs1 _ _ _ _ (((hr1.same (.of_below hb1 (by omega))).same (.of_below hb2 (by omega))).same (.of_below hb3 (by omega))) (by omega) hl1).mono ?_
  rintro e w4 ⟨uc1, rfl, hb4, hoc1⟩
  have s4 := hb4.size
  have HB4 := HB3.trans (hb4.mono HB3.size)
  clear HB3
  go_wp2_with fail
  refine (commonOf_spec (hoc0.same (.of_below hb4 (by omega))).rd (by omega) hoc1.rd (by omega)).mono ?_
  rintro e w5 ⟨rfl, hb5⟩
  have s5 := hb5.size
  have HB5 := HB4.trans (hb5.mono HB4.size)
  clear HB4
  go_wp2_with fail
  refine (toStringS_any xs0 _ _ _ _ (((((hr0.same (.of_below hb1 (by omega))).same (.of_below hb2 (by omega))).same (.of_below hb3 (by omega))).same (.of_below hb4 (by omega))).same (.of_below hb5 (by omega))) (by omega) hl0).mono ?_
  rintro e w6 ⟨ux0, rfl, hb6, hox0⟩
  have s6 := hb6.size
  have HB6 := HB5.trans (hb6.mono HB5.size)
  clear HB5
  go_wp2_with fail
  refine (toStringS_any xs1 _ _ _ _ ((((((hr1.same (.of_below hb1 (by omega))).same (.of_below hb2 (by omega))).same (.of_below hb3 (by omega))).same (.of_below hb4 (by omega))).same (.of_below hb5 (by omega))).same (.of_below hb6 (by omega))) (by omega) hl1).mono ?_
  rintro e w7 ⟨ux1, rfl, hb7, hox1⟩
  have s7 := hb7.size
  have HB7 := HB6.trans (hb7.mono HB6.size)
  clear HB6
  go_wp2_with fail
  refine (commonOf_impl (hox0.same (.of_below hb7 (by omega))).rd (by omega) hox1.rd (by omega)).mono ?_
  rintro e w8 ⟨rfl, hb8⟩
  have s8 := hb8.size
  have HB8 := HB7.trans (hb8.mono HB7.size)
  clear HB7
  go_wp2_with fail
  refine (toStringS_any xs0 _ _ _ _ ((((((((hr0.same (.of_below hb1 (by omega))).same (.of_below hb2 (by omega))).same (.of_below hb3 (by omega))).same (.of_below hb4 (by omega))).same (.of_below hb5 (by omega))).same (.of_below hb6 (by omega))).same (.of_below hb7 (by omega))).same (.of_below hb8 (by omega))) (by omega) hl0).mono ?_
  rintro e w9 ⟨uy0, rfl, hb9, hoy0⟩
  have s9 := hb9.size
  have HB9 := HB8.trans (hb9.mono HB8.size)
  clear HB8
  go_wp2_with fail
  refine (eqStringS_any xs0 _ _ _ _ _ _ _ (((hox0.same (.of_below hb7 (by omega))).same (.of_below hb8 (by omega))).same (.of_below hb9 (by omega))).rd (by omega) hoy0.rd (by omega)).mono ?_
  rintro e w10 ⟨rfl, hb10⟩
  have s10 := hb10.size
  have HB10 := HB9.trans (hb10.mono HB9.size)
  clear HB9
  go_wp2_with fail
  refine (toStringS_any xs1 _ _ _ _ ((((((((((hr1.same (.of_below hb1 (by omega))).same (.of_below hb2 (by omega))).same (.of_below hb3 (by omega))).same (.of_below hb4 (by omega))).same (.of_below hb5 (by omega))).same (.of_below hb6 (by omega))).same (.of_below hb7 (by omega))).same (.of_below hb8 (by omega))).same (.of_below hb9 (by omega))).same (.of_below hb10 (by omega))) (by omega) hl1).mono ?_
  rintro e w11 ⟨uy1, rfl, hb11, hoy1⟩
  have s11 := hb11.size
  have HB11 := HB10.trans (hb11.mono HB10.size)
  clear HB10
  go_wp2_with fail
  refine (eqStringS_any xs1 _ _ _ _ _ _ _ ((((hox1.same (.of_below hb8 (by omega))).same (.of_below hb9 (by omega))).same (.of_below hb10 (by omega))).same (.of_below hb11 (by omega))).rd (by omega) hoy1.rd (by omega)).mono ?_
  rintro e w12 ⟨rfl, hb12⟩
  have s12 := hb12.size
  have HB12 := HB11.trans (hb12.mono HB11.size)
  clear HB11
  go_wp2
  go_ret
  exact ⟨rfl, HB12⟩
end Go.Proofs.Ythfeochekadhcaa
