/- The walk of FnExactFreeIn: the law answers true and leaves the old blocks alone. -/
import Derived.Test.YtiakdbcmppeniaaGreatDoorFree
import Derived.Test.YtiakdbcmppeniaaGreatDoorHNodeM
import Derived.Test.YtiakdbcmppeniaaGreatDoorHString
namespace Go.Proofs.YtiakdbcmppeniaaGreatDoor
open Go.ChangeShapes Go.WideShapes Go.ChangeAt Go.RowKit
open Go.ChangeMaps (open_string shut_string)

set_option maxHeartbeats 1000000 in
set_option maxRecDepth 100000 in
theorem lawFreeIn_any (xs0 : List Node) (v0 : Value) (a1 : Int) (w : World) (hr0 : Rd nodeS 0 w.heap.size w v0 xs0) (hk0 : ∀ x ∈ xs0, x.Ok) (_hk1 : I64 a1) :
    Calls Tryz.prog 6 #[v0, .int .i64 a1] w fun e w' => e = .returned (.bool true) ∧ Below w.heap.size w w' := by
  go_enter Tryz.func6, Tryz.ntmps6
  go_wp2_with fail
  refine (szNodeS_any xs0 _ _ _ _ _ hr0 (by omega) (by omega) (by omega) (fun x hx => (hk0 x hx).2.1)).mono ?_
  rintro e w1 ⟨rfl, hb1⟩
  have s1 := hb1.size
  have HB1 := hb1
  by_cases hz0 : szR (1048576) (Node.wts xs0) < 0
  · go_wp2
    go_ret
    exact ⟨rfl, HB1⟩
  have hn0 := szR_nneg hz0
  have hl0 : xs0.length ≤ 1048576 := by have := Node.wts_ge xs0; omega
  have hlk0 := Node.kids_le (n := 1048576) xs0 (by omega)
  have hy0 := Lib.hid (szR_yes hn0)
  rw [← hy0.out] at hz0 ⊢
  go_wp2_with fail
  refine (toNodeS_any xs0 _ _ _ _ (hr0.same (.of_below hb1 (by omega))) (by omega) hl0 hlk0).mono ?_
  rintro e w2 ⟨uc0, rfl, hb2, hoc0⟩
  have s2 := hb2.size
  have HB2 := HB1.trans (hb2.mono HB1.size)
  clear HB1
  go_wp2_with fail
  refine (free_spec _ _ _ _ a1 _ hoc0.rd (by omega) (Node.texts xs0 (by omega)) hl0).mono ?_
  rintro e w3 ⟨rw, rfl, hb3, how⟩
  have s3 := hb3.size
  have HB3 := HB2.trans (hb3.mono HB2.size)
  clear HB2
  go_wp2_with fail
  refine (toNodeS_any xs0 _ _ _ _ (((hr0.same (.of_below hb1 (by omega))).same (.of_below hb2 (by omega))).same (.of_below hb3 (by omega))) (by omega) hl0 hlk0).mono ?_
  rintro e w4 ⟨ux0, rfl, hb4, hox0⟩
  have s4 := hb4.size
  have HB4 := HB3.trans (hb4.mono HB3.size)
  clear HB3
  go_wp2_with fail
  refine (free_impl _ _ _ _ a1 _ hox0.rd (by omega) (Node.texts xs0 (by omega)) hl0).mono ?_
  rintro e w5 ⟨rg, rfl, hb5, hog⟩
  have s5 := hb5.size
  have HB5 := HB4.trans (hb5.mono HB4.size)
  clear HB4
  go_wp2_with fail
  refine (eqStringS_any _ _ _ _ _ _ _ _ hog.rd (by omega) ((how.same (.of_below hb4 (by omega))).same (.of_below hb5 (by omega))).rd (by omega)).mono ?_
  rintro e w6 ⟨rfl, hb6⟩
  have s6 := hb6.size
  have HB6 := HB5.trans (hb6.mono HB5.size)
  clear HB5
  go_wp2_with fail
  refine (toNodeS_any xs0 _ _ _ _ ((((((hr0.same (.of_below hb1 (by omega))).same (.of_below hb2 (by omega))).same (.of_below hb3 (by omega))).same (.of_below hb4 (by omega))).same (.of_below hb5 (by omega))).same (.of_below hb6 (by omega))) (by omega) hl0 hlk0).mono ?_
  rintro e w7 ⟨uy0, rfl, hb7, hoy0⟩
  have s7 := hb7.size
  have HB7 := HB6.trans (hb7.mono HB6.size)
  clear HB6
  go_wp2_with fail
  refine (eqNodeS_any xs0 _ _ _ _ _ _ _ (((hox0.same (.of_below hb5 (by omega))).same (.of_below hb6 (by omega))).same (.of_below hb7 (by omega))).rd (by omega) hoy0.rd (by omega)).mono ?_
  rintro e w8 ⟨rfl, hb8⟩
  have s8 := hb8.size
  have HB8 := HB7.trans (hb8.mono HB7.size)
  clear HB7
  have HR : (freeL xs0 a1).length ≤ 2097152 := by have := freeL_len xs0 a1; omega
  go_wp2_with fail
  refine (markNodeS_one xs0 _ _ _ _ ((((hox0.same (.of_below hb5 (by omega))).same (.of_below hb6 (by omega))).same (.of_below hb7 (by omega))).same (.of_below hb8 (by omega))) (by omega) (by omega)).mono ?_
  rintro e w9 ⟨⟨z0, rfl⟩, hb9⟩
  have s9 := hb9.size
  have HB9 := blw_out HB8 hb9 (by omega) (by omega)
  clear HB8
  have hz0n : ¬ ((z0 : Nat) : Int) < 0 := by omega
  go_wp2_with fail
  refine (eqStringS_any _ _ _ _ _ _ _ _ ((((hog.same (.of_below hb6 (by omega))).same (.of_below hb7 (by omega))).same (.of_below hb8 (by omega))).same (hb9.same (by omega) (by omega))).rd (by omega) ((((((how.same (.of_below hb4 (by omega))).same (.of_below hb5 (by omega))).same (.of_below hb6 (by omega))).same (.of_below hb7 (by omega))).same (.of_below hb8 (by omega))).same (hb9.same (by omega) (by omega))).rd (by omega)).mono ?_
  rintro e w10 ⟨rfl, hb10⟩
  have s10 := hb10.size
  have HB10 := HB9.trans (hb10.mono HB9.size)
  clear HB9
  go_wp2_with fail
  refine (markStringS_z 1 (by simp) (((((hog.same (.of_below hb6 (by omega))).same (.of_below hb7 (by omega))).same (.of_below hb8 (by omega))).same (hb9.same (by omega) (by omega))).same (.of_below hb10 (by omega))) (by omega) HR (by omega) (by omega)).mono ?_
  rintro e w11 ⟨rfl, hb11, homg⟩
  have s11 := hb11.size
  have HB11 := blw_out HB10 hb11 (by omega) (by omega)
  clear HB10
  go_wp2_with fail
  refine (heldStringS_z 1 _ (by simp) homg.rd (by omega) HR (by omega) (by omega)).mono ?_
  rintro e w12 ⟨rfl, hb12⟩
  have s12 := hb12.size
  have HB12 := HB11.trans (hb12.mono HB11.size)
  clear HB11
  go_wp2_with fail
  refine (toNodeS_any xs0 _ _ _ _ ((((((((((((hr0.same (.of_below hb1 (by omega))).same (.of_below hb2 (by omega))).same (.of_below hb3 (by omega))).same (.of_below hb4 (by omega))).same (.of_below hb5 (by omega))).same (.of_below hb6 (by omega))).same (.of_below hb7 (by omega))).same (.of_below hb8 (by omega))).same (hb9.same (by omega) (by omega))).same (.of_below hb10 (by omega))).same (hb11.same (by omega) (by omega))).same (.of_below hb12 (by omega))) (by omega) hl0 hlk0).mono ?_
  rintro e w13 ⟨uz0, rfl, hb13, hoz0⟩
  have s13 := hb13.size
  have HB13 := HB12.trans (hb13.mono HB12.size)
  clear HB12
  go_wp2_with fail
  refine (free_impl _ _ _ _ a1 _ hoz0.rd (by omega) (Node.texts xs0 (by omega)) hl0).mono ?_
  rintro e w14 ⟨rh, rfl, hb14, hoh⟩
  have s14 := hb14.size
  have HB14 := HB13.trans (hb14.mono HB13.size)
  clear HB13
  go_wp2_with fail
  refine (eqStringS_any _ _ _ _ _ _ _ _ hoh.rd (by omega) (((((((((((how.same (.of_below hb4 (by omega))).same (.of_below hb5 (by omega))).same (.of_below hb6 (by omega))).same (.of_below hb7 (by omega))).same (.of_below hb8 (by omega))).same (hb9.same (by omega) (by omega))).same (.of_below hb10 (by omega))).same (hb11.same (by omega) (by omega))).same (.of_below hb12 (by omega))).same (.of_below hb13 (by omega))).same (.of_below hb14 (by omega))).rd (by omega)).mono ?_
  rintro e w15 ⟨rfl, hb15⟩
  have s15 := hb15.size
  have HB15 := HB14.trans (hb15.mono HB14.size)
  clear HB14
  go_wp2_with fail
  refine (heldStringS_z 1 _ (by simp) ((((homg.same (.of_below hb12 (by omega))).same (.of_below hb13 (by omega))).same (.of_below hb14 (by omega))).same (.of_below hb15 (by omega))).rd (by omega) HR (by omega) (by omega)).mono ?_
  rintro e w16 ⟨rfl, hb16⟩
  have s16 := hb16.size
  have HB16 := HB15.trans (hb16.mono HB15.size)
  clear HB15
  go_wp2
  go_ret
  exact ⟨rfl, HB16⟩
end Go.Proofs.YtiakdbcmppeniaaGreatDoor
