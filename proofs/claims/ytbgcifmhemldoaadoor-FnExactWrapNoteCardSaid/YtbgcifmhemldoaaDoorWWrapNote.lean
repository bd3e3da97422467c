/- The walk of FnExactWrapNote: the law answers true and leaves the old blocks alone. -/
import Derived.Test.YtbgcifmhemldoaaDoorWrap
import Derived.Test.YtbgcifmhemldoaaDoorHString
namespace Go.Proofs.YtbgcifmhemldoaaDoor
open Go.ChangeShapes Go.WideShapes Go.ChangeAt Go.RowKit
open Go.ChangeMaps (open_string shut_string)

set_option maxHeartbeats 1000000 in
set_option maxRecDepth 100000 in
theorem lawWrapNote_any (a0 : ByteArray) (a1 : Int) (a2 : Int) (m : Int) (w : World) (hk0 : a0.size ≤ maxLen) (_hk1 : I64 a1) (_hk2 : I64 a2) (hm : w.cell? ⟨1, 0, none⟩ = some (.int .i64 m)) :
    Calls Tryd.prog 4 #[.string a0, .int .i64 a1, .int .i64 a2] w fun e w' => e = .returned (.bool true) ∧ Below w.heap.size w w' := by
  have hu0 := hk0
  unfold maxLen at hu0
  by_cases hs0 : 1048576 < a0.size
  · go_enter Tryd.func4, Tryd.ntmps4
    go_wp2
    go_ret
    exact ⟨rfl, Below.refl _ _⟩
  go_enter Tryd.func4, Tryd.ntmps4
  go_wp2_with fail
  refine (wrapNote_spec a0 a1 a2 _ (by omega) _hk2).mono ?_
  rintro e w1 ⟨rw, rfl, hb1, how⟩
  have s1 := hb1.size
  have HB1 := hb1
  go_wp2_with fail
  refine (wrapNote_impl a0 a1 a2 m _ (by omega) (keepm hm HB1)).mono ?_
  rintro e w2 ⟨rg, rfl, hb2, hog⟩
  have s2 := hb2.size
  have HB2 := HB1.trans (hb2.mono HB1.size)
  clear HB1
  go_wp2_with fail
  refine (eqStringS_any _ _ _ _ _ _ _ _ hog.rd (by omega) (how.same (.of_below hb2 (by omega))).rd (by omega)).mono ?_
  rintro e w3 ⟨rfl, hb3⟩
  have s3 := hb3.size
  have HB3 := HB2.trans (hb3.mono HB2.size)
  clear HB2
  have HR : (wrapL a0 a1 a2).length ≤ 2097152 := by have := wrapL_len a0 a1 a2; omega
  go_wp2_with fail
  refine (markStringS_z 1 (by simp) (hog.same (.of_below hb3 (by omega))) (by omega) HR (by omega) (by omega)).mono ?_
  rintro e w4 ⟨rfl, hb4, homg⟩
  have s4 := hb4.size
  have HB4 := blw_out HB3 hb4 (by omega) (by omega)
  clear HB3
  go_wp2_with fail
  refine (heldStringS_z 1 _ (by simp) homg.rd (by omega) HR (by omega) (by omega)).mono ?_
  rintro e w5 ⟨rfl, hb5⟩
  have s5 := hb5.size
  have HB5 := HB4.trans (hb5.mono HB4.size)
  clear HB4
  go_wp2_with fail
  refine (wrapNote_impl a0 a1 a2 m _ (by omega) (keepm hm HB5)).mono ?_
  rintro e w6 ⟨rh, rfl, hb6, hoh⟩
  have s6 := hb6.size
  have HB6 := HB5.trans (hb6.mono HB5.size)
  clear HB5
  go_wp2_with fail
  refine (eqStringS_any _ _ _ _ _ _ _ _ hoh.rd (by omega) (((((how.same (.of_below hb2 (by omega))).same (.of_below hb3 (by omega))).same (hb4.same (by omega) (by omega))).same (.of_below hb5 (by omega))).same (.of_below hb6 (by omega))).rd (by omega)).mono ?_
  rintro e w7 ⟨rfl, hb7⟩
  have s7 := hb7.size
  have HB7 := HB6.trans (hb7.mono HB6.size)
  clear HB6
  go_wp2_with fail
  refine (heldStringS_z 1 _ (by simp) (((homg.same (.of_below hb5 (by omega))).same (.of_below hb6 (by omega))).same (.of_below hb7 (by omega))).rd (by omega) HR (by omega) (by omega)).mono ?_
  rintro e w8 ⟨rfl, hb8⟩
  have s8 := hb8.size
  have HB8 := HB7.trans (hb8.mono HB7.size)
  clear HB7
  go_wp2
  go_ret
  exact ⟨rfl, HB8⟩
end Go.Proofs.YtbgcifmhemldoaaDoor
