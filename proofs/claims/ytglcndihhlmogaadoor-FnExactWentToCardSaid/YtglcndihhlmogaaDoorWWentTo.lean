/- The walk of FnExactWentTo: the law answers true and leaves the old blocks alone. -/
import Derived.Test.YtglcndihhlmogaaDoorPlaces
namespace Go.Proofs.YtglcndihhlmogaaDoor
open Go.ChangeShapes Go.WideShapes Go.ChangeAt Go.RowKit
open Go.ChangeMaps (open_string shut_string)

set_option maxHeartbeats 1000000 in
set_option maxRecDepth 100000 in
theorem lawWentTo_any (a0 : ByteArray) (a1 : ByteArray) (a2 : Int) (w : World) (hk0 : a0.size ≤ maxLen) (hk1 : a1.size ≤ maxLen) (_hk2 : I64 a2) :
    Calls Tryd.prog 3 #[.string a0, .string a1, .int .i64 a2] w fun e w' => e = .returned (.bool true) ∧ Below w.heap.size w w' := by
  have hu0 := hk0
  unfold maxLen at hu0
  by_cases hs0 : 1048576 < a0.size
  · go_enter Tryd.func3, Tryd.ntmps3
    go_wp2
    go_ret
    exact ⟨rfl, Below.refl _ _⟩
  have hu1 := hk1
  unfold maxLen at hu1
  by_cases hs1 : 1048576 < a1.size
  · go_enter Tryd.func3, Tryd.ntmps3
    go_wp2
    go_ret
    exact ⟨rfl, Below.refl _ _⟩
  go_enter Tryd.func3, Tryd.ntmps3
  go_wp2_with fail
  refine (wentTo_spec a0 a1 a2 _ (by omega) (by omega)).mono ?_
  rintro e w1 ⟨rfl, hb1⟩
  have s1 := hb1.size
  have HB1 := hb1
  go_wp2_with fail
  refine (wentTo_impl a0 a1 a2 _ (by omega) (by omega)).mono ?_
  rintro e w2 ⟨rfl, hb2⟩
  have s2 := hb2.size
  have HB2 := HB1.trans (hb2.mono HB1.size)
  clear HB1
  go_wp2
  go_ret
  exact ⟨rfl, HB2⟩
end Go.Proofs.YtglcndihhlmogaaDoor
