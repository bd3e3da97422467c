/- The walk of FnExactFitting: the law answers true and leaves the old blocks alone. -/
import Derived.Test.YtgcgipbjmobekaaDoorLines
namespace Go.Proofs.YtgcgipbjmobekaaDoor
open Go.ChangeShapes Go.WideShapes Go.ChangeAt Go.RowKit
open Go.ChangeMaps (open_string shut_string)

set_option maxHeartbeats 1000000 in
set_option maxRecDepth 100000 in
theorem lawFitting_any (a0 : ByteArray) (a1 : Int) (m : Int) (w : World) (hk0 : a0.size ≤ maxLen) (_hk1 : I64 a1) (hm : w.cell? ⟨0, 0, none⟩ = some (.int .i64 m)) :
    Calls Tryd.prog 4 #[.string a0, .int .i64 a1] w fun e w' => e = .returned (.bool true) ∧ Below w.heap.size w w' := by
  have hu0 := hk0
  unfold maxLen at hu0
  by_cases hs0 : 1048576 < a0.size
  · go_enter Tryd.func4, Tryd.ntmps4
    go_wp2
    go_ret
    exact ⟨rfl, Below.refl _ _⟩
  go_enter Tryd.func4, Tryd.ntmps4
  go_wp2_with fail
  refine (fitting_spec a0 a1 _ (by omega)).mono ?_
  rintro e w1 ⟨rfl, hb1⟩
  have s1 := hb1.size
  have HB1 := hb1
  go_wp2_with fail
  refine (fitting_impl a0 a1 m _ (by omega) (keepm hm HB1)).mono ?_
  rintro e w2 ⟨rfl, hb2⟩
  have s2 := hb2.size
  have HB2 := HB1.trans (hb2.mono HB1.size)
  clear HB1
  go_wp2
  go_ret
  exact ⟨rfl, HB2⟩
end Go.Proofs.YtgcgipbjmobekaaDoor
