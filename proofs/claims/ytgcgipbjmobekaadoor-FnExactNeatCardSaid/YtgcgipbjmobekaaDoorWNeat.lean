/- The walk of FnExactNeat: the law answers true and leaves the old blocks alone. -/
import Derived.Test.YtgcgipbjmobekaaDoorNeat
namespace Go.Proofs.YtgcgipbjmobekaaDoor
open Go.ChangeShapes Go.WideShapes Go.ChangeAt Go.RowKit
open Go.ChangeMaps (open_string shut_string)

set_option maxHeartbeats 1000000 in
set_option maxRecDepth 100000 in
theorem lawNeat_any (a0 : ByteArray) (m : Int) (w : World) (hk0 : a0.size ≤ maxLen) (hm : w.cell? ⟨0, 0, none⟩ = some (.int .i64 m)) :
    Calls Tryd.prog 6 #[.string a0] w fun e w' => e = .returned (.bool true) ∧ Below w.heap.size w w' := by
  have hu0 := hk0
  unfold maxLen at hu0
  by_cases hs0 : 1048576 < a0.size
  · go_enter Tryd.func6, Tryd.ntmps6
    go_wp2
    go_ret
    exact ⟨rfl, Below.refl _ _⟩
  go_enter Tryd.func6, Tryd.ntmps6
  go_wp2_with fail
  refine (neat_spec a0 _ (by omega)).mono ?_
  rintro e w1 ⟨rfl, hb1⟩
  have s1 := hb1.size
  have HB1 := hb1
  go_wp2_with fail
  refine (neat_impl a0 m _ (by omega) (keepm hm HB1)).mono ?_
  rintro e w2 ⟨rfl, hb2⟩
  have s2 := hb2.size
  have HB2 := HB1.trans (hb2.mono HB1.size)
  clear HB1
  go_wp2
  go_ret
  exact ⟨rfl, HB2⟩
end Go.Proofs.YtgcgipbjmobekaaDoor
