/- The walk of FnExactFreshName: the law answers true and leaves the old blocks alone. -/
import Derived.Test.YtbgcifmhemldoaaDoorFreshI
namespace Go.Proofs.YtbgcifmhemldoaaDoor
open Go.ChangeShapes Go.WideShapes Go.ChangeAt Go.RowKit
open Go.ChangeMaps (open_string shut_string)

set_option maxHeartbeats 1000000 in
set_option maxRecDepth 100000 in
theorem lawFreshName_any (xs0 : List Node) (v0 : Value) (a1 : ByteArray) (w : World) (hr0 : Rd nodeS 0 w.heap.size w v0 xs0) (hk0 : ∀ x ∈ xs0, x.Ok) (hk1 : a1.size ≤ maxLen) (ht : Lib.TabIs Tryd.prog w "internal/strconv.uint64pow10" .u64 Lib.pow10Tab) :
    Calls Tryd.prog 3 #[v0, .string a1] w fun e w' => e = .returned (.bool true) ∧ Below w.heap.size w w' := by
  have hu1 := hk1
  unfold maxLen at hu1
  by_cases hs1 : 1048576 < a1.size
  · go_enter Tryd.func3, Tryd.ntmps3
    go_wp2
    go_ret
    exact ⟨rfl, Below.refl _ _⟩
  go_enter Tryd.func3, Tryd.ntmps3
  go_wp2_with fail
  refine (szNodeS_any xs0 _ _ _ _ _ hr0 (by omega) (by omega) (by omega) (fun x hx => (hk0 x hx).2.1)).mono ?_
  rintro e w1 ⟨rfl, hb1⟩
  have s1 := hb1.size
  have HB1 := hb1
  by_cases hz0 : szR (1048576) (Node.wts xs0) < 0
  · go_wp2
    go_ret
    exact ⟨rfl, HB1⟩
  have hn0 := szR_nneg hz0
  have hl0 : xs0.length ≤ 1048576 := by have := Node.wts_ge xs0; omega
  have hlk0 := Node.kids_le (n := 1048576) xs0 (by omega)
  have hy0 := Lib.hid (szR_yes hn0)
  rw [← hy0.out] at hz0 ⊢
  go_wp2_with fail
  refine (toNodeS_any xs0 _ _ _ _ (hr0.same (.of_below hb1 (by omega))) (by omega) hl0 hlk0).mono ?_
  rintro e w2 ⟨uc0, rfl, hb2, hoc0⟩
  have s2 := hb2.size
  have HB2 := HB1.trans (hb2.mono HB1.size)
  clear HB1
  go_wp2_with fail
  refine (freshName_spec _ _ _ _ a1 _ hoc0.rd (by omega) (by omega) hl0).mono ?_
  rintro e w3 ⟨rfl, hb3⟩
  have s3 := hb3.size
  have HB3 := HB2.trans (hb3.mono HB2.size)
  clear HB2
  go_wp2_with fail
  refine (toNodeS_any xs0 _ _ _ _ (((hr0.same (.of_below hb1 (by omega))).same (.of_below hb2 (by omega))).same (.of_below hb3 (by omega))) (by omega) hl0 hlk0).mono ?_
  rintro e w4 ⟨ux0, rfl, hb4, hox0⟩
  have s4 := hb4.size
  have HB4 := HB3.trans (hb4.mono HB3.size)
  clear HB3
  go_wp2_with fail
  refine (freshName_impl _ _ _ _ a1 _ hox0.rd (by omega) (by omega) hl0 (tab_below ht HB4)).mono ?_
  rintro e w5 ⟨rfl, hb5⟩
  have s5 := hb5.size
  have HB5 := HB4.trans (hb5.mono HB4.size)
  clear HB4
  go_wp2_with fail
  refine (toNodeS_any xs0 _ _ _ _ (((((hr0.same (.of_below hb1 (by omega))).same (.of_below hb2 (by omega))).same (.of_below hb3 (by omega))).same (.of_below hb4 (by omega))).same (.of_below hb5 (by omega))) (by omega) hl0 hlk0).mono ?_
  rintro e w6 ⟨uy0, rfl, hb6, hoy0⟩
  have s6 := hb6.size
  have HB6 := HB5.trans (hb6.mono HB5.size)
  clear HB5
  go_wp2_with fail
  refine (eqNodeS_any xs0 _ _ _ _ _ _ _ ((hox0.same (.of_below hb5 (by omega))).same (.of_below hb6 (by omega))).rd (by omega) hoy0.rd (by omega)).mono ?_
  rintro e w7 ⟨rfl, hb7⟩
  have s7 := hb7.size
  have HB7 := HB6.trans (hb7.mono HB6.size)
  clear HB6
  go_wp2
  go_ret
  exact ⟨rfl, HB7⟩
end Go.Proofs.YtbgcifmhemldoaaDoor
