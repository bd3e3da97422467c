/- What lines cost, and the table of the least, of the program and of the reference. -/
import Derived.Test.YtjaginciejljkaaDoorRagQ
import Derived.Test.YtjaginciejljkaaDoorRdInt
import Derived.Test.YtjaginciejljkaaDoorHString
import Derived.Test.YtjaginciejljkaaDoorWordsG
import Derived.Test.YtjaginciejljkaaDoorWordsL
namespace Go.Proofs.YtjaginciejljkaaDoor
open Go.RowKit

theorem sq_room {n width : Int} (h1 : ¬ width < n) (h2 : width < n + 200) : 0 ≤ (width - n) * (width - n) ∧ (width - n) * (width - n) ≤ 40000 := by
  have a1 : width - n ≤ 200 := by omega
  have a2 : 0 ≤ width - n := by omega
  refine ⟨Int.mul_nonneg a2 a2, ?_⟩
  have := Int.mul_le_mul a1 a1 a2 (by omega : (0 : Int) ≤ 200)
  omega
theorem ragI_hi {n width : Int} {b : Bool} (h : width < n) : ragI n width b = 10000000 := by unfold ragI; rw [if_pos h]
theorem ragI_last {n width : Int} (h : ¬ width < n) : ragI n width true = 0 := by unfold ragI; rw [if_neg h]; rfl
theorem ragI_near {n width : Int} (h : ¬ width < n) (h2 : width < n + 200) : ragI n width false = (width - n) * (width - n) := by unfold ragI; rw [if_neg h, if_pos h2]; rfl
theorem ragI_far {n width : Int} (h : ¬ width < n) (h2 : ¬ width < n + 200) : ragI n width false = 40000 := by unfold ragI; rw [if_neg h, if_neg h2]; rfl
set_option maxHeartbeats 400000 in
set_option maxRecDepth 100000 in
theorem lineRag_any (n width : Int) (b : Bool) (w : World) (h1 : -1 ≤ n) (h2 : n ≤ 90000) (hI : I64 width) :
    Calls Tryd.prog 32 #[.int .i64 n, .int .i64 width, .bool b] w fun e w' => e = .returned (.int .i64 (ragI n width b)) ∧ w' = w := by
  have hi1 := hI.1
  have hi2 := hI.2
  by_cases g1 : width < n
  · have HR := Lib.hid (ragI_hi (b := b) g1)
    have hg : n > width := g1
    go_enter Tryd.func32, Tryd.ntmps32
    go_wp2
    go_ret
    exact ⟨by rw [HR.out]; rfl, rfl⟩
  · have hg : ¬ n > width := g1
    cases b with
    | true =>
      have HR := Lib.hid (ragI_last g1)
      go_enter Tryd.func32, Tryd.ntmps32
      go_wp2
      go_ret
      exact ⟨by rw [HR.out]; rfl, rfl⟩
    | false =>
      by_cases g2 : width < n + 200
      · have HR := Lib.hid (ragI_near g1 g2)
        have hsq := sq_room g1 g2
        have hd : 0 ≤ width - n := by omega
        have hd2 : width - n ≤ 200 := by omega
        have hw1 : IntKind.i64.wrap ((width - n) * (width - n)) = (width - n) * (width - n) := IntWalk.i64_in _ (by omega)
        go_enter Tryd.func32, Tryd.ntmps32
        go_wp2
        go_ret
        exact ⟨by rw [HR.out]; rfl, rfl⟩
      · have HR := Lib.hid (ragI_far g1 g2)
        go_enter Tryd.func32, Tryd.ntmps32
        go_wp2
        go_ret
        exact ⟨by rw [HR.out]; rfl, rfl⟩
set_option maxHeartbeats 400000 in
set_option maxRecDepth 100000 in
theorem l17Line_any (n width : Int) (b : Bool) (w : World) (h1 : -1 ≤ n) (h2 : n ≤ 90000) (hI : I64 width) :
    Calls Tryd.prog 39 #[.int .i64 n, .int .i64 width, .bool b] w fun e w' => e = .returned (.int .i64 (ragI n width b)) ∧ w' = w := by
  have hi1 := hI.1
  have hi2 := hI.2
  by_cases g1 : width < n
  · have HR := Lib.hid (ragI_hi (b := b) g1)
    have hg : n > width := g1
    go_enter Tryd.func39, Tryd.ntmps39
    go_wp2
    go_ret
    exact ⟨by rw [HR.out]; rfl, rfl⟩
  · have hg : ¬ n > width := g1
    cases b with
    | true =>
      have HR := Lib.hid (ragI_last g1)
      go_enter Tryd.func39, Tryd.ntmps39
      go_wp2
      go_ret
      exact ⟨by rw [HR.out]; rfl, rfl⟩
    | false =>
      by_cases g2 : width < n + 200
      · have HR := Lib.hid (ragI_near g1 g2)
        have hsq := sq_room g1 g2
        have hd : 0 ≤ width - n := by omega
        have hd2 : width - n < 200 := by omega
        have hd3 : width < 100000 := by omega
        have hw1 : IntKind.i64.wrap ((width - n) * (width - n)) = (width - n) * (width - n) := IntWalk.i64_in _ (by omega)
        go_enter Tryd.func39, Tryd.ntmps39
        go_wp2
        go_ret
        exact ⟨by rw [HR.out]; rfl, rfl⟩
      · have HR := Lib.hid (ragI_far g1 g2)
        by_cases g3 : width < 100000
        · have hd2 : ¬ width - n < 200 := by omega
          go_enter Tryd.func39, Tryd.ntmps39
          go_wp2
          go_ret
          exact ⟨by rw [HR.out]; rfl, rfl⟩
        · go_enter Tryd.func39, Tryd.ntmps39
          go_wp2
          go_ret
          exact ⟨by rw [HR.out]; rfl, rfl⟩
end Go.Proofs.YtjaginciejljkaaDoor
