/- Pushed of the program. -/
import Derived.Test.YtjaginciejljkaaHeapD
namespace Go.Proofs.Ytjaginciejljkaa
open Go.RowKit

theorem keepF {w w' : World} {a0 a1 : Addr} {u0 u1 : Value} {B C : Nat} (h : w.cell? a0 = some u0 ∧ w.cell? a1 = some u1) (hb : Below B w w') (hB : C < B ∧ a0.block = C ∧ a1.block = C) : w'.cell? a0 = some u0 ∧ w'.cell? a1 = some u1 :=
  ⟨(hb.cell (by omega)).trans h.1, (hb.cell (by omega)).trans h.2⟩
set_option maxHeartbeats 2000000 in
set_option maxRecDepth 100000 in
theorem pushed_impl (xs : List StL) (x : StL) (v u : Value) (lo hi lo' hi' : Nat) (w : World) (hr : HOwn lo hi w v xs) (hh : hi ≤ w.heap.size) (hx : Rd intS lo' hi' w u x.vals) (hh' : hi' ≤ w.heap.size) (hl : xs.length ≤ 1048576) (hz : ∀ x ∈ xs, x.vals.length ≤ 1048576) (hxl : x.vals.length ≤ 1048576) :
    Calls Try.prog 8 #[v, .agg #[u, .int .i64 x.sum]] w fun e w' => ∃ u', e = .returned u' ∧ HOwn w.heap.size w'.heap.size w' u' (pushL xs x) ∧ Below w.heap.size w w' := by
  obtain ⟨a, c, rfl, h2, h3⟩ := hr.form
  unfold maxLen at h3
  obtain ⟨ua, uc, rfl⟩ := hx.sl
  go_enter Try.func8, Try.ntmps8
  go_wp2_with fail
  have hA := heap_alloc_new w (.cells #[.slice ua x.vals.length uc, .int .i64 x.sum] 28)
  have hb1 : Below w.heap.size w (w.alloc (.cells #[.slice ua x.vals.length uc, .int .i64 x.sum] 28)) := (Below.refl _ _).alloc (Nat.le_refl _) _
  have hs1 : w.heap.size < (w.alloc (.cells #[.slice ua x.vals.length uc, .int .i64 x.sum] 28)).heap.size := by simp
  generalize w.alloc (.cells #[.slice ua x.vals.length uc, .int .i64 x.sum] 28) = w1 at *
  have c0 : w1.cell? ⟨w.heap.size, 0, none⟩ = some (.slice ua x.vals.length uc) := cell_heap0 hA rfl
  have c1 : w1.cell? ⟨w.heap.size, 1, none⟩ = some (.int .i64 x.sum) := cell_heap0 hA rfl
  have HCS := Lib.hid (copyStates_impl xs _ lo hi w1.drew (hr.below hb1.drew hh) (show hi ≤ w1.heap.size by omega) hl hz)
  have HCT := Lib.hid (fun w4 (h4 : Below w1.drew.heap.size w1.drew w4) => copyState_impl x (w := w4) (hx.below (hb1.drew.trans (h4.mono (show w.heap.size ≤ w1.heap.size by omega))) hh') (Nat.le_trans (show hi' ≤ w1.heap.size by omega) h4.size) hxl)
  have hwd : w.heap.size < w1.drew.heap.size ∧ (⟨w.heap.size, 0, none⟩ : Addr).block = w.heap.size ∧ (⟨w.heap.size, 1, none⟩ : Addr).block = w.heap.size := ⟨hs1, rfl, rfl⟩
  have hbd := hb1.drew
  clear hA hb1 hs1
  refine wp_region_held_drew (S := fun w' => w'.cell? ⟨w.heap.size, 0, none⟩ = some (.slice ua x.vals.length uc) ∧ w'.cell? ⟨w.heap.size, 1, none⟩ = some (.int .i64 x.sum)) (by kernel_rfl) ?_ (fun hHeld => ?_)
  · exact ⟨c0, c1⟩
  generalize w1.drew = wd at *
  refine wpAnyH_take (i := 0) (v := ?v1) (at_op rfl) (by kernel_rfl) (by kernel_rfl) (by kernel_rfl) (fun _ _ _ h => h) (Or.inl ⟨by rfl, ?y1⟩) (by assumption) ?r1
  case y1 =>
    intro wx hSx
    go_simp
    try with_reducible rfl
  try simp only [Act.put, List.setIfInBounds_toArray, List.set_cons_zero, List.set_cons_succ]
  refine wpAnyH_take (i := 2) (v := ?v2) (at_op rfl) (by kernel_rfl) (by kernel_rfl) (by kernel_rfl) (fun _ _ _ h => h) (Or.inl ⟨by rfl, ?y2⟩) (by assumption) ?r2
  case y2 =>
    intro wx hSx
    go_simp
    try with_reducible rfl
  try simp only [Act.put, List.setIfInBounds_toArray, List.set_cons_zero, List.set_cons_succ]
  refine wpAnyH_ready (rs := [1]) (by kernel_rfl) (by simp) ?_
  refine AllReadyH.cons (at_op rfl) (fun K hK => ?_) AllReadyH.nil
  go_simp
  refine HCS.out.mono ?_
  rintro e w2 ⟨u2, rfl, hH2, hb2⟩
  have hs2 := hb2.size
  have hk2 := keepC hHeld hb2
  go_wp2_with fail
  refine hK.out _ _ hk2 (fun _ => ?_)
  clear hK K
  try simp only [Act.put, List.setIfInBounds_toArray, List.set_cons_zero, List.set_cons_succ]
  refine wpAnyH_ready (rs := [3]) (by kernel_rfl) (by simp) ?_
  refine AllReadyH.cons (at_op rfl) (fun K hK => ?_) AllReadyH.nil
  go_simp
  refine (HCT.out w2 hb2).mono ?_
  rintro e w3 ⟨u3, rfl, hO3, hb3⟩
  have hs3 := hb3.size
  have hk3 := keepC hk2 hb3
  obtain ⟨sa, sc, rfl, -, -, -⟩ := hO3.form
  obtain ⟨qs, hS2, hq2⟩ := hH2
  go_wp2_with fail
  refine hK.out _ _ hk3 (fun _ => ?_)
  clear hK K
  try simp only [Act.put, List.setIfInBounds_toArray, List.set_cons_zero, List.set_cons_succ]
  have hS3 := ((hS2.below hb3 (Nat.le_refl _)).wide (lo' := wd.heap.size) (hi' := w3.heap.size) (Nat.le_refl _) hs3)
  have hO4 := hO3.wide (lo' := wd.heap.size) (hi' := w3.heap.size) hs2 (Nat.le_refl _)
  refine wpAnyH_ready (rs := [4]) (by kernel_rfl) (by simp) ?_
  refine AllReadyH.cons (at_op rfl) (fun K hK => ?_) AllReadyH.nil
  go_simp
  refine (push_impl qs ((x, ((sa, x.vals.length, sc) : SV)) : StL × SV) u2 wd.heap.size w3.heap.size w3 hS3 hO4 (Nat.le_trans hs2 hs3) (Nat.le_refl _) (by have e := congrArg List.length hq2; rw [List.length_map] at e; omega)).mono ?_
  rintro e w4 ⟨u4, rfl, hH4, hb4⟩
  have hk4 := keepF (C := w.heap.size) hk3 hb4 ⟨hwd.1, rfl, rfl⟩
  go_wp2_with fail
  refine hK.out _ _ hk4 (fun _ => ?_)
  clear hK K
  try simp only [Act.put, List.setIfInBounds_toArray, List.set_cons_zero, List.set_cons_succ]
  refine wpAnyH_take (i := 5) (v := ?v3) (at_op rfl) (by kernel_rfl) (by kernel_rfl) (by kernel_rfl) (fun _ _ _ h => h) (Or.inl ⟨by rfl, ?y3⟩) (by assumption) ?r3
  case y3 =>
    intro wx hSx
    go_simp
    try with_reducible rfl
  try simp only [Act.put, List.setIfInBounds_toArray, List.set_cons_zero, List.set_cons_succ]
  refine wpAnyH_done (by kernel_rfl) ?_ _
  go_wp2
  go_ret
  have HP : HOwn w.heap.size w4.heap.size w4 u4 (pushL xs x) := by
    have e := hH4.wide (lo' := w.heap.size) (by omega) (Nat.le_refl _)
    rwa [hq2] at e
  exact ⟨_, rfl, HP, (hbd.trans (hb2.mono (by omega))).trans ((hb3.mono (by omega)).trans (hb4.mono (by omega)))⟩
end Go.Proofs.Ytjaginciejljkaa
