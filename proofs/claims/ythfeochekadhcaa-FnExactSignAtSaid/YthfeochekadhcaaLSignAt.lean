/- FnExactSignAt: for every list of signs and every place the program tells the sign that the reference tells, and the list reads as it did. No condition. -/
import Derived.Test.YthfeochekadhcaaSignAt
import Derived.Test.YthfeochekadhcaaHSign
namespace Go.Proofs.Ythfeochekadhcaa
open Go.ChangeShapes Go.WideShapes Go.ChangeAt Go.RowKit
open Go.ChangeMaps (open_string shut_string)

set_option maxHeartbeats 1000000 in
set_option maxRecDepth 100000 in
theorem lawSignAt_any (xs0 : List Sign) (v0 : Value) (a1 : Int) (w : World) (hr0 : Rd signF.shape 0 w.heap.size w v0 xs0) (hk0 : ∀ x ∈ xs0, x.Ok) (_hk1 : I64 a1) :
    Calls Try.prog 6 #[v0, .int .i64 a1] w fun e w' => e = .returned (.bool true) ∧ Below w.heap.size w w' := by
  go_enter Try.func6, Try.ntmps6
  go_wp2_with fail
  refine (szSignS_any xs0 _ _ _ _ _ hr0 (by omega) (by omega) (by omega) (fun x hx => (hk0 x hx).2.1)).mono ?_
  rintro e w1 ⟨rfl, hb1⟩
  have s1 := hb1.size
  have HB1 := hb1
  by_cases hz0 : szR (1048576) (Sign.wts xs0) < 0
  · go_wp2
    go_ret
    exact ⟨rfl, HB1⟩
  have hn0 := szR_nneg hz0
  have hl0 : xs0.length ≤ 1048576 := by have := Sign.wts_ge xs0; omega
  have hy0 := Lib.hid (szR_yes hn0)
  rw [← hy0.out] at hz0 ⊢
  go_wp2_with fail
  refine (toSignS_any xs0 _ _ _ _ (hr0.same (.of_below hb1 (by omega))) (by omega) hl0).mono ?_
  rintro e w2 ⟨uc0, rfl, hb2, hoc0⟩
  have s2 := hb2.size
  have HB2 := HB1.trans (hb2.mono HB1.size)
  clear HB1
  go_wp2_with fail
  refine (signAt_spec _ _ _ _ _ _ hoc0.rd (by omega)).mono ?_
  rintro e w3 ⟨rfl, hb3⟩
  have s3 := hb3.size
  have HB3 := HB2.trans (hb3.mono HB2.size)
  clear HB2
  go_wp2_with fail
  refine (toSignS_any xs0 _ _ _ _ (((hr0.same (.of_below hb1 (by omega))).same (.of_below hb2 (by omega))).same (.of_below hb3 (by omega))) (by omega) hl0).mono ?_
  rintro e w4 ⟨ux0, rfl, hb4, hox0⟩
  have s4 := hb4.size
  have HB4 := HB3.trans (hb4.mono HB3.size)
  clear HB3
  go_wp2_with fail
  refine (signAt_impl _ _ _ _ _ _ hox0.rd (by omega)).mono ?_
  rintro e w5 ⟨rfl, hb5⟩
  have s5 := hb5.size
  have HB5 := HB4.trans (hb5.mono HB4.size)
  clear HB4
  go_wp2_with fail
  refine (toSignS_any xs0 _ _ _ _ (((((hr0.same (.of_below hb1 (by omega))).same (.of_below hb2 (by omega))).same (.of_below hb3 (by omega))).same (.of_below hb4 (by omega))).same (.of_below hb5 (by omega))) (by omega) hl0).mono ?_
  rintro e w6 ⟨uy0, rfl, hb6, hoy0⟩
  have s6 := hb6.size
  have HB6 := HB5.trans (hb6.mono HB5.size)
  clear HB5
  go_wp2_with fail
  refine (eqSignS_any xs0 _ _ _ _ _ _ _ ((hox0.same (.of_below hb5 (by omega))).same (.of_below hb6 (by omega))).rd (by omega) hoy0.rd (by omega)).mono ?_
  rintro e w7 ⟨rfl, hb7⟩
  have s7 := hb7.size
  have HB7 := HB6.trans (hb7.mono HB6.size)
  clear HB6
  go_wp2
  go_ret
  exact ⟨rfl, HB7⟩

set_option maxRecDepth 100000 in
theorem fnExactSignAt_lifted (os : Os) (started : os.Started) (H : Type) (enc : TypeId × Value → H) :
    ReturnsInHanded {} Try.checked os 6 .any (Rows.fnExactSignAtSpec.pre6 enc Try.prog Try.f6 Rows.fnExactSignAtRow.domain false) (Rows.fnExactSignAtSpec.post enc Try.prog Try.f6 false true false false) := by
  refine returnsInHanded_of_change (C := Try.checked) Try.own started (by kernel_rfl) Try.func6
    (ChangeSpec.witness6 (enc := enc) (C := Try.checked) false ⟨#[], #[.slice none 0 0, .int .i64 0], []⟩ 8 (by kernel_rfl) (by kernel_rfl) (by kernel_rfl) (by kernel_rfl)) ?_
  intro W base args ds gs before hval0 hW _ _
  have hval : ∀ (j : Nat) t v, Try.f6.params[j]? = some t → args[j]? = some v → Value.okWide Try.prog W .any base t v := hval0
  have hW' := hW
  obtain ⟨p, q, hA0, hV, rfl, hfz, hnd⟩ := hW
  have hA : DataW.TrodAll enc Try.prog W 0 (fun _ => true) true Try.f6.params.toList args.toList ds p := hA0
  rw [Try.params6] at hA hval
  obtain ⟨v0, vs0, d0, ds0, p0, q0, hargs, rfl, rfl, h0, r0⟩ := trodAll_cons hA
  obtain ⟨v1, vs1, d1, ds1, p1, q1, rfl, rfl, rfl, h1, r1⟩ := trodAll_cons r0
  obtain ⟨rfl, rfl, rfl⟩ := trodAll_nil r1
  obtain rfl : args = #[v0, v1] := by cases args; simp_all
  obtain ⟨rfl, rfl⟩ := trodVars_none hV
  obtain ⟨xs0, hr0, hk0⟩ := open_sl Try.underlying39 (opens_sl Try.underlying39 Try.cells96 (by decide) opens_Sign) (hval 0 39 v0 rfl rfl) h0
  obtain ⟨a1, rfl, _, _, wa1⟩ := open_int Try.underlying3 (hval 1 3 v1 rfl rfl) h1
  refine (lawSignAt_any xs0 _ a1 W hr0 hk0 (I64.of_wf wa1)).mono fun e W' ⟨he, hb⟩ => ?_
  subst he
  exact ⟨_, rfl, law_post Try.laidOut (by intro t ht; rw [Try.params6] at ht; simp at ht; rcases ht with rfl | rfl <;> exact ⟨by kernel_rfl, of_decide_eq_true (by kernel_rfl)⟩) hW' rfl rfl Try.underlying4 rfl rfl rfl hb⟩

theorem fnExactSignAt_holds : Rows.FnExactSignAtSaid :=
  OpenClaim.holds_of_wide 6 Try.f6 rfl rfl rfl rfl rfl rfl rfl ⟨rfl, rfl, rfl, rfl, rfl⟩ rfl rfl rfl rfl rfl (by kernel_rfl) Try.func6 (by kernel_rfl)
    (of_decide_eq_true (by kernel_rfl)) (by unfold Func.isWrapper; rw [if_neg (of_decide_eq_false (by kernel_rfl))]; exact ⟨rfl, rfl⟩)
    (fun os started H enc _ => fnExactSignAt_lifted os started H enc)
#print axioms fnExactSignAt_holds

end Go.Proofs.Ythfeochekadhcaa
