/- FnExactSameRan: for all runs the program tells whether they are the same as the reference does, and the arguments read as they did. No condition. -/
import Derived.Test.YthfeochekadhcaaWSameRan
namespace Go.Proofs.Ythfeochekadhcaa
open Go.ChangeShapes Go.WideShapes Go.ChangeAt Go.RowKit
open Go.ChangeMaps (open_string shut_string)

set_option maxRecDepth 100000 in
theorem fnExactSameRan_lifted (os : Os) (started : os.Started) (H : Type) (enc : TypeId × Value → H) :
    ReturnsInHanded {} Try.checked os 7 .any (Rows.fnExactSameRanSpec.pre6 enc Try.prog Try.f7 Rows.fnExactSameRanRow.domain false) (Rows.fnExactSameRanSpec.post enc Try.prog Try.f7 false true false false) := by
  refine returnsInHanded_of_change (C := Try.checked) Try.own started (by kernel_rfl) Try.func7
    (ChangeSpec.witness6 (enc := enc) (C := Try.checked) false ⟨#[], #[.agg #[.slice none 0 0, .int .i64 0, .int .i64 0, .int .i64 0], .agg #[.slice none 0 0, .int .i64 0, .int .i64 0, .int .i64 0]], []⟩ 8 (by kernel_rfl) (by kernel_rfl) (by kernel_rfl) (by kernel_rfl)) ?_
  intro W base args ds gs before hval0 hW _ _
  have hval : ∀ (j : Nat) t v, Try.f7.params[j]? = some t → args[j]? = some v → Value.okWide Try.prog W .any base t v := hval0
  have hW' := hW
  obtain ⟨p, q, hA0, hV, rfl, hfz, hnd⟩ := hW
  have hA : DataW.TrodAll enc Try.prog W 0 (fun _ => true) true Try.f7.params.toList args.toList ds p := hA0
  rw [Try.params7] at hA hval
  obtain ⟨v0, vs0, d0, ds0, p0, q0, hargs, rfl, rfl, h0, r0⟩ := trodAll_cons hA
  obtain ⟨v1, vs1, d1, ds1, p1, q1, rfl, rfl, rfl, h1, r1⟩ := trodAll_cons r0
  obtain ⟨rfl, rfl, rfl⟩ := trodAll_nil r1
  obtain rfl : args = #[v0, v1] := by cases args; simp_all
  obtain ⟨rfl, rfl⟩ := trodVars_none hV
  obtain ⟨x0, cs0, rfl, ⟨u0, e0, hr0⟩, _⟩ := open_st Try.underlying48 opens_Ran (hval 0 48 v0 rfl rfl) h0
  obtain ⟨x1, cs1, rfl, ⟨u1, e1, hr1⟩, _⟩ := open_st Try.underlying48 opens_Ran (hval 1 48 v1 rfl rfl) h1
  obtain ⟨ka0, kc0, hu0, _⟩ := id hr0
  obtain ⟨ka1, kc1, hu1, _⟩ := id hr1
  subst hu0
  subst hu1
  obtain rfl : cs0 = #[.slice ka0 x0.out.length kc0, .int .i64 x0.ret, .int .i64 x0.code, .int .i64 x0.steps] := by cases cs0; simpa using e0
  obtain rfl : cs1 = #[.slice ka1 x1.out.length kc1, .int .i64 x1.ret, .int .i64 x1.code, .int .i64 x1.steps] := by cases cs1; simpa using e1
  refine (lawSameRan_any x0 x1 ka0 ka1 kc0 kc1 W hr0 hr1).mono fun e W' ⟨he, hb⟩ => ?_
  subst he
  exact ⟨_, rfl, law_post Try.laidOut (by intro t ht; rw [Try.params7] at ht; simp at ht; subst ht; exact ⟨by kernel_rfl, of_decide_eq_true (by kernel_rfl)⟩) hW' rfl rfl Try.underlying4 rfl rfl rfl hb⟩

theorem fnExactSameRan_holds : Rows.FnExactSameRanSaid :=
  OpenClaim.holds_of_wide 7 Try.f7 rfl rfl rfl rfl rfl rfl rfl ⟨rfl, rfl, rfl, rfl, rfl⟩ rfl rfl rfl rfl rfl (by kernel_rfl) Try.func7 (by kernel_rfl)
    (of_decide_eq_true (by kernel_rfl)) (by unfold Func.isWrapper; rw [if_neg (of_decide_eq_false (by kernel_rfl))]; exact ⟨rfl, rfl⟩)
    (fun os started H enc _ => fnExactSameRan_lifted os started H enc)
#print axioms fnExactSameRan_holds

end Go.Proofs.Ythfeochekadhcaa
