/- FnExactRenamed: for all nodes, every place and any two names the program puts the one for the other as the reference does, or refuses as it does, in memory of its own, and the nodes read as they did. No condition. -/
import Derived.Test.YtoloplpmjcgbdaaGreatDoorRen
import Derived.Test.YtoloplpmjcgbdaaGreatDoorLiftD
import Derived.Test.YtoloplpmjcgbdaaGreatDoorTie
import Derived.Test.YtoloplpmjcgbdaaGreatDoorCards
import Derived.Lay
import Derived.LaidMore
import Derived.SevenTiedAt
import Derived.MakeChecks
import Derived.Stop.Joined
namespace Go.Proofs.YtoloplpmjcgbdaaGreatDoor
open Go.ChangeShapes Go.WideShapes Go.ChangeAt Go.RowKit
open Go.ChangeMaps (open_string shut_string)

set_option maxHeartbeats 1000000 in
set_option maxRecDepth 100000 in
theorem lawRenamed_any (xs0 : List Node) (v0 : Value) (a1 : Int) (a2 : ByteArray) (a3 : ByteArray) (w : World) (hr0 : Rd nodeS 0 w.heap.size w v0 xs0) (hk0 : ∀ x ∈ xs0, x.Ok) (_hk1 : I64 a1) (hk2 : a2.size ≤ maxLen) (hk3 : a3.size ≤ maxLen) :
    Calls Tryz.prog 4 #[v0, .int .i64 a1, .string a2, .string a3] w fun e w' => e = .returned (.bool true) ∧ Below w.heap.size w w' := by
  have hu2 := hk2
  unfold maxLen at hu2
  by_cases hs2 : 1048576 < a2.size
  · go_enter Tryz.func4, Tryz.ntmps4
    go_wp2
    go_ret
    exact ⟨rfl, Below.refl _ _⟩
  have hu3 := hk3
  unfold maxLen at hu3
  by_cases hs3 : 1048576 < a3.size
  · go_enter Tryz.func4, Tryz.ntmps4
    go_wp2
    go_ret
    exact ⟨rfl, Below.refl _ _⟩
  go_enter Tryz.func4, Tryz.ntmps4
  go_wp2_with fail
  refine (szNodeS_any xs0 _ _ _ _ _ hr0 (by omega) (by omega) (by omega) (fun x hx => (hk0 x hx).2.1)).mono ?_
  rintro e w1 ⟨rfl, hb1⟩
  have s1 := hb1.size
  have HB1 := hb1
  by_cases hz0 : szR (1048576) (Node.wts xs0) < 0
  · go_wp2
    go_ret
    exact ⟨rfl, HB1⟩
  have hn0 := szR_nneg hz0
  have hl0 : xs0.length ≤ 1048576 := by have := Node.wts_ge xs0; omega
  have hlk0 := Node.kids_le (n := 1048576) xs0 (by omega)
  have hy0 := Lib.hid (szR_yes hn0)
  rw [← hy0.out] at hz0 ⊢
  go_wp2_with fail
  refine (toNodeS_any xs0 _ _ _ _ (hr0.same (.of_below hb1 (by omega))) (by omega) hl0 hlk0).mono ?_
  rintro e w2 ⟨uc0, rfl, hb2, hoc0⟩
  have s2 := hb2.size
  have HB2 := HB1.trans (hb2.mono HB1.size)
  clear HB1
  go_wp2_with fail
  refine (renamed_spec _ _ _ _ a1 a2 a3 _ hoc0.rd (by omega) (Node.texts xs0 (by omega)) hl0 hlk0 (by omega)).mono ?_
  rintro e w3 ⟨rw, rfl, hb3, how⟩
  have s3 := hb3.size
  have HB3 := HB2.trans (hb3.mono HB2.size)
  clear HB2
  go_wp2_with fail
  refine (toNodeS_any xs0 _ _ _ _ (((hr0.same (.of_below hb1 (by omega))).same (.of_below hb2 (by omega))).same (.of_below hb3 (by omega))) (by omega) hl0 hlk0).mono ?_
  rintro e w4 ⟨ux0, rfl, hb4, hox0⟩
  have s4 := hb4.size
  have HB4 := HB3.trans (hb4.mono HB3.size)
  clear HB3
  go_wp2_with fail
  refine (renamed_impl _ _ _ _ a1 a2 a3 _ hox0.rd (by omega) (Node.texts xs0 (by omega)) hl0 hlk0 (by omega)).mono ?_
  rintro e w5 ⟨rg, rfl, hb5, hog⟩
  have s5 := hb5.size
  have HB5 := HB4.trans (hb5.mono HB4.size)
  clear HB4
  go_wp2_with fail
  refine (eqNodeS_any _ _ _ _ _ _ _ _ hog.rd (by omega) ((how.same (.of_below hb4 (by omega))).same (.of_below hb5 (by omega))).rd (by omega)).mono ?_
  rintro e w6 ⟨rfl, hb6⟩
  have s6 := hb6.size
  have HB6 := HB5.trans (hb6.mono HB5.size)
  clear HB5
  go_wp2_with fail
  refine (toNodeS_any xs0 _ _ _ _ ((((((hr0.same (.of_below hb1 (by omega))).same (.of_below hb2 (by omega))).same (.of_below hb3 (by omega))).same (.of_below hb4 (by omega))).same (.of_below hb5 (by omega))).same (.of_below hb6 (by omega))) (by omega) hl0 hlk0).mono ?_
  rintro e w7 ⟨uy0, rfl, hb7, hoy0⟩
  have s7 := hb7.size
  have HB7 := HB6.trans (hb7.mono HB6.size)
  clear HB6
  go_wp2_with fail
  refine (eqNodeS_any xs0 _ _ _ _ _ _ _ (((hox0.same (.of_below hb5 (by omega))).same (.of_below hb6 (by omega))).same (.of_below hb7 (by omega))).rd (by omega) hoy0.rd (by omega)).mono ?_
  rintro e w8 ⟨rfl, hb8⟩
  have s8 := hb8.size
  have HB8 := HB7.trans (hb8.mono HB7.size)
  clear HB7
  have HR : (renamedL xs0 a1 a2 a3).length ≤ 2097152 := by have := (renamedL_kids xs0 a1 a2 a3).1; omega
  go_wp2_with fail
  refine (markNodeS_one xs0 _ _ _ _ ((((hox0.same (.of_below hb5 (by omega))).same (.of_below hb6 (by omega))).same (.of_below hb7 (by omega))).same (.of_below hb8 (by omega))) (by omega) (by omega)).mono ?_
  rintro e w9 ⟨⟨z0, rfl⟩, hb9⟩
  have s9 := hb9.size
  have HB9 := blw_out HB8 hb9 (by omega) (by omega)
  clear HB8
  have hz0n : ¬ ((z0 : Nat) : Int) < 0 := by omega
  go_wp2_with fail
  refine (eqNodeS_any _ _ _ _ _ _ _ _ ((((hog.same (.of_below hb6 (by omega))).same (.of_below hb7 (by omega))).same (.of_below hb8 (by omega))).same (hb9.same (by omega) (by omega))).rd (by omega) ((((((how.same (.of_below hb4 (by omega))).same (.of_below hb5 (by omega))).same (.of_below hb6 (by omega))).same (.of_below hb7 (by omega))).same (.of_below hb8 (by omega))).same (hb9.same (by omega) (by omega))).rd (by omega)).mono ?_
  rintro e w10 ⟨rfl, hb10⟩
  have s10 := hb10.size
  have HB10 := HB9.trans (hb10.mono HB9.size)
  clear HB9
  have HW : Node.wts xs0 ≤ 1048576 := by omega
  have HL : (renamedL xs0 a1 a2 a3).length ≤ 1048576 := by have := (renamedL_kids xs0 a1 a2 a3).1; omega
  have HK : ((renamedL xs0 a1 a2 a3).map fun x => x.kids.length).sum ≤ 1048576 := by rw [(renamedL_kids xs0 a1 a2 a3).2]; have := kids_sum xs0; unfold Node.wts at HW; omega
  go_wp2_with fail
  refine (markNodeS_ex (((((hog.same (.of_below hb6 (by omega))).same (.of_below hb7 (by omega))).same (.of_below hb8 (by omega))).same (hb9.same (by omega) (by omega))).same (.of_below hb10 (by omega))) (by omega) HL HK).mono ?_
  rintro e w11 ⟨mz, rfl, hb11, homg⟩
  have s11 := hb11.size
  have HB11 := blw_out HB10 hb11 (by omega) (by omega)
  clear HB10
  have hmzn : ¬ ((mz : Nat) : Int) < 0 := by omega
  go_wp2_with fail
  refine (heldNodeS_ex homg (by omega)).mono ?_
  rintro e w12 ⟨rfl, hb12⟩
  have s12 := hb12.size
  have HB12 := HB11.trans (hb12.mono HB11.size)
  clear HB11
  go_wp2_with fail
  refine (toNodeS_any xs0 _ _ _ _ ((((((((((((hr0.same (.of_below hb1 (by omega))).same (.of_below hb2 (by omega))).same (.of_below hb3 (by omega))).same (.of_below hb4 (by omega))).same (.of_below hb5 (by omega))).same (.of_below hb6 (by omega))).same (.of_below hb7 (by omega))).same (.of_below hb8 (by omega))).same (hb9.same (by omega) (by omega))).same (.of_below hb10 (by omega))).same (hb11.same (by omega) (by omega))).same (.of_below hb12 (by omega))) (by omega) hl0 hlk0).mono ?_
  rintro e w13 ⟨uz0, rfl, hb13, hoz0⟩
  have s13 := hb13.size
  have HB13 := HB12.trans (hb13.mono HB12.size)
  clear HB12
  go_wp2_with fail
  refine (renamed_impl _ _ _ _ a1 a2 a3 _ hoz0.rd (by omega) (Node.texts xs0 (by omega)) hl0 hlk0 (by omega)).mono ?_
  rintro e w14 ⟨rh, rfl, hb14, hoh⟩
  have s14 := hb14.size
  have HB14 := HB13.trans (hb14.mono HB13.size)
  clear HB13
  go_wp2_with fail
  refine (eqNodeS_any _ _ _ _ _ _ _ _ hoh.rd (by omega) (((((((((((how.same (.of_below hb4 (by omega))).same (.of_below hb5 (by omega))).same (.of_below hb6 (by omega))).same (.of_below hb7 (by omega))).same (.of_below hb8 (by omega))).same (hb9.same (by omega) (by omega))).same (.of_below hb10 (by omega))).same (hb11.same (by omega) (by omega))).same (.of_below hb12 (by omega))).same (.of_below hb13 (by omega))).same (.of_below hb14 (by omega))).rd (by omega)).mono ?_
  rintro e w15 ⟨rfl, hb15⟩
  have s15 := hb15.size
  have HB15 := HB14.trans (hb15.mono HB14.size)
  clear HB14
  go_wp2_with fail
  refine (heldNodeS_ex ((((homg.same (.of_below hb12 (by omega))).same (.of_below hb13 (by omega))).same (.of_below hb14 (by omega))).same (.of_below hb15 (by omega))) (by omega)).mono ?_
  rintro e w16 ⟨rfl, hb16⟩
  have s16 := hb16.size
  have HB16 := HB15.trans (hb16.mono HB15.size)
  clear HB15
  go_wp2
  go_ret
  exact ⟨rfl, HB16⟩
end Go.Proofs.YtoloplpmjcgbdaaGreatDoor
namespace Go.Proofs.YtoloplpmjcgbdaaGreatDoor
open Go.ChangeShapes Go.WideShapes Go.ChangeAt Go.RowKit
open Go.ChangeMaps (open_string shut_string)


set_option maxRecDepth 100000 in
theorem fnExactRenamed_lifted (os : Os) (started : os.Started) (H : Type) (enc : TypeId × Value → H) :
    ReturnsInHanded {} Tryz.checked os 4 .any (fun w args => (Rows.fnExactRenamedSpec.pre enc Tryz.prog Tryz.f4 Rows.fnExactRenamedRow.domain false w args ∧ laidMetH Tryz.prog Rows.fnExactRenamedRow.laid w) ∧ sizedMet enc Tryz.prog Tryz.f4 (OpenSpec.ofChange Rows.fnExactRenamedSpec) false w args)
      (Rows.fnExactRenamedSpec.post enc Tryz.prog Tryz.f4 false true false false) := by
  refine lift_laid_shaped (C := Tryz.checked) (X := fun w _ => laidMetH Tryz.prog Rows.fnExactRenamedRow.laid w) (by kernel_rfl) started (by kernel_rfl) Tryz.func4
    (ChangeSpec.witness_shaped (enc := enc) (C := Tryz.checked) (os := os) (X := fun w _ => laidMetH Tryz.prog Rows.fnExactRenamedRow.laid w) false (World.laidAll Tryz.prog os Rows.fnExactRenamedRow.laid) #[.slice none 0 0, .int .i64 0, .string ByteArray.empty, .string ByteArray.empty] 8 (World.laidAll_os _ _ _)
      (World.shaped_of_ZipB (by kernel_rfl) (by kernel_rfl)) (by kernel_rfl) (by kernel_rfl) (by kernel_rfl)
      (by rw [MakeChecks.laidMetH_plain _ _ _ (by kernel_rfl)]; exact laidMet_laidAll _ (by kernel_rfl) (by kernel_rfl))) ?_
  intro W base args ds gs before hval0 hW hsh
  have hval : ∀ (j : Nat) t v, Tryz.f4.params[j]? = some t → args[j]? = some v → Value.okWide Tryz.prog W .any base t v := hval0
  have hW' := hW
  obtain ⟨p, q, hA0, hV, rfl, hfz, hnd⟩ := hW
  have hA : DataW.TrodAll enc Tryz.prog W 0 (fun _ => true) true Tryz.f4.params.toList args.toList ds p := hA0
  rw [Tryz.params4] at hA hval
  obtain ⟨v0, vs0, d0, ds0, p0, q0, hargs, rfl, rfl, h0, r0⟩ := trodAll_cons hA
  obtain ⟨v1, vs1, d1, ds1, p1, q1, rfl, rfl, rfl, h1, r1⟩ := trodAll_cons r0
  obtain ⟨v2, vs2, d2, ds2, p2, q2, rfl, rfl, rfl, h2, r2⟩ := trodAll_cons r1
  obtain ⟨v3, vs3, d3, ds3, p3, q3, rfl, rfl, rfl, h3, r3⟩ := trodAll_cons r2
  obtain ⟨rfl, rfl, rfl⟩ := trodAll_nil r3
  obtain rfl : args = #[v0, v1, v2, v3] := by cases args; simp_all
  obtain ⟨rfl, rfl⟩ := trodVars_none hV
  obtain ⟨xs0, hr0, hk0⟩ := open_sl Tryz.underlying22 (opens_sl Tryz.underlying22 Tryz.cells36 (by decide) opens_Node) (hval 0 22 v0 rfl rfl) h0
  obtain ⟨a1, rfl, _, _, wa1⟩ := open_int Tryz.underlying3 (hval 1 3 v1 rfl rfl) h1
  obtain ⟨a2, rfl, _, _, wa2⟩ := open_string Tryz.underlying9 (hval 2 9 v2 rfl rfl) h2
  obtain ⟨a3, rfl, _, _, wa3⟩ := open_string Tryz.underlying9 (hval 3 9 v3 rfl rfl) h3
  refine (lawRenamed_any xs0 _ a1 a2 a3 W hr0 hk0 (I64.of_wf wa1) wa2 wa3).mono fun e W' ⟨he, hb⟩ => ?_
  subst he
  exact ⟨_, rfl, law_post Tryz.laidOut (by intro t ht; rw [Tryz.params4] at ht; simp at ht; rcases ht with rfl | rfl | rfl | rfl <;> exact ⟨by kernel_rfl, of_decide_eq_true (by kernel_rfl)⟩) hW' rfl rfl Tryz.underlying4 rfl rfl rfl hb⟩

theorem fnExactRenamed_row : Rows.FnExactRenamedSaid :=
  OpenClaim.holds_of_wide 4 Tryz.f4 rfl rfl rfl rfl rfl rfl rfl ⟨rfl, rfl, rfl, rfl, rfl⟩ rfl rfl rfl rfl rfl (by kernel_rfl) Tryz.func4 (by kernel_rfl)
    (of_decide_eq_true (by kernel_rfl)) (by unfold Func.isWrapper; rw [if_neg (of_decide_eq_false (by kernel_rfl))]; exact ⟨rfl, rfl⟩)
    (fun os started H enc _ => fnExactRenamed_lifted os started H enc)
theorem fnExactRenamed_holds : Rows.FnExactRenamedCardSaid :=
  Claim7.holds_tied_plain_at .later [] [.data, .pinned] true (true, "86041b10fade99671ec5cd5ab39c41e7dc8fd2435de174b546d4864bcc142156") false fnExactRenamed_row (fun _ h => by cases h) (by kernel_rfl) (fun _ h => by cases h) fnExactRenamed_row_tie rfl ⟨rfl, rfl⟩ (by kernel_rfl) rfl
    (fun f fn hf hfn => by
      obtain rfl : f = 4 := Option.some.inj ((show Tryz.prog.funcNamed "loop.example/g00459/laws.FnExactRenamed" = some 4 by kernel_rfl).symm.trans hf) |>.symm
      obtain rfl : fn = Tryz.f4 := (Option.some.inj (Tryz.func4.symm.trans hfn)).symm
      exact ⟨by kernel_rfl, fun j t ht => by
        rw [Tryz.params4] at ht
        have hm : t ∈ [22, 3, 9, 9] := by simpa using Array.mem_of_getElem? ht
        have hall : ([22, 3, 9, 9].all fun u => !Tryz.prog.wantsStandIn u) = true := by kernel_rfl
        exact (show Tryz.prog.wantsStandIn t = false by simpa using List.all_eq_true.1 hall t hm)⟩)
    (by kernel_rfl)
#print axioms fnExactRenamed_holds

end Go.Proofs.YtoloplpmjcgbdaaGreatDoor
