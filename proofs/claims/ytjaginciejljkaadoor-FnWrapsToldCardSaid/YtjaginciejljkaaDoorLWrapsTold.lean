/- FnWrapsTold: what is told of drawn words and notes, right or not, is what the document tells. No condition. -/
import Derived.Test.YtjaginciejljkaaDoorDrawX
import Derived.Test.YtjaginciejljkaaDoorWrap
import Derived.KernelRfl
import Derived.Test.YtjaginciejljkaaDoorLiftD
import Derived.Test.YtjaginciejljkaaDoorTie
import Derived.Test.YtjaginciejljkaaDoorCards
import Derived.Lay
import Derived.LaidMore
import Derived.SevenTiedAt
import Derived.MakeChecks
import Derived.Stop.Joined
namespace Go.Proofs.YtjaginciejljkaaDoor
open Go.RowKit

theorem note_len : (wrapL ⟨#[47, 47, 32, 97, 32, 98]⟩ 2 6).length = 2 := by kernel_rfl
set_option maxHeartbeats 8000000 in
set_option maxRecDepth 100000 in
theorem lawWrapsTold_any (xs : List Int) (v : Value) (m : Int) (w : World) (hr : Rd bytS 0 w.heap.size w v xs) (hx : ∀ x ∈ xs, U8 x) (hm : w.cell? ⟨0, 0, none⟩ = some (.int .i64 m)) :
    Calls Tryd.prog 4 #[v] w fun e w' => e = .returned (.bool true) ∧ Below w.heap.size w w' := by
  have HM := Lib.hid (fun w4 (h4 : Below w.heap.size w w4) => (h4.cell (World.block_lt_of_cell? w ⟨0, 0, none⟩ hm)).trans hm)
  have HR := Lib.hid (fun w4 (h4 : Below w.heap.size w w4) => hr.below h4 (Nat.le_refl _))
  have HX := Lib.hid hx
  clear hm hx
  go_enter Tryd.func4, Tryd.ntmps4
  go_wp2_with fail
  refine (big_any hr).mono ?_
  rintro e w0 ⟨rfl, rfl⟩
  by_cases hbig : 1048576 < xs.length
  · have hd : decide (1048576 < xs.length) = true := decide_eq_true hbig
    rw [hd]
    go_wp2
    go_ret
    exact ⟨rfl, Below.refl _ _⟩
  · have hd : decide (1048576 < xs.length) = false := decide_eq_false hbig
    rw [hd]
    clear hd hr
    go_wp2_with fail
    refine (drawGreedy_any (HR.out _ (Below.refl _ _)) (Nat.le_refl _) HX.out (by omega)).mono ?_
    rintro e w1 ⟨ra, la, wa, rfl, hsa, hIa, hra, hb1⟩
    have hs1 := hb1.size
    have HB1 := Lib.hid hb1
    go_wp2_with fail
    refine (drawRagOf_any (HR.out _ HB1.out) HB1.out.size HX.out (by omega)).mono ?_
    rintro e w2 ⟨rb, lb, wb, rfl, hlb, hzb, hIb, hrb, hb2⟩
    have hs2 := hb2.size
    have HB2 := Lib.hid (HB1.out.trans (hb2.mono HB1.out.size))
    go_wp2_with fail
    refine (drawWordsOf_any (HR.out _ HB2.out) HB2.out.size HX.out (by omega)).mono ?_
    rintro e w3 ⟨s, rfl, hzs, hb3⟩
    have hs3 := hb3.size
    have HB3 := Lib.hid (HB2.out.trans (hb3.mono HB2.out.size))
    go_wp2_with fail
    refine (drawWrapNote_any (HR.out _ HB3.out) HB3.out.size HX.out (by omega)).mono ?_
    rintro e w4 ⟨t, tn, tw, rfl, hzt, hIn, hIt, hb4⟩
    have hs4 := hb4.size
    have HB4 := Lib.hid (HB3.out.trans (hb4.mono HB3.out.size))
    have HRA := Lib.hid (fun w9 (h9 : Below w4.heap.size w4 w9) => (show Rd strF.shape w.heap.size w1.heap.size w9 ra la from hra.below (((hb2.trans (hb3.mono hs2)).trans (hb4.mono (by omega))).trans (h9.mono (by omega))) (Nat.le_refl _)))
    have HRB := Lib.hid (fun w9 (h9 : Below w4.heap.size w4 w9) => (show Rd strF.shape w1.heap.size w2.heap.size w9 rb lb from hrb.below ((hb3.trans (hb4.mono (by omega))).trans (h9.mono (by omega))) (Nat.le_refl _)))
    have HZA : Hid (∀ x ∈ la, x.size ≤ 1000) := fun x hx => by have := hsa.2 x hx; omega
    have hsum : szSum la + la.length ≤ 4194304 := by have := sz_bound (M := 20) hsa.2; have := hsa.1; omega
    have HIA := Lib.hid hIa
    have HIB := Lib.hid hIb
    have HIT := Lib.hid hIt
    have HZB := Lib.hid hzb
    have HGL := Lib.hid (greedyL_len 0 wa la)
    clear hra hrb hsa hIa hIb hIt hIn hzb
    have HC4 : Hid (Below w4.heap.size w4 w4) := Below.refl _ _
    go_wp2_with fail
    refine (Greedy_impl wa (HRA.out _ HC4.out) (by omega) hsum).mono ?_
    rintro e w5 ⟨ug, rfl, hb5, hOg⟩
    have hs5 := hb5.size
    have HB5 := Lib.hid (HB4.out.trans (hb5.mono HB4.out.size))
    have HC5 := Lib.hid (HC4.out.trans (hb5.mono HC4.out.size))
    go_wp2_with fail
    refine (greedy_spec wa (HRA.out _ HC5.out) (by omega) hsum).mono ?_
    rintro e w6 ⟨vg, rfl, hb6, hPg⟩
    have hs6 := hb6.size
    have HB6 := Lib.hid (HB5.out.trans (hb6.mono HB5.out.size))
    have HC6 := Lib.hid (HC5.out.trans (hb6.mono HC5.out.size))
    go_wp2_with fail
    refine (sameTx_any _ _ _ _ _ _ _ w6 (hOg.rd.below hb6 (Nat.le_refl _)) (by omega) hPg.rd (Nat.le_refl _)).mono ?_
    rintro e w7 ⟨rfl, hb7⟩
    have hs7 := hb7.size
    have HB7 := Lib.hid (HB6.out.trans (hb7.mono HB6.out.size))
    have HC7 := Lib.hid (HC6.out.trans (hb7.mono HC6.out.size))
    go_wp2_with fail
    refine (ragOf_impl wb (HRB.out _ HC7.out) (by omega) (fun x hx => by have := HZB.out x hx; omega) HIB.out).mono ?_
    rintro e w' ⟨rfl, rfl⟩
    go_wp2_with fail
    refine (ragOf_spec wb (HRB.out _ HC7.out) (by omega) (fun x hx => by have := HZB.out x hx; omega) HIB.out).mono ?_
    rintro e w' ⟨rfl, rfl⟩
    go_wp2_with fail
    refine (leastRag_impl wa (HRA.out _ HC7.out) (by omega) HZA.out HIA.out).mono ?_
    rintro e w8 ⟨rfl, hb8⟩
    have hs8 := hb8.size
    have HB8 := Lib.hid (HB7.out.trans (hb8.mono HB7.out.size))
    have HC8 := Lib.hid (HC7.out.trans (hb8.mono HC7.out.size))
    go_wp2_with fail
    refine (leastRag_spec wa (HRA.out _ HC8.out) (by omega) HZA.out HIA.out).mono ?_
    rintro e w9 ⟨rfl, hb9⟩
    have hs9 := hb9.size
    have HB9 := Lib.hid (HB8.out.trans (hb9.mono HB8.out.size))
    have HC9 := Lib.hid (HC8.out.trans (hb9.mono HC8.out.size))
    go_wp2_with fail
    refine (bestWrap_impl wa (HRA.out _ HC9.out) (by omega) HZA.out HIA.out).mono ?_
    rintro e w10 ⟨ub, rfl, hb10, hOb⟩
    have hs10 := hb10.size
    have HB10 := Lib.hid (HB9.out.trans (hb10.mono HB9.out.size))
    have HC10 := Lib.hid (HC9.out.trans (hb10.mono HC9.out.size))
    go_wp2_with fail
    refine (bestWrap_spec wa (HRA.out _ HC10.out) (by omega) HZA.out HIA.out).mono ?_
    rintro e w11 ⟨vb, rfl, hb11, hPb⟩
    have hs11 := hb11.size
    have HB11 := Lib.hid (HB10.out.trans (hb11.mono HB10.out.size))
    have HC11 := Lib.hid (HC10.out.trans (hb11.mono HC10.out.size))
    go_wp2_with fail
    refine (sameTx_any _ _ _ _ _ _ _ w11 (hOb.rd.below hb11 (Nat.le_refl _)) (by omega) hPb.rd (Nat.le_refl _)).mono ?_
    rintro e w12 ⟨rfl, hb12⟩
    have hs12 := hb12.size
    have HB12 := Lib.hid (HB11.out.trans (hb12.mono HB11.out.size))
    have HC12 := Lib.hid (HC11.out.trans (hb12.mono HC11.out.size))
    go_wp2_with fail
    refine (wordsOf_impl s m _ (by omega) (HM.out _ HB12.out)).mono ?_
    rintro e w13 ⟨us, rfl, hb13, hOs⟩
    have hs13 := hb13.size
    have HB13 := Lib.hid (HB12.out.trans (hb13.mono HB12.out.size))
    have HC13 := Lib.hid (HC12.out.trans (hb13.mono HC12.out.size))
    go_wp2_with fail
    refine (wordsOf_spec s _ (by omega)).mono ?_
    rintro e w14 ⟨vs, rfl, hb14, hPs⟩
    have hs14 := hb14.size
    have HB14 := Lib.hid (HB13.out.trans (hb14.mono HB13.out.size))
    have HC14 := Lib.hid (HC13.out.trans (hb14.mono HC13.out.size))
    go_wp2_with fail
    refine (sameTx_any _ _ _ _ _ _ _ w14 (hOs.rd.below hb14 (Nat.le_refl _)) (by omega) hPs.rd (Nat.le_refl _)).mono ?_
    rintro e w15 ⟨rfl, hb15⟩
    have hs15 := hb15.size
    have HB15 := Lib.hid (HB14.out.trans (hb15.mono HB14.out.size))
    have HC15 := Lib.hid (HC14.out.trans (hb15.mono HC14.out.size))
    go_wp2_with fail
    refine (wrapNote_impl t tn tw m _ (by omega) (HM.out _ HB15.out)).mono ?_
    rintro e w16 ⟨ut, rfl, hb16, hOt⟩
    have hs16 := hb16.size
    have HB16 := Lib.hid (HB15.out.trans (hb16.mono HB15.out.size))
    have HC16 := Lib.hid (HC15.out.trans (hb16.mono HC15.out.size))
    go_wp2_with fail
    refine (wrapNote_spec t tn tw _ (by omega) HIT.out).mono ?_
    rintro e w17 ⟨vt, rfl, hb17, hPt⟩
    have hs17 := hb17.size
    have HB17 := Lib.hid (HB16.out.trans (hb17.mono HB16.out.size))
    have HC17 := Lib.hid (HC16.out.trans (hb17.mono HC16.out.size))
    go_wp2_with fail
    refine (sameTx_any _ _ _ _ _ _ _ w17 (hOt.rd.below hb17 (Nat.le_refl _)) (by omega) hPt.rd (Nat.le_refl _)).mono ?_
    rintro e w18 ⟨rfl, hb18⟩
    have hs18 := hb18.size
    have HB18 := Lib.hid (HB17.out.trans (hb18.mono HB17.out.size))
    have HC18 := Lib.hid (HC17.out.trans (hb18.mono HC17.out.size))
    go_wp2_with fail
    refine (wrapNote_impl ⟨#[47, 47, 32, 97, 32, 98]⟩ 2 6 m _ (by decide) (HM.out _ HB18.out)).mono ?_
    rintro e w19 ⟨un, rfl, hb19, hOn⟩
    have hs19 := hb19.size
    have HB19 := Lib.hid (HB18.out.trans (hb19.mono HB18.out.size))
    have HC19 := Lib.hid (HC18.out.trans (hb19.mono HC18.out.size))
    obtain ⟨na, nc, rfl, _, _, _⟩ := hOn.form
    rw [note_len]
    go_wp2
    go_ret
    exact ⟨rfl, HB19.out⟩
end Go.Proofs.YtjaginciejljkaaDoor
namespace Go.Proofs.YtjaginciejljkaaDoor
open Go.ChangeShapes Go.WideShapes Go.ChangeAt Go.RowKit
open Go.ChangeMaps (open_string shut_string)

theorem Tryd.cellsByte : Tryd.prog.cellsOf 5 = 1 := by kernel_rfl
theorem opens_byte {P : Program} {t : TypeId} (h : P.underlying t = some (.int .u8)) : Opens P bytF.shape t U8 := by
  intro H enc w base spare held fuel cs x hx
  obtain ⟨n, rfl, _, hw⟩ := DataW.trod_int h hx
  refine ⟨n, rfl, ?_⟩
  simp [Lit.wf, IntKind.min, IntKind.max, IntKind.signed, IntKind.bits] at hw
  unfold U8; omega
set_option maxRecDepth 100000 in
theorem fnWrapsTold_lifted (os : Os) (started : os.Started) (H : Type) (enc : TypeId × Value → H) :
    ReturnsInHanded {} Tryd.checked os 4 .any (fun w args => (Rows.fnWrapsToldSpec.pre enc Tryd.prog Tryd.f4 Rows.fnWrapsToldRow.domain false w args ∧ laidMetH Tryd.prog Rows.fnWrapsToldRow.laid w) ∧ sizedMet enc Tryd.prog Tryd.f4 (OpenSpec.ofChange Rows.fnWrapsToldSpec) false w args)
      (Rows.fnWrapsToldSpec.post enc Tryd.prog Tryd.f4 false true false false) := by
  refine lift_laid_shaped (C := Tryd.checked) (X := fun w _ => laidMetH Tryd.prog Rows.fnWrapsToldRow.laid w) (by kernel_rfl) started (by kernel_rfl) Tryd.func4
    (ChangeSpec.witness_shaped (enc := enc) (C := Tryd.checked) (os := os) (X := fun w _ => laidMetH Tryd.prog Rows.fnWrapsToldRow.laid w) false (World.laidAll Tryd.prog os Rows.fnWrapsToldRow.laid) #[.slice none 0 0] 8 (World.laidAll_os _ _ _)
      (World.shaped_of_ZipB (by kernel_rfl) (by kernel_rfl)) (by kernel_rfl) (by kernel_rfl) (by kernel_rfl)
      (by rw [MakeChecks.laidMetH_plain _ _ _ (by kernel_rfl)]; exact laidMet_laidAll _ (by kernel_rfl) (by kernel_rfl))) ?_
  intro W base args ds gs before hval0 hW hsh
  have hval : ∀ (j : Nat) t v, Tryd.f4.params[j]? = some t → args[j]? = some v → Value.okWide Tryd.prog W .any base t v := hval0
  have hW' := hW
  obtain ⟨p, q, hA0, hV, rfl, hfz, hnd⟩ := hW
  have hA : DataW.TrodAll enc Tryd.prog W 0 (fun _ => true) true Tryd.f4.params.toList args.toList ds p := hA0
  rw [Tryd.params4] at hA hval
  obtain ⟨v0, vs0, d0, ds0, p0, q0, hargs, rfl, rfl, h0, r0⟩ := trodAll_cons hA
  obtain ⟨rfl, rfl, rfl⟩ := trodAll_nil r0
  obtain rfl : args = #[v0] := by cases args; simp_all
  obtain ⟨rfl, rfl⟩ := trodVars_none hV
  obtain ⟨xs0, hr0, hk0⟩ := open_sl Tryd.underlying22 (opens_sl Tryd.underlying22 Tryd.cellsByte (by decide) (opens_byte Tryd.underlying5)) (hval 0 22 v0 rfl rfl) h0
  obtain ⟨m, hm⟩ := Tryd.laysM146.s1_3 W hsh
  refine (lawWrapsTold_any xs0 _ m W hr0 hk0 hm).mono fun e W' ⟨he, hb⟩ => ?_
  subst he
  exact ⟨_, rfl, law_post Tryd.laidOut (by intro t ht; rw [Tryd.params4] at ht; simp at ht; subst ht; exact ⟨by kernel_rfl, of_decide_eq_true (by kernel_rfl)⟩) hW' rfl rfl Tryd.underlying4 rfl rfl rfl hb⟩

theorem fnWrapsTold_row : Rows.FnWrapsToldSaid :=
  OpenClaim.holds_of_wide 4 Tryd.f4 rfl rfl rfl rfl rfl rfl rfl ⟨rfl, rfl, rfl, rfl, rfl⟩ rfl rfl rfl rfl rfl (by kernel_rfl) Tryd.func4 (by kernel_rfl)
    (of_decide_eq_true (by kernel_rfl)) (by unfold Func.isWrapper; rw [if_neg (of_decide_eq_false (by kernel_rfl))]; exact ⟨rfl, rfl⟩)
    (fun os started H enc _ => fnWrapsTold_lifted os started H enc)
theorem fnWrapsTold_holds : Rows.FnWrapsToldCardSaid :=
  Claim7.holds_tied_plain_at .later [] [.data, .pinned] true (true, "669d0d209138f1eb64bb2ea2eebce1d18ebd4caa963550618b0e7a0b38caae6f") false fnWrapsTold_row (fun _ h => by cases h) (by kernel_rfl) (fun _ h => by cases h) fnWrapsTold_row_tie rfl ⟨rfl, rfl⟩ (by kernel_rfl) rfl
    (fun f fn hf hfn => by
      obtain rfl : f = 4 := Option.some.inj ((show Tryd.prog.funcNamed "loop.example/g00459/laws.FnWrapsTold" = some 4 by kernel_rfl).symm.trans hf) |>.symm
      obtain rfl : fn = Tryd.f4 := (Option.some.inj (Tryd.func4.symm.trans hfn)).symm
      exact ⟨by kernel_rfl, fun j t ht => by
        rw [Tryd.params4] at ht
        have hm : t ∈ [22] := by simpa using Array.mem_of_getElem? ht
        have hall : ([22].all fun u => !Tryd.prog.wantsStandIn u) = true := by kernel_rfl
        exact (show Tryd.prog.wantsStandIn t = false by simpa using List.all_eq_true.1 hall t hm)⟩)
    (by kernel_rfl)
#print axioms fnWrapsTold_holds

end Go.Proofs.YtjaginciejljkaaDoor
