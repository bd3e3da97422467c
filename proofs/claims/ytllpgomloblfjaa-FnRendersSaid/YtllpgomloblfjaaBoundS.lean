/- Bound of the reference, and all that it calls. -/
import Derived.Test.YtllpgomloblfjaaBoundD
import Derived.Test.YtllpgomloblfjaaPieceOkS
namespace Go.Proofs.Ytllpgomloblfjaa
open Go.RowKit

set_option maxHeartbeats 2000000 in
set_option maxRecDepth 100000 in
theorem l12First_spec (x : Piece) (vals : List Int) (ra ca sa ta va : Option Addr) (rc cc sc tc vc lo hi lo' hi' : Nat) (w : World) (hp : PFour x ra rc ca cc sa sc ta tc lo hi w) (hh : hi ≤ w.heap.size) (hv : Rd intF.shape lo' hi' w (.slice va vals.length vc) vals) (hh' : hi' ≤ w.heap.size) :
    Calls Try.prog 72 #[x.v ra rc ca cc sa sc ta tc, .slice va vals.length vc] w fun e w' => e = .returned (.bool (firstOk x.rules vals)) ∧ Below w.heap.size w w' := by
  obtain ⟨hr, hc, hsp, ht⟩ := hp
  obtain ⟨hrl, hr5⟩ := at_rule hr
  obtain ⟨hvl, hv5⟩ := at_int hv
  obtain ⟨B, HB⟩ : ∃ B, Hid (B = w.heap.size) := ⟨_, rfl⟩
  have hBw : B ≤ w.heap.size := Nat.le_of_eq HB.out
  have hBw' : w.heap.size ≤ B := Nat.le_of_eq HB.out.symm
  unfold Piece.v
  have hX0 := PBox.new x ra ca sa ta rc cc sc tc w
  have hb0 : Below B w (w.alloc (.cells #[.int .i64 x.indent, .slice ra x.rules.length rc, .slice ca x.chunks.length cc, .slice sa x.spans.length sc, .slice ta x.ties.length tc] 29)) := (Below.refl _ _).alloc hBw _
  have hs0 := hb0.size
  by_cases hn : x.rules.length < vals.length
  · have HF := Lib.hid (firstOk_no hn)
    have hni : (x.rules.length : Int) < (vals.length : Int) := by omega
    go_enter Try.func72, Try.ntmps72
    go_wp2
    go_ret
    exact ⟨ret_bool HF.out.symm, by rw [← HB.out]; exact hb0⟩
  have hni : ¬ (x.rules.length : Int) < (vals.length : Int) := by omega
  have HV := Lib.hid (show firstOk x.rules vals = (List.range vals.length).all (valAt x.rules vals) by rw [firstOk_eq, decide_eq_true (by omega : vals.length ≤ x.rules.length)]; rfl)
  go_enter Try.func72, Try.ntmps72
  go_wp2
  generalize w.alloc (.cells #[.int .i64 x.indent, .slice ra x.rules.length rc, .slice ca x.chunks.length cc, .slice sa x.spans.length sc, .slice ta x.ties.length tc] 29) = w0 at *
  go_loopw [5] (fun i wr => ∃ k : Nat, k ≤ vals.length ∧ i = .int .i64 k ∧ Hid ((List.range k).all (valAt x.rules vals) = true) ∧ Below B w wr ∧ PBox x ra rc ca cc sa sc ta tc w.heap.size wr) (fun i _ => vals.length - (intOf i).toNat)
  case atStart => exact ⟨0, Nat.zero_le _, rfl, rfl, hb0, hX0⟩
  case round =>
    obtain ⟨k, hk, rfl, HA, hb, hX⟩ := hrel
    have hsz := hb.size
    have hxl := hX.lt
    obtain ⟨p0, p1, p2, p3, p4⟩ := hX.five
    by_cases hlt : k < vals.length
    · have hki : (k : Int) < (vals.length : Int) := by omega
      have hkz : (0 : Int) ≤ (k : Int) := by omega
      have hkr : k < x.rules.length := by omega
      have hkri : (k : Int) < (x.rules.length : Int) := by omega
      obtain ⟨b, off, rfl, hlo, hhi, c0, _⟩ := hr5 k hkr
      obtain ⟨b1, o1, rfl, l1, l2, m0⟩ := hv5 k hlt
      have d0 := (hb.cell (p := ⟨b, _, none⟩) (by show b < _; omega)).trans c0
      have n0 := (hb.cell (p := ⟨b1, _, none⟩) (by show b1 < _; omega)).trans m0
      have HN := Lib.hid (fun h : valAt x.rules vals k = false => (HV.out.trans (range_all_no hlt h) : firstOk x.rules vals = false))
      have HI := Lib.hid (valAt_at hlt hkr)
      clear c0 m0 hr5 hv5 HV
      generalize x.rules[k].values = rv at *
      generalize vals[k] = vk at *
      obtain ⟨m, hm⟩ : ∃ m, m = wrap64 (rv - 1) := ⟨_, rfl⟩
      rw [← hm] at HI
      have hm2 : IntKind.i64.wrap (rv - 1) = m := (IntWalk.i64_left _).trans hm.symm
      replace hm := hm.symm
      go_wp2_with fail
      cases g1 : inR vk 0 m with
      | false =>
        have HF := Lib.hid (HN.out (HI.out.trans g1))
        refine wp_region_held_drew (S := fun w' => w' = wr.drew) (by kernel_rfl) ?_ (fun hHeld => ?_)
        · exact rfl
        refine wpAnyH_take (i := 0) (v := ?v1) (at_op rfl) (by kernel_rfl) (by kernel_rfl) (by kernel_rfl) (fun _ _ _ h => h) (Or.inl ⟨by rfl, ?y1⟩) (by assumption) ?r1
        case y1 =>
          intro wx hSx
          subst hSx
          go_simp
          try with_reducible rfl
        try simp only [Act.put, List.setIfInBounds_toArray, List.set_cons_zero, List.set_cons_succ]
        refine wpAnyH_take (i := 1) (v := ?v2) (at_op rfl) (by kernel_rfl) (by kernel_rfl) (by kernel_rfl) (fun _ _ _ h => h) (Or.inl ⟨by rfl, ?y2⟩) (by assumption) ?r2
        case y2 =>
          intro wx hSx
          subst hSx
          go_simp
          try with_reducible rfl
        try simp only [Act.put, List.setIfInBounds_toArray, List.set_cons_zero, List.set_cons_succ]
        refine wpAnyH_take (i := 2) (v := ?v3) (at_op rfl) (by kernel_rfl) (by kernel_rfl) (by kernel_rfl) (fun _ _ _ h => h) (Or.inl ⟨by rfl, ?y3⟩) (by assumption) ?r3
        case y3 =>
          intro wx hSx
          subst hSx
          go_simp
          try with_reducible rfl
        try simp only [Act.put, List.setIfInBounds_toArray, List.set_cons_zero, List.set_cons_succ]
        refine wpAnyH_take (i := 3) (v := ?v4) (at_op rfl) (by kernel_rfl) (by kernel_rfl) (by kernel_rfl) (fun _ _ _ h => h) (Or.inl ⟨by rfl, ?y4⟩) (by assumption) ?r4
        case y4 =>
          intro wx hSx
          subst hSx
          go_simp
          try with_reducible rfl
        try simp only [Act.put, List.setIfInBounds_toArray, List.set_cons_zero, List.set_cons_succ]
        refine wpAnyH_take (i := 4) (v := ?v5) (at_op rfl) (by kernel_rfl) (by kernel_rfl) (by kernel_rfl) (fun _ _ _ h => h) (Or.inl ⟨by rfl, ?y5⟩) (by assumption) ?r5
        case y5 =>
          intro wx hSx
          subst hSx
          go_simp
          try with_reducible rfl
        try simp only [Act.put, List.setIfInBounds_toArray, List.set_cons_zero, List.set_cons_succ]
        refine wpAnyH_take (i := 5) (v := ?v6) (at_op rfl) (by kernel_rfl) (by kernel_rfl) (by kernel_rfl) (fun _ _ _ h => h) (Or.inl ⟨by rfl, ?y6⟩) (by assumption) ?r6
        case y6 =>
          intro wx hSx
          subst hSx
          go_simp
          try with_reducible rfl
        try simp only [Act.put, List.setIfInBounds_toArray, List.set_cons_zero, List.set_cons_succ]
        refine wpAnyH_take (i := 6) (v := ?v7) (at_op rfl) (by kernel_rfl) (by kernel_rfl) (by kernel_rfl) (fun _ _ _ h => h) (Or.inl ⟨by rfl, ?y7⟩) (by assumption) ?r7
        case y7 =>
          intro wx hSx
          subst hSx
          go_simp
          try with_reducible rfl
        try simp only [Act.put, List.setIfInBounds_toArray, List.set_cons_zero, List.set_cons_succ]
        refine wpAnyH_take (i := 7) (v := ?v8) (at_op rfl) (by kernel_rfl) (by kernel_rfl) (by kernel_rfl) (fun _ _ _ h => h) (Or.inl ⟨by rfl, ?y8⟩) (by assumption) ?r8
        case y8 =>
          intro wx hSx
          subst hSx
          go_simp
          try with_reducible rfl
        try simp only [Act.put, List.setIfInBounds_toArray, List.set_cons_zero, List.set_cons_succ]
        refine wpAnyH_take (i := 8) (v := ?v9) (at_op rfl) (by kernel_rfl) (by kernel_rfl) (by kernel_rfl) (fun _ _ _ h => h) (Or.inl ⟨by rfl, ?y9⟩) (by assumption) ?r9
        case y9 =>
          intro wx hSx
          subst hSx
          go_simp
          try with_reducible rfl
        try simp only [Act.put, List.setIfInBounds_toArray, List.set_cons_zero, List.set_cons_succ]
        refine wpAnyH_take (i := 9) (v := ?v10) (at_op rfl) (by kernel_rfl) (by kernel_rfl) (by kernel_rfl) (fun _ _ _ h => h) (Or.inl ⟨by rfl, ?y10⟩) (by assumption) ?r10
        case y10 =>
          intro wx hSx
          subst hSx
          go_simp
          try with_reducible rfl
        try simp only [Act.put, List.setIfInBounds_toArray, List.set_cons_zero, List.set_cons_succ]
        refine wpAnyH_take (i := 10) (v := ?v11) (at_op rfl) (by kernel_rfl) (by kernel_rfl) (by kernel_rfl) (fun _ _ _ h => h) (Or.inl ⟨by rfl, ?y11⟩) (by assumption) ?r11
        case y11 =>
          intro wx hSx
          subst hSx
          go_simp
          try with_reducible rfl
        try simp only [Act.put, List.setIfInBounds_toArray, List.set_cons_zero, List.set_cons_succ]
        refine wpAnyH_ready (rs := [11]) (by kernel_rfl) (by simp) ?_
        refine AllReadyH.cons (at_op rfl) (fun K hK => ?_) AllReadyH.nil
        go_simp
        refine (l01In_any vk 0 m _).mono ?_
        rintro e w' ⟨rfl, rfl⟩
        rw [g1]
        go_wp2_with fail
        refine hK.out _ _ rfl (fun _ => ?_)
        clear hK K
        try simp only [Act.put, List.setIfInBounds_toArray, List.set_cons_zero, List.set_cons_succ]
        refine wpAnyH_take (i := 12) (v := ?v12) (at_op rfl) (by kernel_rfl) (by kernel_rfl) (by kernel_rfl) (fun _ _ _ h => h) (Or.inl ⟨by rfl, ?y12⟩) (by assumption) ?r12
        case y12 =>
          intro wx hSx
          subst hSx
          go_simp
          try with_reducible rfl
        try simp only [Act.put, List.setIfInBounds_toArray, List.set_cons_zero, List.set_cons_succ]
        refine wpAnyH_done (by kernel_rfl) ?_ _
        go_wp2
        go_ret
        exact ⟨ret_bool HF.out.symm, by rw [← HB.out]; exact hb.drew⟩
      | true =>
        have G1 := Lib.hid (HI.out.trans g1)
        refine wp_region_held_drew (S := fun w' => w' = wr.drew) (by kernel_rfl) ?_ (fun hHeld => ?_)
        · exact rfl
        refine wpAnyH_take (i := 0) (v := ?v13) (at_op rfl) (by kernel_rfl) (by kernel_rfl) (by kernel_rfl) (fun _ _ _ h => h) (Or.inl ⟨by rfl, ?y13⟩) (by assumption) ?r13
        case y13 =>
          intro wx hSx
          subst hSx
          go_simp
          try with_reducible rfl
        try simp only [Act.put, List.setIfInBounds_toArray, List.set_cons_zero, List.set_cons_succ]
        refine wpAnyH_take (i := 1) (v := ?v14) (at_op rfl) (by kernel_rfl) (by kernel_rfl) (by kernel_rfl) (fun _ _ _ h => h) (Or.inl ⟨by rfl, ?y14⟩) (by assumption) ?r14
        case y14 =>
          intro wx hSx
          subst hSx
          go_simp
          try with_reducible rfl
        try simp only [Act.put, List.setIfInBounds_toArray, List.set_cons_zero, List.set_cons_succ]
        refine wpAnyH_take (i := 2) (v := ?v15) (at_op rfl) (by kernel_rfl) (by kernel_rfl) (by kernel_rfl) (fun _ _ _ h => h) (Or.inl ⟨by rfl, ?y15⟩) (by assumption) ?r15
        case y15 =>
          intro wx hSx
          subst hSx
          go_simp
          try with_reducible rfl
        try simp only [Act.put, List.setIfInBounds_toArray, List.set_cons_zero, List.set_cons_succ]
        refine wpAnyH_take (i := 3) (v := ?v16) (at_op rfl) (by kernel_rfl) (by kernel_rfl) (by kernel_rfl) (fun _ _ _ h => h) (Or.inl ⟨by rfl, ?y16⟩) (by assumption) ?r16
        case y16 =>
          intro wx hSx
          subst hSx
          go_simp
          try with_reducible rfl
        try simp only [Act.put, List.setIfInBounds_toArray, List.set_cons_zero, List.set_cons_succ]
        refine wpAnyH_take (i := 4) (v := ?v17) (at_op rfl) (by kernel_rfl) (by kernel_rfl) (by kernel_rfl) (fun _ _ _ h => h) (Or.inl ⟨by rfl, ?y17⟩) (by assumption) ?r17
        case y17 =>
          intro wx hSx
          subst hSx
          go_simp
          try with_reducible rfl
        try simp only [Act.put, List.setIfInBounds_toArray, List.set_cons_zero, List.set_cons_succ]
        refine wpAnyH_take (i := 5) (v := ?v18) (at_op rfl) (by kernel_rfl) (by kernel_rfl) (by kernel_rfl) (fun _ _ _ h => h) (Or.inl ⟨by rfl, ?y18⟩) (by assumption) ?r18
        case y18 =>
          intro wx hSx
          subst hSx
          go_simp
          try with_reducible rfl
        try simp only [Act.put, List.setIfInBounds_toArray, List.set_cons_zero, List.set_cons_succ]
        refine wpAnyH_take (i := 6) (v := ?v19) (at_op rfl) (by kernel_rfl) (by kernel_rfl) (by kernel_rfl) (fun _ _ _ h => h) (Or.inl ⟨by rfl, ?y19⟩) (by assumption) ?r19
        case y19 =>
          intro wx hSx
          subst hSx
          go_simp
          try with_reducible rfl
        try simp only [Act.put, List.setIfInBounds_toArray, List.set_cons_zero, List.set_cons_succ]
        refine wpAnyH_take (i := 7) (v := ?v20) (at_op rfl) (by kernel_rfl) (by kernel_rfl) (by kernel_rfl) (fun _ _ _ h => h) (Or.inl ⟨by rfl, ?y20⟩) (by assumption) ?r20
        case y20 =>
          intro wx hSx
          subst hSx
          go_simp
          try with_reducible rfl
        try simp only [Act.put, List.setIfInBounds_toArray, List.set_cons_zero, List.set_cons_succ]
        refine wpAnyH_take (i := 8) (v := ?v21) (at_op rfl) (by kernel_rfl) (by kernel_rfl) (by kernel_rfl) (fun _ _ _ h => h) (Or.inl ⟨by rfl, ?y21⟩) (by assumption) ?r21
        case y21 =>
          intro wx hSx
          subst hSx
          go_simp
          try with_reducible rfl
        try simp only [Act.put, List.setIfInBounds_toArray, List.set_cons_zero, List.set_cons_succ]
        refine wpAnyH_take (i := 9) (v := ?v22) (at_op rfl) (by kernel_rfl) (by kernel_rfl) (by kernel_rfl) (fun _ _ _ h => h) (Or.inl ⟨by rfl, ?y22⟩) (by assumption) ?r22
        case y22 =>
          intro wx hSx
          subst hSx
          go_simp
          try with_reducible rfl
        try simp only [Act.put, List.setIfInBounds_toArray, List.set_cons_zero, List.set_cons_succ]
        refine wpAnyH_take (i := 10) (v := ?v23) (at_op rfl) (by kernel_rfl) (by kernel_rfl) (by kernel_rfl) (fun _ _ _ h => h) (Or.inl ⟨by rfl, ?y23⟩) (by assumption) ?r23
        case y23 =>
          intro wx hSx
          subst hSx
          go_simp
          try with_reducible rfl
        try simp only [Act.put, List.setIfInBounds_toArray, List.set_cons_zero, List.set_cons_succ]
        refine wpAnyH_ready (rs := [11]) (by kernel_rfl) (by simp) ?_
        refine AllReadyH.cons (at_op rfl) (fun K hK => ?_) AllReadyH.nil
        go_simp
        refine (l01In_any vk 0 m _).mono ?_
        rintro e w' ⟨rfl, rfl⟩
        rw [g1]
        go_wp2_with fail
        refine hK.out _ _ rfl (fun _ => ?_)
        clear hK K
        try simp only [Act.put, List.setIfInBounds_toArray, List.set_cons_zero, List.set_cons_succ]
        refine wpAnyH_take (i := 12) (v := ?v24) (at_op rfl) (by kernel_rfl) (by kernel_rfl) (by kernel_rfl) (fun _ _ _ h => h) (Or.inl ⟨by rfl, ?y24⟩) (by assumption) ?r24
        case y24 =>
          intro wx hSx
          subst hSx
          go_simp
          try with_reducible rfl
        try simp only [Act.put, List.setIfInBounds_toArray, List.set_cons_zero, List.set_cons_succ]
        refine wpAnyH_done (by kernel_rfl) ?_ _
        go_wp2
        go_roundw
        case rel => exact ⟨k + 1, by omega, by go_num, range_all_succ HA.out G1.out, hb.drew, hX.drew⟩
        case measure => simp [intOf]; omega
    · have hki : ¬ (k : Int) < (vals.length : Int) := by omega
      have HF : Hid (firstOk x.rules vals = true) := by have e := HA.out; rw [show k = vals.length by omega] at e; exact HV.out.trans e
      go_wp2
      go_ret
      exact ⟨ret_bool HF.out.symm, by rw [← HB.out]; exact hb⟩
set_option maxHeartbeats 2000000 in
set_option maxRecDepth 100000 in
theorem l12Bound_spec (x : Piece) (vals : List Int) (ra ca sa ta va : Option Addr) (rc cc sc tc vc lo hi lo' hi' : Nat) (w : World) (hp : PFour x ra rc ca cc sa sc ta tc lo hi w) (hh : hi ≤ w.heap.size) (hv : Rd intF.shape lo' hi' w (.slice va vals.length vc) vals) (hh' : hi' ≤ w.heap.size) (hx : Right x) (hvr : RightV x vals) :
    Calls Try.prog 66 #[x.v ra rc ca cc sa sc ta tc, .slice va vals.length vc] w fun e w' => e = .returned (.int .i64 (boundOf x vals)) ∧ Below w.heap.size w w' := by
  obtain ⟨hr, hc, hsp, ht⟩ := hp
  obtain ⟨hrl, hr5⟩ := at_rule hr
  obtain ⟨hspl, hsp5⟩ := at_span hsp
  obtain ⟨hcl, hc5⟩ := at_chunk hc
  obtain ⟨hvl, hv5⟩ := at_int hv
  have hl1 := hx.rules
  have hl2 := hx.spans
  have hl3 := hvr.len
  have hl4 := hx.chunks.2
  obtain ⟨B, HB⟩ : ∃ B, Hid (B = w.heap.size) := ⟨_, rfl⟩
  have hBw : B ≤ w.heap.size := Nat.le_of_eq HB.out
  have hBw' : w.heap.size ≤ B := Nat.le_of_eq HB.out.symm
  unfold Piece.v
  have hX0 := PBox.new x ra ca sa ta rc cc sc tc w
  have hb0 : Below B w (w.alloc (.cells #[.int .i64 x.indent, .slice ra x.rules.length rc, .slice ca x.chunks.length cc, .slice sa x.spans.length sc, .slice ta x.ties.length tc] 29)) := (Below.refl _ _).alloc hBw _
  have hs0 := hb0.size
  go_enter Try.func66, Try.ntmps66
  go_wp2
  generalize w.alloc (.cells #[.int .i64 x.indent, .slice ra x.rules.length rc, .slice ca x.chunks.length cc, .slice sa x.spans.length sc, .slice ta x.ties.length tc] 29) = w0 at *
  go_loopw [5, 6] (fun sm i wr => ∃ k : Nat, k ≤ vals.length ∧ i = .int .i64 k ∧ sm = .int .i64 (costTo x vals k) ∧ Below B w wr ∧ PBox x ra rc ca cc sa sc ta tc w.heap.size wr) (fun _ i _ => vals.length - (intOf i).toNat)
  case atStart => exact ⟨0, Nat.zero_le _, rfl, rfl, hb0, hX0⟩
  case round =>
    clear hb0 hX0 hs0
    obtain ⟨k, hk, rfl, rfl, hb, hX⟩ := hrel
    have hsz := hb.size
    have hxl := hX.lt
    obtain ⟨p0, p1, p2, p3, p4⟩ := hX.five
    by_cases hlt : k < vals.length
    · have hki : (k : Int) < (vals.length : Int) := by omega
      have hkz : (0 : Int) ≤ (k : Int) := by omega
      have hkr : k < x.rules.length := by omega
      have hkri : (k : Int) < (x.rules.length : Int) := by omega
      have HS := Lib.hid (costTo_succ (x := x) hlt hkr)
      obtain ⟨n1, n2⟩ := costTo_bd hx hvr k hk
      obtain ⟨m1, m2⟩ := mul_bd (hvr.val k hlt) (hx.rule k hkr).2.2
      obtain ⟨b, off, rfl, hlo, hhi, c0, c1⟩ := hr5 k hkr
      obtain ⟨b1, o1, rfl, l1, l2, m0⟩ := hv5 k hlt
      have d1 := (hb.cell (p := ⟨b, _, none⟩) (by show b < _; omega)).trans c1
      have n0 := (hb.cell (p := ⟨b1, _, none⟩) (by show b1 < _; omega)).trans m0
      clear c0 c1 m0 hr5 hv5 hc5 hsp5
      generalize x.rules[k].cost = ck at *
      generalize vals[k] = vk at *
      generalize costTo x vals k = sk at *
      rw [Int.mul_comm vk ck] at HS m1 m2
      have wm : IntKind.i64.wrap (ck * vk) = ck * vk := IntWalk.i64_in _ (by omega)
      have ws : IntKind.i64.wrap (sk + ck * vk) = sk + ck * vk := IntWalk.i64_in _ (by omega)
      go_wp2
      go_quiet (fail)
      go_wp2
      go_roundw
      case rel => exact ⟨k + 1, by omega, by go_num, by rw [HS.out], blw_drewN hb _, hX.drewN _⟩
      case measure => simp [intOf]; omega
    · have hki : ¬ (k : Int) < (vals.length : Int) := by omega
      have HK := Lib.hid (show costTo x vals k = costTo x vals vals.length by rw [show k = vals.length by omega])
      obtain ⟨n1, n2⟩ := costTo_bd hx hvr k hk
      generalize costTo x vals k = sk at *
      go_wp2
      clear p0 p1 p2 p3 p4
      go_loopw [5, 7] (fun sm i wr => ∃ k : Nat, k ≤ x.spans.length ∧ i = .int .i64 k ∧ sm = .int .i64 (sk + spanTo x vals k) ∧ Below B w wr ∧ PBox x ra rc ca cc sa sc ta tc w.heap.size wr) (fun _ i _ => x.spans.length - (intOf i).toNat)
      case atStart => exact ⟨0, Nat.zero_le _, rfl, by rw [show spanTo x vals 0 = 0 from rfl, Int.add_zero], hb, hX⟩
      case round =>
        clear hb hX hsz hxl
        obtain ⟨j, hj, rfl, rfl, hb, hX⟩ := hrel
        have hsz := hb.size
        have hxl := hX.lt
        obtain ⟨p0, p1, p2, p3, p4⟩ := hX.five
        obtain ⟨r1, r2⟩ := spanTo_bd (v := vals) hx j hj
        by_cases hjt : j < x.spans.length
        · have hji : (j : Int) < (x.spans.length : Int) := by omega
          have hjz : (0 : Int) ≤ (j : Int) := by omega
          have HS := Lib.hid (spanTo_succ (v := vals) hjt)
          obtain ⟨y1, y2, y3, y4, y5⟩ := hx.span j hjt
          obtain ⟨b, off, rfl, hlo, hhi, c0, c1, c2⟩ := hsp5 j hjt
          have d0 := (hb.cell (p := ⟨b, _, none⟩) (by show b < _; omega)).trans c0
          clear hsp5
          generalize spanTo x vals j = tj at *
          generalize x.spans[j] = s at *
          obtain ⟨fro, til, cost⟩ := s
          simp only at d0 c0 c1 c2 y1 y2 y3 y4 y5 HS
          obtain ⟨fa, rfl⟩ := Int.eq_ofNat_of_zero_le y1
          obtain ⟨tb, rfl⟩ := Int.eq_ofNat_of_zero_le (Int.le_trans y1 y2)
          have HG : Hid (splitSpan x vals ⟨fa, tb, cost⟩ = anyAt x vals fa (tb + 1)) := rfl
          go_wp2
          clear p0 p1 p2 p3 p4 d0
          go_loopw [8, 9] (fun cu i wr => ∃ k : Nat, fa ≤ k ∧ k ≤ tb + 1 ∧ i = .int .i64 k ∧ cu = .bool (anyAt x vals fa k) ∧ Below B w wr ∧ PBox x ra rc ca cc (some ⟨b, off, none⟩) sc ta tc w.heap.size wr) (fun _ i _ => tb + 1 - (intOf i).toNat)
          case atStart => exact ⟨fa, Nat.le_refl _, by omega, rfl, by rw [anyAt_none (Nat.le_refl _)], hb, hX⟩
          case round =>
            clear hb hX hsz hxl
            obtain ⟨i, hi1, hi2, rfl, rfl, hb, hX⟩ := hrel
            have hsz := hb.size
            have hxl := hX.lt
            obtain ⟨p0, p1, p2, p3, p4⟩ := hX.five
            have e1 := (hb.cell (p := ⟨b, _, none⟩) (by show b < _; omega)).trans c1
            have e2 := (hb.cell (p := ⟨b, _, none⟩) (by show b < _; omega)).trans c2
            have e2' : wr.cell? ⟨b, off + j * 3 + 2, none⟩ = some (.int .i64 cost) := e2
            by_cases hit : i < tb + 1
            · have hii : (i : Int) ≤ (tb : Int) := by omega
              have hiz : (0 : Int) ≤ (i : Int) := by omega
              have hic : i < x.chunks.length := by omega
              have hici : (i : Int) < (x.chunks.length : Int) := by omega
              have hck := chunk_of hx (i := i) (by omega)
              have HI := Lib.hid (show spanAt x vals i = (decide (x.chunks[i].rule < (vals.length : Int)) && decide (x.chunks[i].fro ≤ vals.getD x.chunks[i].rule.toNat 0)) by rw [spanAt, splitsAt, chunkAt_lt hic])
              have HU := Lib.hid (anyAt_succ (x := x) (v := vals) hi1)
              obtain ⟨b2, o2, rfl, hlo2, hhi2, f0, f1, f2, f3, f4⟩ := hc5 i hic
              have g1 := (hb.cell (p := ⟨b2, _, none⟩) (by show b2 < _; omega)).trans f1
              have g2 := (hb.cell (p := ⟨b2, _, none⟩) (by show b2 < _; omega)).trans f2
              have g3 := (hb.cell (p := ⟨b2, _, none⟩) (by show b2 < _; omega)).trans (show w.cell? ⟨b2, o2 + i * 5 + 1 + 2, none⟩ = _ from f3)
              have g4 := (hb.cell (p := ⟨b2, _, none⟩) (by show b2 < _; omega)).trans (show w.cell? ⟨b2, o2 + i * 5 + 1 + 3, none⟩ = _ from f4)
              clear f0 f1 f2 f3 f4
              generalize x.chunks[i] = cki at *
              obtain ⟨text, rule, cfro, space, nest⟩ := cki
              simp only at g1 g2 g3 g4 hck HI
              obtain ⟨rn, rfl⟩ := Int.eq_ofNat_of_zero_le hck.1
              have hX1 := hX.alloc (.cells #[.int .i64 rn, .int .i64 cfro, .bool space, .int .i64 nest] 54)
              have hb1 := hb.alloc (by omega) (.cells #[.int .i64 rn, .int .i64 cfro, .bool space, .int .i64 nest] 54)
              cases a1 : anyAt x vals fa i with
              | true =>
                have HF := Lib.hid (show anyAt x vals fa (i + 1) = true by rw [HU.out, a1]; rfl)
                clear a1
                go_wp2
                go_quiet (fail)
                go_wp2
                go_roundw
                case rel => exact ⟨i + 1, by omega, by omega, by go_num, by rw [HF.out], blw_drewN hb1 _, hX1.drewN _⟩
                case measure => simp [intOf]; omega
              | false =>
                by_cases z : rn < vals.length
                · have HZ := Lib.hid (show anyAt x vals fa (i + 1) = decide (cfro ≤ vals[rn]) by
                    rw [HU.out, a1, HI.out, decide_eq_true (by omega : (rn : Int) < (vals.length : Int)), Int.toNat_natCast, getD_at z]; rfl)
                  obtain ⟨b1, o1, rfl, l1, l2, m0⟩ := hv5 rn z
                  have n0 := (hb1.cell (p := ⟨b1, _, none⟩) (by show b1 < _; omega)).trans m0
                  have zi : (rn : Int) < (vals.length : Int) := by omega
                  have zz : (0 : Int) ≤ (rn : Int) := by omega
                  clear a1 m0
                  generalize vals[rn] = vr at *
                  go_wp2
                  go_quiet (fail)
                  go_wp2
                  go_roundw
                  case rel => exact ⟨i + 1, by omega, by omega, by go_num, by rw [HZ.out], blw_drewN hb1 _, hX1.drewN _⟩
                  case measure => simp [intOf]; omega
                · have zi : ¬ (rn : Int) < (vals.length : Int) := by omega
                  have zd : decide ((rn : Int) < (vals.length : Int)) = false := decide_eq_false zi
                  have HF := Lib.hid (show anyAt x vals fa (i + 1) = false by rw [HU.out, a1, HI.out, zd]; rfl)
                  clear a1
                  go_wp2
                  go_quiet (fail)
                  go_wp2
                  go_roundw
                  case rel => exact ⟨i + 1, by omega, by omega, by go_num, by rw [HF.out], blw_drewN hb1 _, hX1.drewN _⟩
                  case measure => simp [intOf]; omega
            · have hii : ¬ (i : Int) ≤ (tb : Int) := by omega
              have HA := Lib.hid (show splitSpan x vals ⟨fa, tb, cost⟩ = anyAt x vals fa i by rw [HG.out, show i = tb + 1 by omega])
              cases a1 : anyAt x vals fa i with
              | true =>
                have HT := Lib.hid (show spanTo x vals (j + 1) = tj + cost by rw [HS.out, HA.out, a1]; rfl)
                clear HS
                have ws : IntKind.i64.wrap (sk + tj + cost) = sk + tj + cost := IntWalk.i64_in _ (by omega)
                go_wp2
                go_roundw
                case rel => exact ⟨j + 1, by omega, by go_num, by rw [HT.out, Int.add_assoc], hb, hX⟩
                case measure => simp [intOf]; omega
              | false =>
                have HT := Lib.hid (show spanTo x vals (j + 1) = tj by rw [HS.out, HA.out, a1]; exact Int.add_zero _)
                clear HS
                go_wp2
                go_roundw
                case rel => exact ⟨j + 1, by omega, by go_num, by rw [HT.out], hb, hX⟩
                case measure => simp [intOf]; omega
        · have hji : ¬ (j : Int) < (x.spans.length : Int) := by omega
          have HF := Lib.hid (show boundOf x vals = sk + spanTo x vals j by rw [boundOf, HK.out, show j = x.spans.length by omega])
          go_wp2
          go_ret
          exact ⟨ret_int HF.out.symm, by rw [← HB.out]; exact hb⟩
set_option maxHeartbeats 2000000 in
set_option maxRecDepth 100000 in
theorem bound_spec (x : Piece) (vals : List Int) (ra ca sa ta va : Option Addr) (rc cc sc tc vc lo hi lo' hi' : Nat) (w : World) (hp : PFour x ra rc ca cc sa sc ta tc lo hi w) (hh : hi ≤ w.heap.size) (hv : Rd intF.shape lo' hi' w (.slice va vals.length vc) vals) (hh' : hi' ≤ w.heap.size) (hT : ∀ c ∈ x.chunks, c.text.size ≤ maxLen) :
    Calls Try.prog 27 #[x.v ra rc ca cc sa sc ta tc, .slice va vals.length vc] w fun e w' => e = .returned (.int .i64 (boundB x vals)) ∧ Below w.heap.size w w' := by
  obtain ⟨B, HB⟩ : ∃ B, Hid (B = w.heap.size) := ⟨_, rfl⟩
  have hBw : B ≤ w.heap.size := Nat.le_of_eq HB.out
  have hBw' : w.heap.size ≤ B := Nat.le_of_eq HB.out.symm
  unfold Piece.v
  have hX0 := PBox.new x ra ca sa ta rc cc sc tc w
  have hb0 : Below B w (w.alloc (.cells #[.int .i64 x.indent, .slice ra x.rules.length rc, .slice ca x.chunks.length cc, .slice sa x.spans.length sc, .slice ta x.ties.length tc] 29)) := (Below.refl _ _).alloc hBw _
  have hs0 := hb0.size
  go_enter Try.func27, Try.ntmps27
  go_wp2_with fail
  generalize w.alloc (.cells #[.int .i64 x.indent, .slice ra x.rules.length rc, .slice ca x.chunks.length cc, .slice sa x.spans.length sc, .slice ta x.ties.length tc] 29) = w0 at *
  have HK := pieceOk_spec x ra ca sa ta rc cc sc tc lo hi _ (hp.below hb0 (by omega)) (by omega) hT
  unfold Piece.v at HK
  refine HK.mono ?_
  clear HK
  rintro e w1 ⟨rfl, k1⟩
  have hb1 := hb0.trans (k1.mono (by omega))
  have hs1 := hb1.size
  have hX1 := hX0.below k1
  obtain ⟨p0, p1, p2, p3, p4⟩ := hX1.five
  cases g2 : pieceOk x with
  | false =>
    have HF := Lib.hid (show boundB x vals = 0 by rw [boundB, g2, Bool.and_false]; rfl)
    go_wp2
    go_ret
    exact ⟨ret_int HF.out.symm, by rw [← HB.out]; exact hb1⟩
  | true =>
  have HK := l12First_spec x vals ra ca sa ta va rc cc sc tc vc lo hi lo' hi' _ (hp.below hb1 (by omega)) (by omega) (hv.below hb1 (by omega)) (by omega)
  unfold Piece.v at HK
  replace HK := Lib.hid HK
  go_wp2_with fail
  refine HK.out.mono ?_
  clear HK
  rintro e w2 ⟨rfl, k2⟩
  have hb2 := hb1.trans (k2.mono (by omega))
  have hs2 := hb2.size
  have hX2 := hX1.below k2
  clear p0 p1 p2 p3 p4
  obtain ⟨p0, p1, p2, p3, p4⟩ := hX2.five
  cases g1 : firstOk x.rules vals with
  | false =>
    have HF := Lib.hid (show boundB x vals = 0 by rw [boundB, g1]; rfl)
    go_wp2
    go_ret
    exact ⟨ret_int HF.out.symm, by rw [← HB.out]; exact hb2⟩
  | true =>
  have HF := Lib.hid (show boundB x vals = boundOf x vals by rw [boundB, g1, g2]; rfl)
  have hx := right_of g2
  have HK := l12Bound_spec x vals ra ca sa ta va rc cc sc tc vc lo hi lo' hi' _ (hp.below hb2 (by omega)) (by omega) (hv.below hb2 (by omega)) (by omega) hx (rightV_of hx g1)
  unfold Piece.v at HK
  replace HK := Lib.hid HK
  clear g1 g2
  go_wp2_with fail
  refine HK.out.mono ?_
  clear HK
  rintro e w3 ⟨rfl, k3⟩
  go_wp2
  go_ret
  exact ⟨ret_int HF.out.symm, by rw [← HB.out]; exact hb2.trans (k3.mono (by omega))⟩
end Go.Proofs.Ytllpgomloblfjaa
