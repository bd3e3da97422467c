/- Right values, ties that hold, and what values cost, of both. -/
import Derived.Test.YtllpgomloblfjaaBestP
import Derived.Test.YtllpgomloblfjaaRendU
namespace Go.Proofs.Ytllpgomloblfjaa
open Go.RowKit

theorem valuesOk_no {rs : List Rule} {vals : List Int} (h : vals.length ≠ rs.length) : valuesOk rs vals = false := by rw [valuesOk_eq, decide_eq_false h]; rfl
theorem valuesOk_full {x : Piece} {v : List Int} (hx : Right x) (h : FullV x v) : valuesOk x.rules v = true := by
  rw [valuesOk_eq, decide_eq_true h.full, Bool.true_and, List.all_eq_true]
  intro i hi
  rw [List.mem_range] at hi
  have hr : i < x.rules.length := by rw [← h.full]; exact hi
  have h1 := h.val i hr
  have h2 := hx.rule i hr
  rw [getD_at hi] at h1
  rw [valAt_at hi hr, IntWalk.wrap64_in _ (by omega)]
  exact inR_yes h1.1 (by omega)
theorem full_of {x : Piece} {v : List Int} (hx : Right x) (h : valuesOk x.rules v = true) : FullV x v := by
  rw [valuesOk_eq, Bool.and_eq_true, decide_eq_true_eq, List.all_eq_true] at h
  refine ⟨h.1, fun i hr => ?_⟩
  have hi : i < v.length := by rw [h.1]; exact hr
  have h1 := h.2 i (List.mem_range.2 hi)
  have h2 := hx.rule i hr
  rw [valAt_at hi hr, IntWalk.wrap64_in _ (by omega)] at h1
  have h3 := inR_of h1
  rw [getD_at hi]
  omega
theorem tie_full {x : Piece} {v : List Int} (hx : Right x) (hf : FullV x v) {k : Nat} (h : k < x.ties.length) : ∃ (kn un : Nat) (h1 : kn < v.length) (h2 : un < v.length), x.ties[k].kid = (kn : Int) ∧ x.ties[k].up = (un : Int) ∧ tieMay v x.ties[k] = !(decide (0 < v[kn]) && decide (v[un] = 0)) := by
  have h1 := hx.tie k h
  have hl := hf.full
  generalize x.ties[k] = t at *
  obtain ⟨kid, up⟩ := t
  simp only at h1
  obtain ⟨kn, rfl⟩ := Int.eq_ofNat_of_zero_le h1.1
  obtain ⟨un, rfl⟩ := Int.eq_ofNat_of_zero_le h1.2.2.1
  refine ⟨kn, un, by omega, by omega, rfl, rfl, ?_⟩
  unfold tieMay
  show (!(inR (kn : Int) 0 _ && inR (un : Int) 0 _ && decide (0 < v.getD (kn : Int).toNat 0) && decide (v.getD (un : Int).toNat 0 = 0))) = _
  rw [inR_yes (by omega) (by omega), inR_yes (by omega) (by omega), Int.toNat_natCast, Int.toNat_natCast, getD_at (by omega), getD_at (by omega)]
  rfl
set_option maxHeartbeats 1000000 in
set_option maxRecDepth 100000 in
theorem valuesOk_spec (x : Piece) (vals : List Int) (ra ca sa ta va : Option Addr) (rc cc sc tc vc lo hi lo' hi' : Nat) (w : World) (hp : PFour x ra rc ca cc sa sc ta tc lo hi w) (hh : hi ≤ w.heap.size) (hv : Rd intF.shape lo' hi' w (.slice va vals.length vc) vals) (hh' : hi' ≤ w.heap.size) :
    Calls Try.prog 63 #[x.v ra rc ca cc sa sc ta tc, .slice va vals.length vc] w fun e w' => e = .returned (.bool (valuesOk x.rules vals)) ∧ Below w.heap.size w w' := by
  obtain ⟨hr, hc, hsp, ht⟩ := hp
  obtain ⟨hrl, hr5⟩ := at_rule hr
  obtain ⟨hvl, hv5⟩ := at_int hv
  obtain ⟨B, HB⟩ : ∃ B, Hid (B = w.heap.size) := ⟨_, rfl⟩
  have hBw : B ≤ w.heap.size := Nat.le_of_eq HB.out
  have hBw' : w.heap.size ≤ B := Nat.le_of_eq HB.out.symm
  unfold Piece.v
  have hX0 := PBox.new x ra ca sa ta rc cc sc tc w
  have hb0 : Below B w (w.alloc (.cells #[.int .i64 x.indent, .slice ra x.rules.length rc, .slice ca x.chunks.length cc, .slice sa x.spans.length sc, .slice ta x.ties.length tc] 29)) := (Below.refl _ _).alloc hBw _
  have hs0 := hb0.size
  by_cases hn : vals.length ≠ x.rules.length
  · have HF := Lib.hid (valuesOk_no hn)
    have hni : ((vals.length : Int) == (x.rules.length : Int)) = false := beq_eq_false_iff_ne.2 (by omega)
    have hni2 : ¬ (vals.length : Int) = (x.rules.length : Int) := by omega
    clear hn
    go_enter Try.func63, Try.ntmps63
    go_wp2
    go_ret
    exact ⟨ret_bool HF.out.symm, by rw [← HB.out]; exact hb0⟩
  have hni : (vals.length : Int) = (x.rules.length : Int) := by omega
  have HV := Lib.hid (show valuesOk x.rules vals = (List.range vals.length).all (valAt x.rules vals) by rw [valuesOk_eq, decide_eq_true (by omega : vals.length = x.rules.length)]; rfl)
  go_enter Try.func63, Try.ntmps63
  go_wp2
  generalize w.alloc (.cells #[.int .i64 x.indent, .slice ra x.rules.length rc, .slice ca x.chunks.length cc, .slice sa x.spans.length sc, .slice ta x.ties.length tc] 29) = w0 at *
  go_loopw [5] (fun i wr => ∃ k : Nat, k ≤ vals.length ∧ i = .int .i64 k ∧ Hid ((List.range k).all (valAt x.rules vals) = true) ∧ Below B w wr ∧ PBox x ra rc ca cc sa sc ta tc w.heap.size wr) (fun i _ => vals.length - (intOf i).toNat)
  case atStart => exact ⟨0, Nat.zero_le _, rfl, rfl, hb0, hX0⟩
  case round =>
    obtain ⟨k, hk, rfl, HA, hb, hX⟩ := hrel
    have hsz := hb.size
    have hxl := hX.lt
    obtain ⟨p0, p1, p2, p3, p4⟩ := hX.five
    by_cases hlt : k < vals.length
    · have hki : (k : Int) < (vals.length : Int) := by omega
      have hkz : (0 : Int) ≤ (k : Int) := by omega
      have hkr : k < x.rules.length := by omega
      have hkri : (k : Int) < (x.rules.length : Int) := by omega
      obtain ⟨b, off, rfl, hlo, hhi, c0, _⟩ := hr5 k hkr
      obtain ⟨b1, o1, rfl, l1, l2, m0⟩ := hv5 k hlt
      have d0 := (hb.cell (p := ⟨b, _, none⟩) (by show b < _; omega)).trans c0
      have n0 := (hb.cell (p := ⟨b1, _, none⟩) (by show b1 < _; omega)).trans m0
      have HN := Lib.hid (fun h : valAt x.rules vals k = false => (HV.out.trans (range_all_no hlt h) : valuesOk x.rules vals = false))
      have HI := Lib.hid (valAt_at hlt hkr)
      clear c0 m0 hr5 hv5 HV
      generalize x.rules[k].values = rv at *
      generalize vals[k] = vk at *
      obtain ⟨m, hm⟩ : ∃ m, m = wrap64 (rv - 1) := ⟨_, rfl⟩
      rw [← hm] at HI
      have hm2 : IntKind.i64.wrap (rv - 1) = m := (IntWalk.i64_left _).trans hm.symm
      replace hm := hm.symm
      go_wp2_with fail
      cases g1 : inR vk 0 m with
      | false =>
        have HF := Lib.hid (HN.out (HI.out.trans g1))
        refine wp_region_held_drew (S := fun w' => w' = wr.drew) (by kernel_rfl) ?_ (fun hHeld => ?_)
        · exact rfl
        refine wpAnyH_take (i := 0) (v := ?v1) (at_op rfl) (by kernel_rfl) (by kernel_rfl) (by kernel_rfl) (fun _ _ _ h => h) (Or.inl ⟨by rfl, ?y1⟩) (by assumption) ?r1
        case y1 =>
          intro wx hSx
          subst hSx
          go_simp
          try with_reducible rfl
        try simp only [Act.put, List.setIfInBounds_toArray, List.set_cons_zero, List.set_cons_succ]
        refine wpAnyH_take (i := 1) (v := ?v2) (at_op rfl) (by kernel_rfl) (by kernel_rfl) (by kernel_rfl) (fun _ _ _ h => h) (Or.inl ⟨by rfl, ?y2⟩) (by assumption) ?r2
        case y2 =>
          intro wx hSx
          subst hSx
          go_simp
          try with_reducible rfl
        try simp only [Act.put, List.setIfInBounds_toArray, List.set_cons_zero, List.set_cons_succ]
        refine wpAnyH_take (i := 2) (v := ?v3) (at_op rfl) (by kernel_rfl) (by kernel_rfl) (by kernel_rfl) (fun _ _ _ h => h) (Or.inl ⟨by rfl, ?y3⟩) (by assumption) ?r3
        case y3 =>
          intro wx hSx
          subst hSx
          go_simp
          try with_reducible rfl
        try simp only [Act.put, List.setIfInBounds_toArray, List.set_cons_zero, List.set_cons_succ]
        refine wpAnyH_take (i := 3) (v := ?v4) (at_op rfl) (by kernel_rfl) (by kernel_rfl) (by kernel_rfl) (fun _ _ _ h => h) (Or.inl ⟨by rfl, ?y4⟩) (by assumption) ?r4
        case y4 =>
          intro wx hSx
          subst hSx
          go_simp
          try with_reducible rfl
        try simp only [Act.put, List.setIfInBounds_toArray, List.set_cons_zero, List.set_cons_succ]
        refine wpAnyH_take (i := 4) (v := ?v5) (at_op rfl) (by kernel_rfl) (by kernel_rfl) (by kernel_rfl) (fun _ _ _ h => h) (Or.inl ⟨by rfl, ?y5⟩) (by assumption) ?r5
        case y5 =>
          intro wx hSx
          subst hSx
          go_simp
          try with_reducible rfl
        try simp only [Act.put, List.setIfInBounds_toArray, List.set_cons_zero, List.set_cons_succ]
        refine wpAnyH_take (i := 5) (v := ?v6) (at_op rfl) (by kernel_rfl) (by kernel_rfl) (by kernel_rfl) (fun _ _ _ h => h) (Or.inl ⟨by rfl, ?y6⟩) (by assumption) ?r6
        case y6 =>
          intro wx hSx
          subst hSx
          go_simp
          try with_reducible rfl
        try simp only [Act.put, List.setIfInBounds_toArray, List.set_cons_zero, List.set_cons_succ]
        refine wpAnyH_take (i := 6) (v := ?v7) (at_op rfl) (by kernel_rfl) (by kernel_rfl) (by kernel_rfl) (fun _ _ _ h => h) (Or.inl ⟨by rfl, ?y7⟩) (by assumption) ?r7
        case y7 =>
          intro wx hSx
          subst hSx
          go_simp
          try with_reducible rfl
        try simp only [Act.put, List.setIfInBounds_toArray, List.set_cons_zero, List.set_cons_succ]
        refine wpAnyH_take (i := 7) (v := ?v8) (at_op rfl) (by kernel_rfl) (by kernel_rfl) (by kernel_rfl) (fun _ _ _ h => h) (Or.inl ⟨by rfl, ?y8⟩) (by assumption) ?r8
        case y8 =>
          intro wx hSx
          subst hSx
          go_simp
          try with_reducible rfl
        try simp only [Act.put, List.setIfInBounds_toArray, List.set_cons_zero, List.set_cons_succ]
        refine wpAnyH_take (i := 8) (v := ?v9) (at_op rfl) (by kernel_rfl) (by kernel_rfl) (by kernel_rfl) (fun _ _ _ h => h) (Or.inl ⟨by rfl, ?y9⟩) (by assumption) ?r9
        case y9 =>
          intro wx hSx
          subst hSx
          go_simp
          try with_reducible rfl
        try simp only [Act.put, List.setIfInBounds_toArray, List.set_cons_zero, List.set_cons_succ]
        refine wpAnyH_take (i := 9) (v := ?v10) (at_op rfl) (by kernel_rfl) (by kernel_rfl) (by kernel_rfl) (fun _ _ _ h => h) (Or.inl ⟨by rfl, ?y10⟩) (by assumption) ?r10
        case y10 =>
          intro wx hSx
          subst hSx
          go_simp
          try with_reducible rfl
        try simp only [Act.put, List.setIfInBounds_toArray, List.set_cons_zero, List.set_cons_succ]
        refine wpAnyH_take (i := 10) (v := ?v11) (at_op rfl) (by kernel_rfl) (by kernel_rfl) (by kernel_rfl) (fun _ _ _ h => h) (Or.inl ⟨by rfl, ?y11⟩) (by assumption) ?r11
        case y11 =>
          intro wx hSx
          subst hSx
          go_simp
          try with_reducible rfl
        try simp only [Act.put, List.setIfInBounds_toArray, List.set_cons_zero, List.set_cons_succ]
        refine wpAnyH_ready (rs := [11]) (by kernel_rfl) (by simp) ?_
        refine AllReadyH.cons (at_op rfl) (fun K hK => ?_) AllReadyH.nil
        go_simp
        refine (l01In_any vk 0 m _).mono ?_
        rintro e w' ⟨rfl, rfl⟩
        rw [g1]
        go_wp2_with fail
        refine hK.out _ _ rfl (fun _ => ?_)
        clear hK K
        try simp only [Act.put, List.setIfInBounds_toArray, List.set_cons_zero, List.set_cons_succ]
        refine wpAnyH_take (i := 12) (v := ?v12) (at_op rfl) (by kernel_rfl) (by kernel_rfl) (by kernel_rfl) (fun _ _ _ h => h) (Or.inl ⟨by rfl, ?y12⟩) (by assumption) ?r12
        case y12 =>
          intro wx hSx
          subst hSx
          go_simp
          try with_reducible rfl
        try simp only [Act.put, List.setIfInBounds_toArray, List.set_cons_zero, List.set_cons_succ]
        refine wpAnyH_done (by kernel_rfl) ?_ _
        go_wp2
        go_ret
        exact ⟨ret_bool HF.out.symm, by rw [← HB.out]; exact hb.drew⟩
      | true =>
        have G1 := Lib.hid (HI.out.trans g1)
        refine wp_region_held_drew (S := fun w' => w' = wr.drew) (by kernel_rfl) ?_ (fun hHeld => ?_)
        · exact rfl
        refine wpAnyH_take (i := 0) (v := ?v13) (at_op rfl) (by kernel_rfl) (by kernel_rfl) (by kernel_rfl) (fun _ _ _ h => h) (Or.inl ⟨by rfl, ?y13⟩) (by assumption) ?r13
        case y13 =>
          intro wx hSx
          subst hSx
          go_simp
          try with_reducible rfl
        try simp only [Act.put, List.setIfInBounds_toArray, List.set_cons_zero, List.set_cons_succ]
        refine wpAnyH_take (i := 1) (v := ?v14) (at_op rfl) (by kernel_rfl) (by kernel_rfl) (by kernel_rfl) (fun _ _ _ h => h) (Or.inl ⟨by rfl, ?y14⟩) (by assumption) ?r14
        case y14 =>
          intro wx hSx
          subst hSx
          go_simp
          try with_reducible rfl
        try simp only [Act.put, List.setIfInBounds_toArray, List.set_cons_zero, List.set_cons_succ]
        refine wpAnyH_take (i := 2) (v := ?v15) (at_op rfl) (by kernel_rfl) (by kernel_rfl) (by kernel_rfl) (fun _ _ _ h => h) (Or.inl ⟨by rfl, ?y15⟩) (by assumption) ?r15
        case y15 =>
          intro wx hSx
          subst hSx
          go_simp
          try with_reducible rfl
        try simp only [Act.put, List.setIfInBounds_toArray, List.set_cons_zero, List.set_cons_succ]
        refine wpAnyH_take (i := 3) (v := ?v16) (at_op rfl) (by kernel_rfl) (by kernel_rfl) (by kernel_rfl) (fun _ _ _ h => h) (Or.inl ⟨by rfl, ?y16⟩) (by assumption) ?r16
        case y16 =>
          intro wx hSx
          subst hSx
          go_simp
          try with_reducible rfl
        try simp only [Act.put, List.setIfInBounds_toArray, List.set_cons_zero, List.set_cons_succ]
        refine wpAnyH_take (i := 4) (v := ?v17) (at_op rfl) (by kernel_rfl) (by kernel_rfl) (by kernel_rfl) (fun _ _ _ h => h) (Or.inl ⟨by rfl, ?y17⟩) (by assumption) ?r17
        case y17 =>
          intro wx hSx
          subst hSx
          go_simp
          try with_reducible rfl
        try simp only [Act.put, List.setIfInBounds_toArray, List.set_cons_zero, List.set_cons_succ]
        refine wpAnyH_take (i := 5) (v := ?v18) (at_op rfl) (by kernel_rfl) (by kernel_rfl) (by kernel_rfl) (fun _ _ _ h => h) (Or.inl ⟨by rfl, ?y18⟩) (by assumption) ?r18
        case y18 =>
          intro wx hSx
          subst hSx
          go_simp
          try with_reducible rfl
        try simp only [Act.put, List.setIfInBounds_toArray, List.set_cons_zero, List.set_cons_succ]
        refine wpAnyH_take (i := 6) (v := ?v19) (at_op rfl) (by kernel_rfl) (by kernel_rfl) (by kernel_rfl) (fun _ _ _ h => h) (Or.inl ⟨by rfl, ?y19⟩) (by assumption) ?r19
        case y19 =>
          intro wx hSx
          subst hSx
          go_simp
          try with_reducible rfl
        try simp only [Act.put, List.setIfInBounds_toArray, List.set_cons_zero, List.set_cons_succ]
        refine wpAnyH_take (i := 7) (v := ?v20) (at_op rfl) (by kernel_rfl) (by kernel_rfl) (by kernel_rfl) (fun _ _ _ h => h) (Or.inl ⟨by rfl, ?y20⟩) (by assumption) ?r20
        case y20 =>
          intro wx hSx
          subst hSx
          go_simp
          try with_reducible rfl
        try simp only [Act.put, List.setIfInBounds_toArray, List.set_cons_zero, List.set_cons_succ]
        refine wpAnyH_take (i := 8) (v := ?v21) (at_op rfl) (by kernel_rfl) (by kernel_rfl) (by kernel_rfl) (fun _ _ _ h => h) (Or.inl ⟨by rfl, ?y21⟩) (by assumption) ?r21
        case y21 =>
          intro wx hSx
          subst hSx
          go_simp
          try with_reducible rfl
        try simp only [Act.put, List.setIfInBounds_toArray, List.set_cons_zero, List.set_cons_succ]
        refine wpAnyH_take (i := 9) (v := ?v22) (at_op rfl) (by kernel_rfl) (by kernel_rfl) (by kernel_rfl) (fun _ _ _ h => h) (Or.inl ⟨by rfl, ?y22⟩) (by assumption) ?r22
        case y22 =>
          intro wx hSx
          subst hSx
          go_simp
          try with_reducible rfl
        try simp only [Act.put, List.setIfInBounds_toArray, List.set_cons_zero, List.set_cons_succ]
        refine wpAnyH_take (i := 10) (v := ?v23) (at_op rfl) (by kernel_rfl) (by kernel_rfl) (by kernel_rfl) (fun _ _ _ h => h) (Or.inl ⟨by rfl, ?y23⟩) (by assumption) ?r23
        case y23 =>
          intro wx hSx
          subst hSx
          go_simp
          try with_reducible rfl
        try simp only [Act.put, List.setIfInBounds_toArray, List.set_cons_zero, List.set_cons_succ]
        refine wpAnyH_ready (rs := [11]) (by kernel_rfl) (by simp) ?_
        refine AllReadyH.cons (at_op rfl) (fun K hK => ?_) AllReadyH.nil
        go_simp
        refine (l01In_any vk 0 m _).mono ?_
        rintro e w' ⟨rfl, rfl⟩
        rw [g1]
        go_wp2_with fail
        refine hK.out _ _ rfl (fun _ => ?_)
        clear hK K
        try simp only [Act.put, List.setIfInBounds_toArray, List.set_cons_zero, List.set_cons_succ]
        refine wpAnyH_take (i := 12) (v := ?v24) (at_op rfl) (by kernel_rfl) (by kernel_rfl) (by kernel_rfl) (fun _ _ _ h => h) (Or.inl ⟨by rfl, ?y24⟩) (by assumption) ?r24
        case y24 =>
          intro wx hSx
          subst hSx
          go_simp
          try with_reducible rfl
        try simp only [Act.put, List.setIfInBounds_toArray, List.set_cons_zero, List.set_cons_succ]
        refine wpAnyH_done (by kernel_rfl) ?_ _
        go_wp2
        go_roundw
        case rel => exact ⟨k + 1, by omega, by go_num, range_all_succ HA.out G1.out, hb.drew, hX.drew⟩
        case measure => simp [intOf]; omega
    · have hki : ¬ (k : Int) < (vals.length : Int) := by omega
      have HF : Hid (valuesOk x.rules vals = true) := by have e := HA.out; rw [show k = vals.length by omega] at e; exact HV.out.trans e
      go_wp2
      go_ret
      exact ⟨ret_bool HF.out.symm, by rw [← HB.out]; exact hb⟩
theorem two_c {w : World} {b : Nat} {v0 v1 : Value} {T : TypeId} (h : w.heap[b]? = some (.cells #[v0, v1] T)) : w.cell? ⟨b, 0, none⟩ = some v0 ∧ w.cell? ⟨b, 1, none⟩ = some v1 := ⟨cell_heap h rfl, cell_heap h rfl⟩
set_option maxHeartbeats 2000000 in
set_option maxRecDepth 100000 in
theorem tiesHold_spec (x : Piece) (v : List Int) (ra ca sa ta va : Option Addr) (rc cc sc tc vc lo hi lo' hi' : Nat) (w : World) (hp : PFour x ra rc ca cc sa sc ta tc lo hi w) (hh : hi ≤ w.heap.size) (hv : Rd intF.shape lo' hi' w (.slice va v.length vc) v) (hh' : hi' ≤ w.heap.size) (hx : Right x) (hf : FullV x v) :
    Calls Try.prog 20 #[x.v ra rc ca cc sa sc ta tc, .slice va v.length vc] w fun e w' => e = .returned (.bool (tiesMay x.ties v)) ∧ Below w.heap.size w w' := by
  obtain ⟨hr, hc, hsp, ht⟩ := id hp
  obtain ⟨htl, ht5⟩ := at_tie ht
  obtain ⟨hvl, hv5⟩ := at_int hv
  obtain ⟨B, HB⟩ : ∃ B, Hid (B = w.heap.size) := ⟨_, rfl⟩
  have hBw : B ≤ w.heap.size := Nat.le_of_eq HB.out
  have hBw' : w.heap.size ≤ B := Nat.le_of_eq HB.out.symm
  have HPP := Lib.hid (fun (w2 : World) (h2 : Below B w w2) => hp.below h2 (Nat.le_trans hh hBw'))
  have HFL := Lib.hid hf.full
  have HTA := Lib.hid (show tiesMay x.ties v = x.ties.all (tieMay v) from rfl)
  unfold Piece.v
  have hX0 := PBox.new x ra ca sa ta rc cc sc tc w
  have hb0 : Below B w (w.alloc (.cells #[.int .i64 x.indent, .slice ra x.rules.length rc, .slice ca x.chunks.length cc, .slice sa x.spans.length sc, .slice ta x.ties.length tc] 29)) := (Below.refl _ _).alloc hBw _
  have HVK := Lib.hid (fun (w2 : World) (h2 : Below B w w2) => valuesOk_spec x v ra ca sa ta va rc cc sc tc vc lo hi lo' hi' w2 (HPP.out w2 h2) (by have := h2.size; omega) (hv.below h2 (by omega)) (by have := h2.size; omega))
  have HVF := Lib.hid (valuesOk_full hx hf)
  unfold Piece.v at HVK
  go_enter Try.func20, Try.ntmps20
  go_upto_region 1 with fail
  generalize w.alloc (.cells #[.int .i64 x.indent, .slice ra x.rules.length rc, .slice ca x.chunks.length cc, .slice sa x.spans.length sc, .slice ta x.ties.length tc] 29) = w0 at *
  obtain ⟨p0, p1, p2, p3, p4⟩ := hX0.five
  have hk := HVK.out w0 hb0
  rw [HVF.out] at hk
  replace hk := Lib.hid hk
  clear HVK HVF
  have hs0 := hb0.size
  have hxl0 := hX0.lt
  go_wp2_with fail
  refine hk.out.mono ?_
  clear hk p0 p1 p2 p3 p4
  rintro e w9 ⟨rfl, k1⟩
  have hb9 := hb0.trans (k1.mono (by omega))
  have hX9 := hX0.below k1
  clear hb0 hX0 k1
  go_wp2_with fail
  go_loopw [5] (fun i wr => ∃ k : Nat, k ≤ x.ties.length ∧ i = .int .i64 k ∧ Hid ((x.ties.take k).all (tieMay v) = true) ∧ Below B w wr ∧ PBox x ra rc ca cc sa sc ta tc w.heap.size wr) (fun i _ => x.ties.length - (intOf i).toNat)
  case atStart => exact ⟨0, Nat.zero_le _, rfl, rfl, hb9, hX9⟩
  case round =>
    clear hb9 hX9
    obtain ⟨k, hk, rfl, HA, hb, hX⟩ := hrel
    have hsz := hb.size
    have hxl := hX.lt
    obtain ⟨p0, p1, p2, p3, p4⟩ := hX.five
    by_cases hlt : k < x.ties.length
    · obtain ⟨kn, un, hkn, hun, ek, eu, hM⟩ := tie_full hx hf hlt
      have HT := Lib.hid (List.take_succ_eq_append_getElem hlt)
      have HN := Lib.hid (fun h : tieMay v x.ties[k] = false => (HTA.out.trans (allp_no hlt h) : tiesMay x.ties v = false))
      have HM := Lib.hid hM
      obtain ⟨b, off, rfl, hlo, hhi, c0, c1⟩ := ht5 k hlt
      obtain ⟨b1, o1, rfl, l1, l2, m0⟩ := hv5 kn hkn
      obtain ⟨b2, o2, e2, l3, l4, m1⟩ := hv5 un hun
      injection e2 with e2
      injection e2 with e2 e3
      subst e2; subst e3
      have d0 := (hb.cell (p := ⟨b, _, none⟩) (by show b < _; omega)).trans c0
      have d1 := (hb.cell (p := ⟨b, _, none⟩) (by show b < _; omega)).trans c1
      rw [ek] at d0
      rw [eu] at d1
      have hki : (k : Int) < (x.ties.length : Int) := by omega
      have hkz : (0 : Int) ≤ (k : Int) := by omega
      have y1 : (kn : Int) ≤ (v.length : Int) - 1 := by omega
      have y2 : (un : Int) ≤ (v.length : Int) - 1 := by omega
      have y3 : (kn : Int) < (v.length : Int) := by omega
      have y4 : (un : Int) < (v.length : Int) := by omega
      have y5 : (0 : Int) ≤ (kn : Int) := by omega
      have y6 : (0 : Int) ≤ (un : Int) := by omega
      have z1 : (kn : Int) ≤ (x.rules.length : Int) - 1 := by have := HFL.out; omega
      have z2 : (un : Int) ≤ (x.rules.length : Int) - 1 := by have := HFL.out; omega
      clear c0 c1 ek eu hM
      have hA := heap_alloc_new wr (.cells #[.int .i64 (kn : Int), .int .i64 (un : Int)] 101)
      have hbA : Below wr.heap.size wr (wr.alloc (.cells #[.int .i64 (kn : Int), .int .i64 (un : Int)] 101)) := (Below.refl _ _).alloc (Nat.le_refl _) _
      have hsA : wr.heap.size < (wr.alloc (.cells #[.int .i64 (kn : Int), .int .i64 (un : Int)] 101)).heap.size := by simp
      go_upto_region 7 with fail
      generalize wr.alloc (.cells #[.int .i64 (kn : Int), .int .i64 (un : Int)] 101) = w1 at *
      have hb1 := hb.trans (hbA.mono (by omega))
      have hs1 := hb1.size
      have hX1 := hX.below hbA
      generalize wr.heap.size = TB at *
      obtain ⟨t0, t1⟩ := two_c hA
      have hbF := hb1
      have hXF := hX1
      clear p0 p1 p2 p3 p4
      have n0 := (hbF.cell (p := ⟨b1, _, none⟩) (by show b1 < _; omega)).trans m0
      have n1 := (hbF.cell (p := ⟨b1, _, none⟩) (by show b1 < _; omega)).trans m1
      clear m0 m1
      generalize v[kn] = v0 at *
      generalize v[un] = v1 at *
      by_cases q0 : 0 < v0
      · by_cases q1 : v1 = 0
        · have HF := Lib.hid (HN.out (by rw [HM.out]; simp [q0, q1]))
          have q2 : (v1 == 0) = true := by rw [q1]; rfl
          clear q1 HM
          go_wp2_with (first | (go_at_call 57; refine (l01In_yes _ _ _ _ (by omega) (by omega)).mono ?_; rintro e w' ⟨rfl, rfl⟩) | fail)
          go_ret
          exact ⟨ret_bool HF.out.symm, by rw [← HB.out]; exact hbF⟩
        · have HF := Lib.hid (show tieMay v x.ties[k] = true by rw [HM.out]; simp [q1])
          have q2 : (v1 == 0) = false := beq_eq_false_iff_ne.2 q1
          clear q1 HM
          go_wp2_with (first | (go_at_call 57; refine (l01In_yes _ _ _ _ (by omega) (by omega)).mono ?_; rintro e w' ⟨rfl, rfl⟩) | fail)
          go_roundw
          case rel => first | exact ⟨k + 1, by omega, by go_num, allp_succ HT.out HA.out HF.out, hbF, hXF⟩ | ((repeat apply Exists.intro); exact ⟨⟨k + 1, by omega, by go_num, allp_succ HT.out HA.out HF.out, hbF, hXF⟩, rfl⟩)
          case measure => simp [intOf]; omega
      · have HF := Lib.hid (show tieMay v x.ties[k] = true by rw [HM.out]; simp [q0])
        have q2 : decide (0 < v0) = false := decide_eq_false q0
        clear HM
        go_wp2_with (first | (go_at_call 57; refine (l01In_yes _ _ _ _ (by omega) (by omega)).mono ?_; rintro e w' ⟨rfl, rfl⟩) | fail)
        go_roundw
        case rel => first | exact ⟨k + 1, by omega, by go_num, allp_succ HT.out HA.out HF.out, hbF, hXF⟩ | ((repeat apply Exists.intro); exact ⟨⟨k + 1, by omega, by go_num, allp_succ HT.out HA.out HF.out, hbF, hXF⟩, rfl⟩)
        case measure => simp [intOf]; omega
    · have HK := Lib.hid (show x.ties.take k = x.ties from List.take_of_length_le (by omega))
      have hki : ¬ (k : Int) < (x.ties.length : Int) := by omega
      have HF : Hid (tiesMay x.ties v = true) := by have e := HA.out; rw [HK.out] at e; exact HTA.out.trans e
      go_wp2
      go_ret
      exact ⟨ret_bool HF.out.symm, by rw [← HB.out]; exact hb⟩
end Go.Proofs.Ytllpgomloblfjaa
