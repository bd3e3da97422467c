/- WantsPar of both. -/
import Derived.Test.YtefcelolakpnoaaDoorWants
import Derived.Test.YtefcelolakpnoaaDoorHeld
namespace Go.Proofs.YtefcelolakpnoaaDoor
open Go.RowKit

noncomputable def wantsPar (xs : List Node) (k i : Int) : Bool :=
  @ite _ (deepOf xs k ≠ 0 ∧ 0 ≤ i ∧ i < (nd xs k).kids.length) (Classical.propDecidable _)
    (isVal (nd xs (kd (nd xs k) i.toNat)).kind && wantsB (nd xs k).kind (nd xs k).text (nd xs k).kids.length i (nd xs (kd (nd xs k) i.toNat)).kind (nd xs (kd (nd xs k) i.toNat)).text) false
theorem wantsPar_no {xs : List Node} {k i : Int} (h : ¬ (deepOf xs k ≠ 0 ∧ 0 ≤ i ∧ i < (nd xs k).kids.length)) : wantsPar xs k i = false := by unfold wantsPar; exact @if_neg _ (Classical.propDecidable _) h _ _ _
theorem wantsPar_yes {xs : List Node} {k i : Int} (h : deepOf xs k ≠ 0 ∧ 0 ≤ i ∧ i < (nd xs k).kids.length) : wantsPar xs k i = (isVal (nd xs (kd (nd xs k) i.toNat)).kind && wantsB (nd xs k).kind (nd xs k).text (nd xs k).kids.length i (nd xs (kd (nd xs k) i.toNat)).kind (nd xs (kd (nd xs k) i.toNat)).text) := by unfold wantsPar; exact @if_pos _ (Classical.propDecidable _) h _ _ _
theorem keep9 {w w' w5 : World} {a0 a1 a2 a3 b0 b1 b2 b3 kk : Addr} {u0 u1 u2 u3 v0 v1 v2 v3 k0 : Value}
    (h : (w'.cell? a0 = some u0 ∧ w'.cell? a1 = some u1 ∧ w'.cell? a2 = some u2 ∧ w'.cell? a3 = some u3) ∧ (w'.cell? b0 = some v0 ∧ w'.cell? b1 = some v1 ∧ w'.cell? b2 = some v2 ∧ w'.cell? b3 = some v3) ∧ w'.cell? kk = some k0 ∧ Below w.heap.size w w') (hb : Below w'.heap.size w' w5) :
    (w5.cell? a0 = some u0 ∧ w5.cell? a1 = some u1 ∧ w5.cell? a2 = some u2 ∧ w5.cell? a3 = some u3) ∧ (w5.cell? b0 = some v0 ∧ w5.cell? b1 = some v1 ∧ w5.cell? b2 = some v2 ∧ w5.cell? b3 = some v3) ∧ w5.cell? kk = some k0 ∧ Below w.heap.size w w5 := by
  have key : ∀ {p : Addr} {u : Value}, w'.cell? p = some u → w5.cell? p = some u := fun {p u} e => (hb.cell (World.block_lt_of_cell? w' p e)).trans e
  exact ⟨⟨key h.1.1, key h.1.2.1, key h.1.2.2.1, key h.1.2.2.2⟩, ⟨key h.2.1.1, key h.2.1.2.1, key h.2.1.2.2.1, key h.2.1.2.2.2⟩, key h.2.2.1, h.2.2.2.trans (hb.mono h.2.2.2.size)⟩
set_option maxHeartbeats 8000000 in
set_option maxRecDepth 100000 in
theorem wantsPar_impl (xs : List Node) (v : Value) (lo hi : Nat) (k i : Int) (w : World) (hr : Rd nodeS lo hi w v xs) (hh : hi ≤ w.heap.size) (hs : ∀ x ∈ xs, x.text.size ≤ 4611686018427387904) (hl : xs.length ≤ 1048576) (hlk : ∀ x ∈ xs, x.kids.length ≤ 1048576) :
    Calls Tryd.prog 36 #[v, .int .i64 k, .int .i64 i] w fun e w' => e = .returned (.bool (wantsPar xs k i)) ∧ Below w.heap.size w w' := by
  obtain ⟨a, c, rfl⟩ := hr.sl
  obtain ⟨_, h2, h3⟩ := hr.lenEq
  have HD := Lib.hid (deepOf_impl xs _ lo hi k w hr hh hs hl)
  have HNO := Lib.hid (fun h => wantsPar_no (xs := xs) (k := k) (i := i) h)
  have HYE := Lib.hid (fun h => wantsPar_yes (xs := xs) (k := k) (i := i) h)
  by_cases h0 : deepOf xs k = 0
  · have td : (deepOf xs k == 0) = true := by rw [h0]; rfl
    have HF := Lib.hid (HNO.out (fun c => c.1 h0))
    clear h0
    go_enter Tryd.func36, Tryd.ntmps36
    go_wp2_with fail
    refine HD.out.mono ?_
    rintro e w1 ⟨rfl, hb1⟩
    go_wp2
    go_ret
    exact ⟨ret_bool HF.out.symm, hb1⟩
  · have td : (deepOf xs k == 0) = false := eqf h0
    obtain ⟨k0, k1, hg⟩ := deepOf_pos h0
    have H0 := Lib.hid h0
    obtain ⟨m, rfl⟩ : ∃ m : Nat, k = (m : Int) := ⟨k.toNat, by omega⟩
    have hml : m < xs.length := by omega
    have HG := Lib.hid (hg m (by omega))
    have HGA := Lib.hid (fun q (h : q ≤ m) => hg q (by omega))
    have HX : Hid (nd xs (m : Int) = xs[m]) := nd_at hml
    have hnl0 := hlk _ (List.getElem_mem hml)
    have HBE := Lib.hid HG.out.below
    have HCX0 := Lib.hid (good_chain HG.out)
    rw [HX.out] at HNO HYE HBE HCX0
    clear h0 hg
    go_enter Tryd.func36, Tryd.ntmps36
    go_wp2_with fail
    refine HD.out.mono ?_
    rintro e w1 ⟨rfl, hb1⟩
    have hs1 := hb1.size
    have hr1 := hr.below hb1 hh
    obtain ⟨b, off, ka, kc, eb, _, _, d0, d1, d2, d3, hk⟩ := rd_nodeAt hr1 hml
    subst eb
    generalize xs[m] = x at *
    obtain ⟨xk, xt, ks, xb⟩ := x
    simp only at d0 d1 d2 d3 hk hnl0 HNO HYE
    obtain ⟨_, hkl, hkc⟩ := hk.lenEq
    have hmi : (m : Int) < (xs.length : Int) := by omega
    have hmz : (0 : Int) ≤ (m : Int) := by omega
    have hki : (ks.length : Int) ≤ 9223372036854775807 := by omega
    go_wp2_with fail
    by_cases hi' : 0 ≤ i ∧ i < (ks.length : Int)
    · refine (inRange_yes i 0 ((ks.length : Int) - 1) _ hi'.1 (by omega)).mono ?_
      rintro e w' ⟨rfl, hw⟩
      subst hw
      have HY := Lib.hid (HYE.out ⟨H0.out, hi'.1, hi'.2⟩)
      obtain ⟨t, rfl⟩ : ∃ t : Nat, i = (t : Int) := ⟨i.toNat, by omega⟩
      have htl : t < ks.length := by omega
      have hti : (t : Int) < (ks.length : Int) := by omega
      have htz : (0 : Int) ≤ (t : Int) := by omega
      have htm : (t : Int) ≤ 1048576 := by omega
      rw [Int.toNat_natCast] at HY
      obtain ⟨kb, koff, rfl, _, _, kc0⟩ := hk.intAt htl
      have hbk := HBE.out t htl
      have hkd : kd (⟨xk, xt, ks, xb⟩ : Node) t = ks.getD t 0 := rfl
      rw [hkd] at hbk HY
      obtain ⟨q, hq⟩ : ∃ q : Nat, ks.getD t 0 = (q : Int) := ⟨(ks.getD t 0).toNat, by omega⟩
      rw [hq] at kc0 hbk HY
      clear hkd hq hi'
      have hql : q < xs.length := by omega
      have hqi : (q : Int) < (xs.length : Int) := by omega
      have hqz : (0 : Int) ≤ (q : Int) := by omega
      obtain ⟨b', off', ya, yc, eb, _, _, q0, q1, q2, q3, _⟩ := rd_nodeAt hr1 hql
      injection eb with eb
      injection eb with ee1 ee2
      subst ee1; subst ee2
      have HQ : Hid (nd xs (q : Int) = xs[q]) := nd_at hql
      have HCY0 := Lib.hid (good_chain (HGA.out q (by omega)))
      rw [HQ.out] at HY HCY0
      generalize xs[q] = y at *
      obtain ⟨yk, yt, ys, yb⟩ := y
      simp only at q0 q1 q2 q3 HY
      have HCX : Hid (xk = 7 → inMarks chainMs xt = true) := HCX0.out
      have HCY : Hid (yk = 7 → inMarks chainMs yt = true) := HCY0.out
      have hnl : ks.length ≤ 1048576 := hnl0
      clear HCX0 HCY0
      go_wp2
      have hb2 : Below w.heap.size w (w1.alloc (Obj.cells #[Value.int IntKind.i64 yk, Value.string yt, Value.slice ya ys.length yc, Value.bool yb] 46)) := hb1.alloc (by omega) _
      have e0 := al1 d0 (Obj.cells #[Value.int IntKind.i64 yk, Value.string yt, Value.slice ya ys.length yc, Value.bool yb] 46)
      have e1 := al1 d1 (Obj.cells #[Value.int IntKind.i64 yk, Value.string yt, Value.slice ya ys.length yc, Value.bool yb] 46)
      have e2 := al1 d2 (Obj.cells #[Value.int IntKind.i64 yk, Value.string yt, Value.slice ya ys.length yc, Value.bool yb] 46)
      have e3 := al1 d3 (Obj.cells #[Value.int IntKind.i64 yk, Value.string yt, Value.slice ya ys.length yc, Value.bool yb] 46)
      have ek := al1 kc0 (Obj.cells #[Value.int IntKind.i64 yk, Value.string yt, Value.slice ya ys.length yc, Value.bool yb] 46)
      have hpN := heap_alloc_new w1 (Obj.cells #[Value.int IntKind.i64 yk, Value.string yt, Value.slice ya ys.length yc, Value.bool yb] 46)
      have y0 := cell_heap (j := 0) hpN rfl
      have y1 := cell_heap (j := 1) hpN rfl
      have y2 := cell_heap (j := 2) hpN rfl
      have y3 := cell_heap (j := 3) hpN rfl
      clear hpN d0 d1 d2 d3 q0 q1 q2 q3 kc0
      generalize w1.alloc (Obj.cells #[Value.int IntKind.i64 yk, Value.string yt, Value.slice ya ys.length yc, Value.bool yb] 46) = w3 at *
      cases hv : isVal yk with
      | false =>
        have HF := Lib.hid (HY.out.trans (by rw [hv, Bool.false_and]))
        refine wp_region_held_drew (S := fun w' => w' = w3.drew) (by kernel_rfl) ?_ (fun hHeld => ?_)
        · exact rfl
        refine wpAnyH_take (i := 0) (v := ?v1) (at_op rfl) (by kernel_rfl) (by kernel_rfl) (by kernel_rfl) (fun _ _ _ h => h) (Or.inl ⟨by rfl, ?y1⟩) (by assumption) ?r1
        case y1 =>
          intro wx hSx
          subst hSx
          go_simp
          try with_reducible rfl
        try simp only [Act.put, List.setIfInBounds_toArray, List.set_cons_zero, List.set_cons_succ]
        refine wpAnyH_take (i := 1) (v := ?v2) (at_op rfl) (by kernel_rfl) (by kernel_rfl) (by kernel_rfl) (fun _ _ _ h => h) (Or.inl ⟨by rfl, ?y2⟩) (by assumption) ?r2
        case y2 =>
          intro wx hSx
          subst hSx
          go_simp
          try with_reducible rfl
        try simp only [Act.put, List.setIfInBounds_toArray, List.set_cons_zero, List.set_cons_succ]
        refine wpAnyH_ready (rs := [2]) (by kernel_rfl) (by simp) ?_
        refine AllReadyH.cons (at_op rfl) (fun K hK => ?_) AllReadyH.nil
        go_simp
        refine (isValue_any yk _).mono ?_
        rintro e w' ⟨rfl, rfl⟩
        rw [hv]
        go_wp2_with fail
        refine hK.out _ _ rfl (fun _ => ?_)
        clear hK K
        try simp only [Act.put, List.setIfInBounds_toArray, List.set_cons_zero, List.set_cons_succ]
        refine wpAnyH_take (i := 3) (v := ?v3) (at_op rfl) (by kernel_rfl) (by kernel_rfl) (by kernel_rfl) (fun _ _ _ h => h) (Or.inl ⟨by rfl, ?y3⟩) (by assumption) ?r3
        case y3 =>
          intro wx hSx
          subst hSx
          go_simp
          try with_reducible rfl
        try simp only [Act.put, List.setIfInBounds_toArray, List.set_cons_zero, List.set_cons_succ]
        refine wpAnyH_take (i := 4) (v := undef) (at_op rfl) (by kernel_rfl) (by kernel_rfl) (by kernel_rfl) (fun _ _ _ h => h) (Or.inr ⟨by rfl, rfl⟩) (by assumption) ?_
        try simp only [Act.put, List.setIfInBounds_toArray, List.set_cons_zero, List.set_cons_succ]
        refine wpAnyH_take (i := 5) (v := undef) (at_op rfl) (by kernel_rfl) (by kernel_rfl) (by kernel_rfl) (fun _ _ _ h => h) (Or.inr ⟨by rfl, rfl⟩) (by assumption) ?_
        try simp only [Act.put, List.setIfInBounds_toArray, List.set_cons_zero, List.set_cons_succ]
        refine wpAnyH_take (i := 6) (v := undef) (at_op rfl) (by kernel_rfl) (by kernel_rfl) (by kernel_rfl) (fun _ _ _ h => h) (Or.inr ⟨by rfl, rfl⟩) (by assumption) ?_
        try simp only [Act.put, List.setIfInBounds_toArray, List.set_cons_zero, List.set_cons_succ]
        refine wpAnyH_take (i := 7) (v := undef) (at_op rfl) (by kernel_rfl) (by kernel_rfl) (by kernel_rfl) (fun _ _ _ h => h) (Or.inr ⟨by rfl, rfl⟩) (by assumption) ?_
        try simp only [Act.put, List.setIfInBounds_toArray, List.set_cons_zero, List.set_cons_succ]
        refine wpAnyH_take (i := 8) (v := undef) (at_op rfl) (by kernel_rfl) (by kernel_rfl) (by kernel_rfl) (fun _ _ _ h => h) (Or.inr ⟨by rfl, rfl⟩) (by assumption) ?_
        try simp only [Act.put, List.setIfInBounds_toArray, List.set_cons_zero, List.set_cons_succ]
        refine wpAnyH_take (i := 9) (v := undef) (at_op rfl) (by kernel_rfl) (by kernel_rfl) (by kernel_rfl) (fun _ _ _ h => h) (Or.inr ⟨by rfl, rfl⟩) (by assumption) ?_
        try simp only [Act.put, List.setIfInBounds_toArray, List.set_cons_zero, List.set_cons_succ]
        refine wpAnyH_take (i := 10) (v := undef) (at_op rfl) (by kernel_rfl) (by kernel_rfl) (by kernel_rfl) (fun _ _ _ h => h) (Or.inr ⟨by rfl, rfl⟩) (by assumption) ?_
        try simp only [Act.put, List.setIfInBounds_toArray, List.set_cons_zero, List.set_cons_succ]
        refine wpAnyH_take (i := 11) (v := ?v4) (at_op rfl) (by kernel_rfl) (by kernel_rfl) (by kernel_rfl) (fun _ _ _ h => h) (Or.inl ⟨by rfl, ?y4⟩) (by assumption) ?r4
        case y4 =>
          intro wx hSx
          subst hSx
          go_simp
          try with_reducible rfl
        try simp only [Act.put, List.setIfInBounds_toArray, List.set_cons_zero, List.set_cons_succ]
        refine wpAnyH_take (i := 12) (v := ?v5) (at_op rfl) (by kernel_rfl) (by kernel_rfl) (by kernel_rfl) (fun _ _ _ h => h) (Or.inl ⟨by rfl, ?y5⟩) (by assumption) ?r5
        case y5 =>
          intro wx hSx
          subst hSx
          go_simp
          try with_reducible rfl
        try simp only [Act.put, List.setIfInBounds_toArray, List.set_cons_zero, List.set_cons_succ]
        refine wpAnyH_done (by kernel_rfl) ?_ _
        go_wp2
        go_ret
        exact ⟨ret_bool HF.out.symm, hb2.drew⟩
      | true =>
        have HF := Lib.hid (HY.out.trans (by rw [hv, Bool.true_and]))
        have hS0 : (w3.drew.cell? ⟨b, off + m * 4, none⟩ = some (.int .i64 xk) ∧ w3.drew.cell? ⟨b, off + m * 4 + 1, none⟩ = some (.string xt) ∧ w3.drew.cell? ⟨b, off + m * 4 + 2, none⟩ = some (.slice (some ⟨kb, koff, none⟩) ks.length kc) ∧ w3.drew.cell? ⟨b, off + m * 4 + 3, none⟩ = some (.bool xb)) ∧ (w3.drew.cell? ⟨w1.heap.size, 0, none⟩ = some (.int .i64 yk) ∧ w3.drew.cell? ⟨w1.heap.size, 1, none⟩ = some (.string yt) ∧ w3.drew.cell? ⟨w1.heap.size, 2, none⟩ = some (.slice ya ys.length yc) ∧ w3.drew.cell? ⟨w1.heap.size, 3, none⟩ = some (.bool yb)) ∧ w3.drew.cell? ⟨kb, koff + t, none⟩ = some (.int .i64 (q : Int)) ∧ Below w.heap.size w w3.drew := ⟨⟨e0, e1, e2, e3⟩, ⟨y0, y1, y2, y3⟩, ek, hb2.drew⟩
        refine wp_region_held_drew (S := fun w' => (w'.cell? ⟨b, off + m * 4, none⟩ = some (.int .i64 xk) ∧ w'.cell? ⟨b, off + m * 4 + 1, none⟩ = some (.string xt) ∧ w'.cell? ⟨b, off + m * 4 + 2, none⟩ = some (.slice (some ⟨kb, koff, none⟩) ks.length kc) ∧ w'.cell? ⟨b, off + m * 4 + 3, none⟩ = some (.bool xb)) ∧ (w'.cell? ⟨w1.heap.size, 0, none⟩ = some (.int .i64 yk) ∧ w'.cell? ⟨w1.heap.size, 1, none⟩ = some (.string yt) ∧ w'.cell? ⟨w1.heap.size, 2, none⟩ = some (.slice ya ys.length yc) ∧ w'.cell? ⟨w1.heap.size, 3, none⟩ = some (.bool yb)) ∧ w'.cell? ⟨kb, koff + t, none⟩ = some (.int .i64 (q : Int)) ∧ Below w.heap.size w w') (by kernel_rfl) ?_ (fun hHeld => ?_)
        · exact hS0
        refine wpAnyH_take (i := 0) (v := ?v6) (at_op rfl) (by kernel_rfl) (by kernel_rfl) (by kernel_rfl) (fun _ _ _ h => h) (Or.inl ⟨by rfl, ?y6⟩) (by assumption) ?r6
        case y6 =>
          intro wx hSx
          go_simp
          try with_reducible rfl
        try simp only [Act.put, List.setIfInBounds_toArray, List.set_cons_zero, List.set_cons_succ]
        refine wpAnyH_take (i := 1) (v := ?v7) (at_op rfl) (by kernel_rfl) (by kernel_rfl) (by kernel_rfl) (fun _ _ _ h => h) (Or.inl ⟨by rfl, ?y7⟩) (by assumption) ?r7
        case y7 =>
          intro wx hSx
          go_simp
          try with_reducible rfl
        try simp only [Act.put, List.setIfInBounds_toArray, List.set_cons_zero, List.set_cons_succ]
        refine wpAnyH_ready (rs := [2]) (by kernel_rfl) (by simp) ?_
        refine AllReadyH.cons (at_op rfl) (fun K hK => ?_) AllReadyH.nil
        go_simp
        refine (isValue_any yk _).mono ?_
        rintro e w' ⟨rfl, rfl⟩
        rw [hv]
        go_wp2_with fail
        refine hK.out _ _ hHeld (fun _ => ?_)
        clear hK K
        try simp only [Act.put, List.setIfInBounds_toArray, List.set_cons_zero, List.set_cons_succ]
        refine wpAnyH_take (i := 3) (v := ?v8) (at_op rfl) (by kernel_rfl) (by kernel_rfl) (by kernel_rfl) (fun _ _ _ h => h) (Or.inl ⟨by rfl, ?y8⟩) (by assumption) ?r8
        case y8 =>
          intro wx hSx
          go_simp
          try with_reducible rfl
        try simp only [Act.put, List.setIfInBounds_toArray, List.set_cons_zero, List.set_cons_succ]
        refine wpAnyH_take (i := 4) (v := ?v9) (at_op rfl) (by kernel_rfl) (by kernel_rfl) (by kernel_rfl) (fun _ _ _ h => h) (Or.inl ⟨by rfl, ?y9⟩) (by assumption) ?r9
        case y9 =>
          intro wx hSx
          go_simp
          try with_reducible rfl
        try simp only [Act.put, List.setIfInBounds_toArray, List.set_cons_zero, List.set_cons_succ]
        refine wpAnyH_take (i := 5) (v := ?v10) (at_op rfl) (by kernel_rfl) (by kernel_rfl) (by kernel_rfl) (fun _ _ _ h => h) (Or.inl ⟨by rfl, ?y10⟩) (by assumption) ?r10
        case y10 =>
          intro wx hSx
          go_simp
          try with_reducible rfl
        try simp only [Act.put, List.setIfInBounds_toArray, List.set_cons_zero, List.set_cons_succ]
        refine wpAnyH_take (i := 6) (v := ?v11) (at_op rfl) (by kernel_rfl) (by kernel_rfl) (by kernel_rfl) (fun _ _ _ h => h) (Or.inl ⟨by rfl, ?y11⟩) (by assumption) ?r11
        case y11 =>
          intro wx hSx
          go_simp
          try with_reducible rfl
        try simp only [Act.put, List.setIfInBounds_toArray, List.set_cons_zero, List.set_cons_succ]
        refine wpAnyH_take (i := 7) (v := ?v12) (at_op rfl) (by kernel_rfl) (by kernel_rfl) (by kernel_rfl) (fun _ _ _ h => h) (Or.inl ⟨by rfl, ?y12⟩) (by assumption) ?r12
        case y12 =>
          intro wx hSx
          go_simp
          try with_reducible rfl
        try simp only [Act.put, List.setIfInBounds_toArray, List.set_cons_zero, List.set_cons_succ]
        refine wpAnyH_take (i := 8) (v := ?v13) (at_op rfl) (by kernel_rfl) (by kernel_rfl) (by kernel_rfl) (fun _ _ _ h => h) (Or.inl ⟨by rfl, ?y13⟩) (by assumption) ?r13
        case y13 =>
          intro wx hSx
          go_simp
          try with_reducible rfl
        try simp only [Act.put, List.setIfInBounds_toArray, List.set_cons_zero, List.set_cons_succ]
        refine wpAnyH_take (i := 9) (v := ?v14) (at_op rfl) (by kernel_rfl) (by kernel_rfl) (by kernel_rfl) (fun _ _ _ h => h) (Or.inl ⟨by rfl, ?y14⟩) (by assumption) ?r14
        case y14 =>
          intro wx hSx
          go_simp
          try with_reducible rfl
        try simp only [Act.put, List.setIfInBounds_toArray, List.set_cons_zero, List.set_cons_succ]
        refine wpAnyH_ready (rs := [10]) (by kernel_rfl) (by simp) ?_
        refine AllReadyH.cons (at_op rfl) (fun K hK => ?_) AllReadyH.nil
        go_simp
        refine (wants_impl xk xt _ ks.length kc xb (t : Int) yk yt _ yb _ hnl ⟨htz, htm⟩).mono ?_
        rintro e w5 ⟨rfl, hb5⟩
        go_wp2_with fail
        refine hK.out _ _ (keep9 hHeld hb5) (fun _ => ?_)
        clear hK K
        try simp only [Act.put, List.setIfInBounds_toArray, List.set_cons_zero, List.set_cons_succ]
        refine wpAnyH_take (i := 11) (v := ?v15) (at_op rfl) (by kernel_rfl) (by kernel_rfl) (by kernel_rfl) (fun _ _ _ h => h) (Or.inl ⟨by rfl, ?y15⟩) (by assumption) ?r15
        case y15 =>
          intro wx hSx
          go_simp
          try with_reducible rfl
        try simp only [Act.put, List.setIfInBounds_toArray, List.set_cons_zero, List.set_cons_succ]
        refine wpAnyH_take (i := 12) (v := ?v16) (at_op rfl) (by kernel_rfl) (by kernel_rfl) (by kernel_rfl) (fun _ _ _ h => h) (Or.inl ⟨by rfl, ?y16⟩) (by assumption) ?r16
        case y16 =>
          intro wx hSx
          go_simp
          try with_reducible rfl
        try simp only [Act.put, List.setIfInBounds_toArray, List.set_cons_zero, List.set_cons_succ]
        refine wpAnyH_done (by kernel_rfl) ?_ _
        go_wp2
        go_ret
        exact ⟨ret_bool HF.out.symm, (keep9 hHeld hb5).2.2.2⟩
    · refine (inRange_no i 0 ((ks.length : Int) - 1) _ (by omega)).mono ?_
      rintro e w' ⟨rfl, hw⟩
      subst hw
      have HF := Lib.hid (HNO.out (fun c => hi' ⟨c.2.1, c.2.2⟩))
      clear hi'
      go_wp2
      go_ret
      exact ⟨ret_bool HF.out.symm, hb1⟩
set_option maxHeartbeats 8000000 in
set_option maxRecDepth 100000 in
theorem wantsPar_spec (xs : List Node) (v : Value) (lo hi : Nat) (k i : Int) (w : World) (hr : Rd nodeS lo hi w v xs) (hh : hi ≤ w.heap.size) (hs : ∀ x ∈ xs, x.text.size ≤ 4611686018427387904) (hl : xs.length ≤ 1048576) (hlk : ∀ x ∈ xs, x.kids.length ≤ 1048576) :
    Calls Tryd.prog 35 #[v, .int .i64 k, .int .i64 i] w fun e w' => e = .returned (.bool (wantsPar xs k i)) ∧ Below w.heap.size w w' := by
  obtain ⟨a, c, rfl⟩ := hr.sl
  obtain ⟨_, h2, h3⟩ := hr.lenEq
  have HD := Lib.hid (deepOf_spec xs _ lo hi k w hr hh hs hl)
  have HNO := Lib.hid (fun h => wantsPar_no (xs := xs) (k := k) (i := i) h)
  have HYE := Lib.hid (fun h => wantsPar_yes (xs := xs) (k := k) (i := i) h)
  by_cases h0 : deepOf xs k = 0
  · have td : (deepOf xs k == 0) = true := by rw [h0]; rfl
    have HF := Lib.hid (HNO.out (fun c => c.1 h0))
    clear h0
    go_enter Tryd.func35, Tryd.ntmps35
    go_wp2_with fail
    refine HD.out.mono ?_
    rintro e w1 ⟨rfl, hb1⟩
    go_wp2
    go_ret
    exact ⟨ret_bool HF.out.symm, hb1⟩
  · have td : (deepOf xs k == 0) = false := eqf h0
    obtain ⟨k0, k1, hg⟩ := deepOf_pos h0
    have H0 := Lib.hid h0
    obtain ⟨m, rfl⟩ : ∃ m : Nat, k = (m : Int) := ⟨k.toNat, by omega⟩
    have hml : m < xs.length := by omega
    have HG := Lib.hid (hg m (by omega))
    have HGA := Lib.hid (fun q (h : q ≤ m) => hg q (by omega))
    have HX : Hid (nd xs (m : Int) = xs[m]) := nd_at hml
    have hnl0 := hlk _ (List.getElem_mem hml)
    have HBE := Lib.hid HG.out.below
    have HCX0 := Lib.hid (good_chain HG.out)
    rw [HX.out] at HNO HYE HBE HCX0
    clear h0 hg
    go_enter Tryd.func35, Tryd.ntmps35
    go_wp2_with fail
    refine HD.out.mono ?_
    rintro e w1 ⟨rfl, hb1⟩
    have hs1 := hb1.size
    have hr1 := hr.below hb1 hh
    obtain ⟨b, off, ka, kc, eb, _, _, d0, d1, d2, d3, hk⟩ := rd_nodeAt hr1 hml
    subst eb
    generalize xs[m] = x at *
    obtain ⟨xk, xt, ks, xb⟩ := x
    simp only at d0 d1 d2 d3 hk hnl0 HNO HYE
    obtain ⟨_, hkl, hkc⟩ := hk.lenEq
    have hmi : (m : Int) < (xs.length : Int) := by omega
    have hmz : (0 : Int) ≤ (m : Int) := by omega
    have hki : (ks.length : Int) ≤ 9223372036854775807 := by omega
    go_wp2_with fail
    by_cases hi' : 0 ≤ i ∧ i < (ks.length : Int)
    · refine (l01In_yes i 0 ((ks.length : Int) - 1) _ hi'.1 (by omega)).mono ?_
      rintro e w' ⟨rfl, hw⟩
      subst hw
      have HY := Lib.hid (HYE.out ⟨H0.out, hi'.1, hi'.2⟩)
      obtain ⟨t, rfl⟩ : ∃ t : Nat, i = (t : Int) := ⟨i.toNat, by omega⟩
      have htl : t < ks.length := by omega
      have hti : (t : Int) < (ks.length : Int) := by omega
      have htz : (0 : Int) ≤ (t : Int) := by omega
      have htm : (t : Int) ≤ 1048576 := by omega
      rw [Int.toNat_natCast] at HY
      obtain ⟨kb, koff, rfl, _, _, kc0⟩ := hk.intAt htl
      have hbk := HBE.out t htl
      have hkd : kd (⟨xk, xt, ks, xb⟩ : Node) t = ks.getD t 0 := rfl
      rw [hkd] at hbk HY
      obtain ⟨q, hq⟩ : ∃ q : Nat, ks.getD t 0 = (q : Int) := ⟨(ks.getD t 0).toNat, by omega⟩
      rw [hq] at kc0 hbk HY
      clear hkd hq hi'
      have hql : q < xs.length := by omega
      have hqi : (q : Int) < (xs.length : Int) := by omega
      have hqz : (0 : Int) ≤ (q : Int) := by omega
      obtain ⟨b', off', ya, yc, eb, _, _, q0, q1, q2, q3, _⟩ := rd_nodeAt hr1 hql
      injection eb with eb
      injection eb with ee1 ee2
      subst ee1; subst ee2
      have HQ : Hid (nd xs (q : Int) = xs[q]) := nd_at hql
      have HCY0 := Lib.hid (good_chain (HGA.out q (by omega)))
      rw [HQ.out] at HY HCY0
      generalize xs[q] = y at *
      obtain ⟨yk, yt, ys, yb⟩ := y
      simp only at q0 q1 q2 q3 HY
      have HCX : Hid (xk = 7 → inMarks chainMs xt = true) := HCX0.out
      have HCY : Hid (yk = 7 → inMarks chainMs yt = true) := HCY0.out
      have hnl : ks.length ≤ 1048576 := hnl0
      clear HCX0 HCY0
      go_wp2_with fail
      refine (l05Value_any yk _).mono ?_
      rintro e w' ⟨rfl, hw⟩
      subst hw
      cases hv : isVal yk with
      | false =>
        have HF := Lib.hid (HY.out.trans (by rw [hv, Bool.false_and]))
        go_wp2
        go_ret
        exact ⟨ret_bool HF.out.symm, hb1⟩
      | true =>
        have HF := Lib.hid (HY.out.trans (by rw [hv, Bool.true_and]))
        have hS0 : (w1.drew.cell? ⟨b, off + m * 4, none⟩ = some (.int .i64 xk) ∧ w1.drew.cell? ⟨b, off + m * 4 + 1, none⟩ = some (.string xt) ∧ w1.drew.cell? ⟨b, off + m * 4 + 2, none⟩ = some (.slice (some ⟨kb, koff, none⟩) ks.length kc) ∧ w1.drew.cell? ⟨b, off + m * 4 + 3, none⟩ = some (.bool xb)) ∧ (w1.drew.cell? ⟨b, off + q * 4, none⟩ = some (.int .i64 yk) ∧ w1.drew.cell? ⟨b, off + q * 4 + 1, none⟩ = some (.string yt) ∧ w1.drew.cell? ⟨b, off + q * 4 + 2, none⟩ = some (.slice ya ys.length yc) ∧ w1.drew.cell? ⟨b, off + q * 4 + 3, none⟩ = some (.bool yb)) ∧ w1.drew.cell? ⟨kb, koff + t, none⟩ = some (.int .i64 (q : Int)) ∧ Below w.heap.size w w1.drew := ⟨⟨d0, d1, d2, d3⟩, ⟨q0, q1, q2, q3⟩, kc0, hb1.drew⟩
        go_wp2_with fail
        refine wp_region_held_drew (S := fun w' => (w'.cell? ⟨b, off + m * 4, none⟩ = some (.int .i64 xk) ∧ w'.cell? ⟨b, off + m * 4 + 1, none⟩ = some (.string xt) ∧ w'.cell? ⟨b, off + m * 4 + 2, none⟩ = some (.slice (some ⟨kb, koff, none⟩) ks.length kc) ∧ w'.cell? ⟨b, off + m * 4 + 3, none⟩ = some (.bool xb)) ∧ (w'.cell? ⟨b, off + q * 4, none⟩ = some (.int .i64 yk) ∧ w'.cell? ⟨b, off + q * 4 + 1, none⟩ = some (.string yt) ∧ w'.cell? ⟨b, off + q * 4 + 2, none⟩ = some (.slice ya ys.length yc) ∧ w'.cell? ⟨b, off + q * 4 + 3, none⟩ = some (.bool yb)) ∧ w'.cell? ⟨kb, koff + t, none⟩ = some (.int .i64 (q : Int)) ∧ Below w.heap.size w w') (by kernel_rfl) ?_ (fun hHeld => ?_)
        · exact hS0
        refine wpAnyH_take (i := 0) (v := ?v17) (at_op rfl) (by kernel_rfl) (by kernel_rfl) (by kernel_rfl) (fun _ _ _ h => h) (Or.inl ⟨by rfl, ?y17⟩) (by assumption) ?r17
        case y17 =>
          intro wx hSx
          go_simp
          try with_reducible rfl
        try simp only [Act.put, List.setIfInBounds_toArray, List.set_cons_zero, List.set_cons_succ]
        refine wpAnyH_take (i := 1) (v := ?v18) (at_op rfl) (by kernel_rfl) (by kernel_rfl) (by kernel_rfl) (fun _ _ _ h => h) (Or.inl ⟨by rfl, ?y18⟩) (by assumption) ?r18
        case y18 =>
          intro wx hSx
          go_simp
          try with_reducible rfl
        try simp only [Act.put, List.setIfInBounds_toArray, List.set_cons_zero, List.set_cons_succ]
        refine wpAnyH_take (i := 2) (v := ?v19) (at_op rfl) (by kernel_rfl) (by kernel_rfl) (by kernel_rfl) (fun _ _ _ h => h) (Or.inl ⟨by rfl, ?y19⟩) (by assumption) ?r19
        case y19 =>
          intro wx hSx
          go_simp
          try with_reducible rfl
        try simp only [Act.put, List.setIfInBounds_toArray, List.set_cons_zero, List.set_cons_succ]
        refine wpAnyH_take (i := 3) (v := ?v20) (at_op rfl) (by kernel_rfl) (by kernel_rfl) (by kernel_rfl) (fun _ _ _ h => h) (Or.inl ⟨by rfl, ?y20⟩) (by assumption) ?r20
        case y20 =>
          intro wx hSx
          go_simp
          try with_reducible rfl
        try simp only [Act.put, List.setIfInBounds_toArray, List.set_cons_zero, List.set_cons_succ]
        refine wpAnyH_take (i := 4) (v := ?v21) (at_op rfl) (by kernel_rfl) (by kernel_rfl) (by kernel_rfl) (fun _ _ _ h => h) (Or.inl ⟨by rfl, ?y21⟩) (by assumption) ?r21
        case y21 =>
          intro wx hSx
          go_simp
          try with_reducible rfl
        try simp only [Act.put, List.setIfInBounds_toArray, List.set_cons_zero, List.set_cons_succ]
        refine wpAnyH_take (i := 5) (v := ?v22) (at_op rfl) (by kernel_rfl) (by kernel_rfl) (by kernel_rfl) (fun _ _ _ h => h) (Or.inl ⟨by rfl, ?y22⟩) (by assumption) ?r22
        case y22 =>
          intro wx hSx
          go_simp
          try with_reducible rfl
        try simp only [Act.put, List.setIfInBounds_toArray, List.set_cons_zero, List.set_cons_succ]
        refine wpAnyH_take (i := 6) (v := ?v23) (at_op rfl) (by kernel_rfl) (by kernel_rfl) (by kernel_rfl) (fun _ _ _ h => h) (Or.inl ⟨by rfl, ?y23⟩) (by assumption) ?r23
        case y23 =>
          intro wx hSx
          go_simp
          try with_reducible rfl
        try simp only [Act.put, List.setIfInBounds_toArray, List.set_cons_zero, List.set_cons_succ]
        refine wpAnyH_take (i := 7) (v := ?v24) (at_op rfl) (by kernel_rfl) (by kernel_rfl) (by kernel_rfl) (fun _ _ _ h => h) (Or.inl ⟨by rfl, ?y24⟩) (by assumption) ?r24
        case y24 =>
          intro wx hSx
          go_simp
          try with_reducible rfl
        try simp only [Act.put, List.setIfInBounds_toArray, List.set_cons_zero, List.set_cons_succ]
        refine wpAnyH_take (i := 8) (v := ?v25) (at_op rfl) (by kernel_rfl) (by kernel_rfl) (by kernel_rfl) (fun _ _ _ h => h) (Or.inl ⟨by rfl, ?y25⟩) (by assumption) ?r25
        case y25 =>
          intro wx hSx
          go_simp
          try with_reducible rfl
        try simp only [Act.put, List.setIfInBounds_toArray, List.set_cons_zero, List.set_cons_succ]
        refine wpAnyH_take (i := 9) (v := ?v26) (at_op rfl) (by kernel_rfl) (by kernel_rfl) (by kernel_rfl) (fun _ _ _ h => h) (Or.inl ⟨by rfl, ?y26⟩) (by assumption) ?r26
        case y26 =>
          intro wx hSx
          go_simp
          try with_reducible rfl
        try simp only [Act.put, List.setIfInBounds_toArray, List.set_cons_zero, List.set_cons_succ]
        refine wpAnyH_take (i := 10) (v := ?v27) (at_op rfl) (by kernel_rfl) (by kernel_rfl) (by kernel_rfl) (fun _ _ _ h => h) (Or.inl ⟨by rfl, ?y27⟩) (by assumption) ?r27
        case y27 =>
          intro wx hSx
          go_simp
          try with_reducible rfl
        try simp only [Act.put, List.setIfInBounds_toArray, List.set_cons_zero, List.set_cons_succ]
        refine wpAnyH_take (i := 11) (v := ?v28) (at_op rfl) (by kernel_rfl) (by kernel_rfl) (by kernel_rfl) (fun _ _ _ h => h) (Or.inl ⟨by rfl, ?y28⟩) (by assumption) ?r28
        case y28 =>
          intro wx hSx
          go_simp
          try with_reducible rfl
        try simp only [Act.put, List.setIfInBounds_toArray, List.set_cons_zero, List.set_cons_succ]
        refine wpAnyH_take (i := 12) (v := ?v29) (at_op rfl) (by kernel_rfl) (by kernel_rfl) (by kernel_rfl) (fun _ _ _ h => h) (Or.inl ⟨by rfl, ?y29⟩) (by assumption) ?r29
        case y29 =>
          intro wx hSx
          go_simp
          try with_reducible rfl
        try simp only [Act.put, List.setIfInBounds_toArray, List.set_cons_zero, List.set_cons_succ]
        refine wpAnyH_take (i := 13) (v := ?v30) (at_op rfl) (by kernel_rfl) (by kernel_rfl) (by kernel_rfl) (fun _ _ _ h => h) (Or.inl ⟨by rfl, ?y30⟩) (by assumption) ?r30
        case y30 =>
          intro wx hSx
          go_simp
          try with_reducible rfl
        try simp only [Act.put, List.setIfInBounds_toArray, List.set_cons_zero, List.set_cons_succ]
        refine wpAnyH_take (i := 14) (v := ?v31) (at_op rfl) (by kernel_rfl) (by kernel_rfl) (by kernel_rfl) (fun _ _ _ h => h) (Or.inl ⟨by rfl, ?y31⟩) (by assumption) ?r31
        case y31 =>
          intro wx hSx
          go_simp
          try with_reducible rfl
        try simp only [Act.put, List.setIfInBounds_toArray, List.set_cons_zero, List.set_cons_succ]
        refine wpAnyH_take (i := 15) (v := ?v32) (at_op rfl) (by kernel_rfl) (by kernel_rfl) (by kernel_rfl) (fun _ _ _ h => h) (Or.inl ⟨by rfl, ?y32⟩) (by assumption) ?r32
        case y32 =>
          intro wx hSx
          go_simp
          try with_reducible rfl
        try simp only [Act.put, List.setIfInBounds_toArray, List.set_cons_zero, List.set_cons_succ]
        refine wpAnyH_ready (rs := [16]) (by kernel_rfl) (by simp) ?_
        refine AllReadyH.cons (at_op rfl) (fun K hK => ?_) AllReadyH.nil
        go_simp
        refine (wants_spec xk xt _ ks.length kc xb (t : Int) yk yt _ yb _ hnl ⟨htz, htm⟩ HCX.out HCY.out).mono ?_
        rintro e w5 ⟨rfl, hb5⟩
        go_wp2_with fail
        refine hK.out _ _ (keep9 hHeld hb5) (fun _ => ?_)
        clear hK K
        try simp only [Act.put, List.setIfInBounds_toArray, List.set_cons_zero, List.set_cons_succ]
        refine wpAnyH_take (i := 17) (v := ?v33) (at_op rfl) (by kernel_rfl) (by kernel_rfl) (by kernel_rfl) (fun _ _ _ h => h) (Or.inl ⟨by rfl, ?y33⟩) (by assumption) ?r33
        case y33 =>
          intro wx hSx
          go_simp
          try with_reducible rfl
        try simp only [Act.put, List.setIfInBounds_toArray, List.set_cons_zero, List.set_cons_succ]
        refine wpAnyH_done (by kernel_rfl) ?_ _
        go_wp2
        go_ret
        exact ⟨ret_bool HF.out.symm, (keep9 hHeld hb5).2.2.2⟩
    · refine (l01In_no i 0 ((ks.length : Int) - 1) _ (by omega)).mono ?_
      rintro e w' ⟨rfl, hw⟩
      subst hw
      have HF := Lib.hid (HNO.out (fun c => hi' ⟨c.2.1, c.2.2⟩))
      clear hi'
      go_wp2
      go_ret
      exact ⟨ret_bool HF.out.symm, hb1⟩
end Go.Proofs.YtefcelolakpnoaaDoor
