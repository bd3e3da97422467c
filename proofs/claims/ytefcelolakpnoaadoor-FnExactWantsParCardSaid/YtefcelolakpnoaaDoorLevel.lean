/- LevelOf of both. By mk_level.py. -/
import Derived.Test.YtefcelolakpnoaaDoorDeepS
namespace Go.Proofs.YtefcelolakpnoaaDoor
open Go.RowKit

/-- how tight a chain of a mark is -/
def chainL (t : ByteArray) : Int := if t.toList == [124, 124] then 2 else if t.toList == [38, 38] then 3 else if t.toList == [61, 61] then 4 else if t.toList == [60] then 5 else if t.toList == [43] then 6 else if t.toList == [45] then 6 else 7
def chainS (t : ByteArray) : Int := if t.toList == [124, 124] then 2 else if t.toList == [38, 38] then 3 else if t.toList == [61, 61] then 4 else if t.toList == [60] then 5 else if t.toList == [42] then 7 else 6
theorem chainS_eq {t : ByteArray} (h : inMarks chainMs t = true) : chainS t = chainL t := by
  simp only [inMarks, chainMs, List.any_cons, List.any_nil, Bool.or_false, Bool.or_eq_true, Lib.toList_data, beq_iff_eq] at h
  unfold chainS chainL
  simp only [Lib.toList_data]
  rcases h with h | h | h | h | h | h | h <;> rw [h] <;> rfl
def levelN (kind : Int) (t : ByteArray) : Int := if kind = 10 then 0 else if kind = 8 ∨ kind = 9 then 1 else if kind = 7 then chainL t else 8
noncomputable def levelOf (xs : List Node) (k : Int) : Int := if isVal (nd xs k).kind = true ∧ deepOf xs k ≠ 0 then levelN (nd xs k).kind (nd xs k).text else -1
theorem deepOf_nn (xs : List Node) (k : Int) : 0 ≤ deepOf xs k := by
  by_cases h : deepOf xs k = 0
  · omega
  · obtain ⟨k0, k1, _⟩ := deepOf_pos h
    obtain ⟨m, rfl⟩ : ∃ m : Nat, k = (m : Int) := ⟨k.toNat, by omega⟩
    cases hd : deeps xs (m + 1) with
    | none => exact absurd (deepOf_none (by omega) hd) h
    | some ds =>
      rw [deepOf_some (by omega) hd]
      have := ((deeps_some hd).2.1 m (by omega)).2
      omega
theorem good_chain {xs : List Node} {k : Int} (g : Good xs k) (h : (nd xs k).kind = 7) : inMarks chainMs (nd xs k).text = true := by
  have := g.text
  rw [h] at this
  exact this
set_option maxHeartbeats 1000000 in
set_option maxRecDepth 100000 in
theorem chainLevel_any (t : ByteArray) (w : World) :
    Calls Tryd.prog 85 #[.string t] w fun e w' => e = .returned (.int .i64 (chainL t)) ∧ w = w' := by
  obtain ⟨d0, e0⟩ : ∃ d, (t.toList == [124, 124]) = d := ⟨_, rfl⟩
  obtain ⟨d1, e1⟩ : ∃ d, (t.toList == [38, 38]) = d := ⟨_, rfl⟩
  obtain ⟨d2, e2⟩ : ∃ d, (t.toList == [61, 61]) = d := ⟨_, rfl⟩
  obtain ⟨d3, e3⟩ : ∃ d, (t.toList == [60]) = d := ⟨_, rfl⟩
  obtain ⟨d4, e4⟩ : ∃ d, (t.toList == [43]) = d := ⟨_, rfl⟩
  obtain ⟨d5, e5⟩ : ∃ d, (t.toList == [45]) = d := ⟨_, rfl⟩
  have HF := Lib.hid (show chainL t = (if d0 = true then 2 else if d1 = true then 3 else if d2 = true then 4 else if d3 = true then 5 else if d4 = true then 6 else if d5 = true then 6 else 7) by unfold chainL; rw [e0, e1, e2, e3, e4, e5])
  cases d0 with
  | true =>
    go_enter Tryd.func85, Tryd.ntmps85
    go_wp2
    go_ret
    exact ⟨ret_int (by rw [HF.out]; rfl), rfl⟩
  | false =>
  cases d1 with
  | true =>
    go_enter Tryd.func85, Tryd.ntmps85
    go_wp2
    go_ret
    exact ⟨ret_int (by rw [HF.out]; rfl), rfl⟩
  | false =>
  cases d2 with
  | true =>
    go_enter Tryd.func85, Tryd.ntmps85
    go_wp2
    go_ret
    exact ⟨ret_int (by rw [HF.out]; rfl), rfl⟩
  | false =>
  cases d3 with
  | true =>
    go_enter Tryd.func85, Tryd.ntmps85
    go_wp2
    go_ret
    exact ⟨ret_int (by rw [HF.out]; rfl), rfl⟩
  | false =>
  cases d4 with
  | true =>
    go_enter Tryd.func85, Tryd.ntmps85
    go_wp2
    go_ret
    exact ⟨ret_int (by rw [HF.out]; rfl), rfl⟩
  | false =>
  cases d5 with
  | true =>
    go_enter Tryd.func85, Tryd.ntmps85
    go_wp2
    go_ret
    exact ⟨ret_int (by rw [HF.out]; rfl), rfl⟩
  | false =>
  go_enter Tryd.func85, Tryd.ntmps85
  go_wp2
  go_ret
  exact ⟨ret_int (by rw [HF.out]; rfl), rfl⟩
set_option maxHeartbeats 2000000 in
set_option maxRecDepth 100000 in
theorem levelOf_any (kind : Int) (t : ByteArray) (kv : Value) (bl : Bool) (w : World) :
    Calls Tryd.prog 60 #[.agg #[.int .i64 kind, .string t, kv, .bool bl]] w fun e w' => e = .returned (.int .i64 (levelN kind t)) ∧ Below w.heap.size w w' := by
  have hba : ∀ A, Below w.heap.size w (w.alloc A) := fun A => (Below.refl _ _).alloc (Nat.le_refl _) A
  by_cases h10 : kind = 10
  · subst h10
    go_enter Tryd.func60, Tryd.ntmps60
    go_wp2
    go_ret
    exact ⟨rfl, hba _⟩
  by_cases h8 : kind = 8
  · subst h8
    go_enter Tryd.func60, Tryd.ntmps60
    go_wp2
    go_ret
    exact ⟨rfl, hba _⟩
  by_cases h9 : kind = 9
  · subst h9
    go_enter Tryd.func60, Tryd.ntmps60
    go_wp2
    go_ret
    exact ⟨rfl, hba _⟩
  by_cases h7 : kind = 7
  · subst h7
    go_enter Tryd.func60, Tryd.ntmps60
    go_wp2_with fail
    refine (chainLevel_any t _).mono ?_
    rintro e w' ⟨rfl, rfl⟩
    go_wp2
    go_ret
    exact ⟨rfl, hba _⟩
  have m1 := eqf h10
  have m2 := eqf h8
  have m3 := eqf h9
  have m4 := eqf h7
  have HF := Lib.hid (show levelN kind t = 8 by unfold levelN; rw [if_neg h10, if_neg (by omega), if_neg h7])
  clear h10 h8 h9 h7
  go_enter Tryd.func60, Tryd.ntmps60
  go_wp2
  go_ret
  exact ⟨ret_int (by rw [HF.out]), hba _⟩
set_option maxHeartbeats 2000000 in
set_option maxRecDepth 100000 in
theorem l23Level_any (kind : Int) (t : ByteArray) (kv : Value) (bl : Bool) (w : World) (hc : kind = 7 → inMarks chainMs t = true) :
    Calls Tryd.prog 58 #[.agg #[.int .i64 kind, .string t, kv, .bool bl]] w fun e w' => e = .returned (.int .i64 (levelN kind t)) ∧ Below w.heap.size w w' := by
  have hba : ∀ A, Below w.heap.size w (w.alloc A) := fun A => (Below.refl _ _).alloc (Nat.le_refl _) A
  by_cases h10 : kind = 10
  · subst h10
    go_enter Tryd.func58, Tryd.ntmps58
    go_wp2
    go_ret
    exact ⟨rfl, hba _⟩
  by_cases h8 : kind = 8
  · subst h8
    go_enter Tryd.func58, Tryd.ntmps58
    go_wp2
    go_ret
    exact ⟨rfl, hba _⟩
  by_cases h9 : kind = 9
  · subst h9
    go_enter Tryd.func58, Tryd.ntmps58
    go_wp2
    go_ret
    exact ⟨rfl, hba _⟩
  by_cases h7 : kind = 7
  · subst h7
    have HL := Lib.hid (show levelN 7 t = chainS t from (chainS_eq (hc rfl)).symm)
    clear hc
    obtain ⟨d0, e0⟩ : ∃ d, (t.toList == [124, 124]) = d := ⟨_, rfl⟩
    obtain ⟨d1, e1⟩ : ∃ d, (t.toList == [38, 38]) = d := ⟨_, rfl⟩
    obtain ⟨d2, e2⟩ : ∃ d, (t.toList == [61, 61]) = d := ⟨_, rfl⟩
    obtain ⟨d3, e3⟩ : ∃ d, (t.toList == [60]) = d := ⟨_, rfl⟩
    obtain ⟨d4, e4⟩ : ∃ d, (t.toList == [42]) = d := ⟨_, rfl⟩
    have HF := Lib.hid (show chainS t = (if d0 = true then 2 else if d1 = true then 3 else if d2 = true then 4 else if d3 = true then 5 else if d4 = true then 7 else 6) by unfold chainS; rw [e0, e1, e2, e3, e4])
    cases d0 with
    | true =>
      go_enter Tryd.func58, Tryd.ntmps58
      go_wp2
      go_ret
      exact ⟨ret_int (by rw [HL.out, HF.out]; rfl), hba _⟩
    | false =>
    cases d1 with
    | true =>
      go_enter Tryd.func58, Tryd.ntmps58
      go_wp2
      go_ret
      exact ⟨ret_int (by rw [HL.out, HF.out]; rfl), hba _⟩
    | false =>
    cases d2 with
    | true =>
      go_enter Tryd.func58, Tryd.ntmps58
      go_wp2
      go_ret
      exact ⟨ret_int (by rw [HL.out, HF.out]; rfl), hba _⟩
    | false =>
    cases d3 with
    | true =>
      go_enter Tryd.func58, Tryd.ntmps58
      go_wp2
      go_ret
      exact ⟨ret_int (by rw [HL.out, HF.out]; rfl), hba _⟩
    | false =>
    cases d4 with
    | true =>
      go_enter Tryd.func58, Tryd.ntmps58
      go_wp2
      go_ret
      exact ⟨ret_int (by rw [HL.out, HF.out]; rfl), hba _⟩
    | false =>
    go_enter Tryd.func58, Tryd.ntmps58
    go_wp2
    go_ret
    exact ⟨ret_int (by rw [HL.out, HF.out]; rfl), hba _⟩
  have m1 := eqf h10
  have m2 := eqf h8
  have m3 := eqf h9
  have m4 := eqf h7
  have HF := Lib.hid (show levelN kind t = 8 by unfold levelN; rw [if_neg h10, if_neg (by omega), if_neg h7])
  clear h10 h8 h9 h7 hc
  go_enter Tryd.func58, Tryd.ntmps58
  go_wp2
  go_ret
  exact ⟨ret_int (by rw [HF.out]), hba _⟩
set_option maxHeartbeats 2000000 in
set_option maxRecDepth 100000 in
theorem isValueAt_any (xs : List Node) (v : Value) (lo hi : Nat) (k : Int) (w : World) (hr : Rd nodeS lo hi w v xs) (hh : hi ≤ w.heap.size) (hs : ∀ x ∈ xs, x.text.size ≤ 4611686018427387904) (hl : xs.length ≤ 1048576) :
    Calls Tryd.prog 59 #[v, .int .i64 k] w fun e w' => e = .returned (.bool (isVal (nd xs k).kind && decide (deepOf xs k ≠ 0))) ∧ Below w.heap.size w w' := by
  obtain ⟨a, c, rfl⟩ := hr.sl
  obtain ⟨_, h2, h3⟩ := hr.lenEq
  by_cases hin : 0 ≤ k ∧ k < xs.length
  · have hN := Lib.hid (isNode_any k a xs.length c w (by omega))
    rw [decide_eq_true hin.1, decide_eq_true hin.2] at hN
    have HD := Lib.hid (deepOf_impl xs _ lo hi k w hr hh hs hl)
    have hnn := deepOf_nn xs k
    obtain ⟨dv, hdv⟩ : ∃ dv, Hid (deepOf xs k = dv) := ⟨_, rfl⟩
    rw [hdv.out] at HD hnn ⊢
    obtain ⟨m, rfl⟩ : ∃ m : Nat, k = (m : Int) := ⟨k.toNat, by omega⟩
    have hml : m < xs.length := by omega
    have hmi : (m : Int) < (xs.length : Int) := by omega
    have hmz : (0 : Int) ≤ (m : Int) := by omega
    obtain ⟨b, off, ka, kc, eb, _, _, d0, _, _, _, _⟩ := rd_nodeAt hr hml
    subst eb
    rw [nd_at hml]
    generalize xs[m].kind = kn at *
    clear hin
    go_enter Tryd.func59, Tryd.ntmps59
    go_wp2_with fail
    refine hN.out.mono ?_
    rintro e w' ⟨rfl, hw⟩
    subst hw
    go_wp2_with fail
    refine (isValue_any kn _).mono ?_
    rintro e w' ⟨rfl, hw⟩
    subst hw
    cases hv : isVal kn with
    | false =>
      go_wp2
      go_ret
      exact ⟨ret_bool (by rw [hv]; simp), Below.refl _ _⟩
    | true =>
      go_wp2_with fail
      refine HD.out.mono ?_
      rintro e w1 ⟨rfl, hb1⟩
      by_cases h0 : dv = 0
      · have td : decide ((0 : Int) < dv) = false := decide_eq_false (by omega)
        have HF := Lib.hid (show (isVal kn && decide (dv ≠ 0)) = false by simp [h0])
        clear h0 hnn
        go_wp2
        go_ret
        exact ⟨ret_bool HF.out.symm, hb1⟩
      · have td : decide ((0 : Int) < dv) = true := decide_eq_true (by omega)
        have HF := Lib.hid (show (isVal kn && decide (dv ≠ 0)) = true by simp [h0, hv])
        clear h0 hnn
        go_wp2
        go_ret
        exact ⟨ret_bool HF.out.symm, hb1⟩
  · have hN := Lib.hid (isNode_any k a xs.length c w (by omega))
    rw [show (decide (0 ≤ k) && decide (k < (xs.length : Int))) = false by
      rw [Bool.eq_false_iff]; intro h; rw [Bool.and_eq_true, decide_eq_true_iff, decide_eq_true_iff] at h; exact hin h] at hN
    have HF := Lib.hid (show (isVal (nd xs k).kind && decide (deepOf xs k ≠ 0)) = false by simp [deepOf_out hin])
    rw [HF.out]
    go_enter Tryd.func59, Tryd.ntmps59
    go_wp2_with fail
    refine hN.out.mono ?_
    rintro e w' ⟨rfl, rfl⟩
    go_wp2
    go_ret
    exact ⟨rfl, Below.refl _ _⟩
set_option maxHeartbeats 2000000 in
set_option maxRecDepth 100000 in
theorem levelOf_impl (xs : List Node) (v : Value) (lo hi : Nat) (k : Int) (w : World) (hr : Rd nodeS lo hi w v xs) (hh : hi ≤ w.heap.size) (hs : ∀ x ∈ xs, x.text.size ≤ 4611686018427387904) (hl : xs.length ≤ 1048576) :
    Calls Tryd.prog 26 #[v, .int .i64 k] w fun e w' => e = .returned (.int .i64 (levelOf xs k)) ∧ Below w.heap.size w w' := by
  obtain ⟨a, c, rfl⟩ := hr.sl
  obtain ⟨_, h2, h3⟩ := hr.lenEq
  have HV := Lib.hid (isValueAt_any xs _ lo hi k w hr hh hs hl)
  by_cases hq : isVal (nd xs k).kind = true ∧ deepOf xs k ≠ 0
  · rw [hq.1, decide_eq_true hq.2] at HV
    have HF := Lib.hid (show levelOf xs k = levelN (nd xs k).kind (nd xs k).text by unfold levelOf; rw [if_pos hq])
    obtain ⟨k0, k1, hg⟩ := deepOf_pos hq.2
    obtain ⟨m, rfl⟩ : ∃ m : Nat, k = (m : Int) := ⟨k.toNat, by omega⟩
    have hml : m < xs.length := by omega
    rw [nd_at hml] at HF
    clear hq hg
    go_enter Tryd.func26, Tryd.ntmps26
    go_wp2_with fail
    refine HV.out.mono ?_
    rintro e w1 ⟨rfl, hb1⟩
    obtain ⟨b, off, ka, kc, eb, _, _, d0, d1, d2, d3, _⟩ := rd_nodeAt (hr.below hb1 hh) hml
    subst eb
    generalize xs[m] = x at *
    obtain ⟨xk, xt, ks, xb⟩ := x
    simp only at d0 d1 d2 d3 HF
    have hmi : (m : Int) < (xs.length : Int) := by omega
    have hmz : (0 : Int) ≤ (m : Int) := by omega
    go_wp2_with fail
    refine (levelOf_any xk xt _ xb _).mono ?_
    rintro e w2 ⟨rfl, hb2⟩
    go_wp2
    go_ret
    exact ⟨ret_int HF.out.symm, hb1.trans (hb2.mono hb1.size)⟩
  · have HF := Lib.hid (show levelOf xs k = -1 by unfold levelOf; rw [if_neg hq])
    rw [show (isVal (nd xs k).kind && decide (deepOf xs k ≠ 0)) = false by rw [Bool.eq_false_iff]; intro h; rw [Bool.and_eq_true, decide_eq_true_iff] at h; exact hq h] at HV
    clear hq
    go_enter Tryd.func26, Tryd.ntmps26
    go_wp2_with fail
    refine HV.out.mono ?_
    rintro e w1 ⟨rfl, hb1⟩
    go_wp2
    go_ret
    exact ⟨ret_int HF.out.symm, hb1⟩
set_option maxHeartbeats 2000000 in
set_option maxRecDepth 100000 in
theorem levelOf_spec (xs : List Node) (v : Value) (lo hi : Nat) (k : Int) (w : World) (hr : Rd nodeS lo hi w v xs) (hh : hi ≤ w.heap.size) (hs : ∀ x ∈ xs, x.text.size ≤ 4611686018427387904) (hl : xs.length ≤ 1048576) :
    Calls Tryd.prog 25 #[v, .int .i64 k] w fun e w' => e = .returned (.int .i64 (levelOf xs k)) ∧ Below w.heap.size w w' := by
  obtain ⟨a, c, rfl⟩ := hr.sl
  obtain ⟨_, h2, h3⟩ := hr.lenEq
  have HD := Lib.hid (deepOf_spec xs _ lo hi k w hr hh hs hl)
  have HYN := Lib.hid (fun (h : ¬ (isVal (nd xs k).kind = true ∧ deepOf xs k ≠ 0)) => (by unfold levelOf; rw [if_neg h] : levelOf xs k = -1))
  have HYY := Lib.hid (fun (h : isVal (nd xs k).kind = true ∧ deepOf xs k ≠ 0) => (by unfold levelOf; rw [if_pos h] : levelOf xs k = levelN (nd xs k).kind (nd xs k).text))
  by_cases h0 : deepOf xs k = 0
  · have td : (deepOf xs k == 0) = true := by rw [h0]; rfl
    have HF := Lib.hid (HYN.out (fun c => c.2 h0))
    clear h0
    go_enter Tryd.func25, Tryd.ntmps25
    go_wp2_with fail
    refine HD.out.mono ?_
    rintro e w1 ⟨rfl, hb1⟩
    go_wp2
    go_ret
    exact ⟨ret_int HF.out.symm, hb1⟩
  · have td : (deepOf xs k == 0) = false := eqf h0
    obtain ⟨k0, k1, hg⟩ := deepOf_pos h0
    have HCH := Lib.hid (good_chain (xs := xs) (k := k) (by have := hg k.toNat (by omega); rwa [Int.toNat_of_nonneg k0] at this))
    have H0 := Lib.hid h0
    obtain ⟨m, rfl⟩ : ∃ m : Nat, k = (m : Int) := ⟨k.toNat, by omega⟩
    have hml : m < xs.length := by omega
    have HN := Lib.hid (nd_at hml)
    rw [HN.out] at HYN HYY HCH
    clear h0 hg
    go_enter Tryd.func25, Tryd.ntmps25
    go_wp2_with fail
    refine HD.out.mono ?_
    rintro e w1 ⟨rfl, hb1⟩
    obtain ⟨b, off, ka, kc, eb, _, _, d0, d1, d2, d3, _⟩ := rd_nodeAt (hr.below hb1 hh) hml
    subst eb
    generalize xs[m] = x at *
    obtain ⟨xk, xt, ks, xb⟩ := x
    simp only at d0 d1 d2 d3
    have hmi : (m : Int) < (xs.length : Int) := by omega
    have hmz : (0 : Int) ≤ (m : Int) := by omega
    go_wp2_with fail
    refine (l05Value_any xk _).mono ?_
    rintro e w' ⟨rfl, hw⟩
    subst hw
    cases hv : isVal xk with
    | false =>
      have HF := Lib.hid (HYN.out (fun c => by have h : isVal xk = true := c.1; rw [hv] at h; cases h))
      go_wp2
      go_ret
      exact ⟨ret_int HF.out.symm, hb1⟩
    | true =>
      have HF := Lib.hid (HYY.out ⟨hv, H0.out⟩)
      go_wp2_with fail
      refine (l23Level_any xk xt _ xb _ (fun h => HCH.out h)).mono ?_
      rintro e w2 ⟨rfl, hb2⟩
      go_wp2
      go_ret
      exact ⟨ret_int HF.out.symm, hb1.trans (hb2.mono hb1.size)⟩
end Go.Proofs.YtefcelolakpnoaaDoor
