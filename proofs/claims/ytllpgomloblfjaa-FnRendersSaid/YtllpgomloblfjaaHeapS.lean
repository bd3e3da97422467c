/- Which state is less: Compare and StateLess of the program and of the reference. -/
import Derived.Test.YtllpgomloblfjaaHeapP
import Derived.Test.YtllpgomloblfjaaRdInt
import Derived.Test.YtllpgomloblfjaaHNode
import Derived.Test.YtllpgomloblfjaaHeap
namespace Go.Proofs.Ytllpgomloblfjaa
open Go.RowKit

theorem cmp_both {xs ys : List Int} {k : Nat} (h1 : k < xs.length) (h2 : k < ys.length) : cmpL (xs.drop k) (ys.drop k) = if xs.getD k 0 < ys.getD k 0 then -1 else if ys.getD k 0 < xs.getD k 0 then 1 else cmpL (xs.drop (k + 1)) (ys.drop (k + 1)) := by
  rw [List.drop_eq_getElem_cons h1, List.drop_eq_getElem_cons h2, cmpL, List.getD_eq_getElem?_getD, List.getElem?_eq_getElem h1, List.getD_eq_getElem?_getD, List.getElem?_eq_getElem h2]
  rfl
theorem cmp_left {xs ys : List Int} {k : Nat} (h1 : k < xs.length) (h2 : ys.length ≤ k) : cmpL (xs.drop k) (ys.drop k) = 1 := by
  rw [List.drop_eq_getElem_cons h1, List.drop_of_length_le h2, cmpL]
theorem cmp_right {xs ys : List Int} {k : Nat} (h1 : xs.length ≤ k) (h2 : k < ys.length) : cmpL (xs.drop k) (ys.drop k) = -1 := by
  rw [List.drop_eq_getElem_cons h2, List.drop_of_length_le h1, cmpL]
theorem cmp_none {xs ys : List Int} {k : Nat} (h1 : xs.length ≤ k) (h2 : ys.length ≤ k) : cmpL (xs.drop k) (ys.drop k) = 0 := by
  rw [List.drop_of_length_le h2, List.drop_of_length_le h1, cmpL]
theorem isNaN_any (a : Int) (w : World) : Calls Try.prog 134 #[.int .i64 a] w fun e w' => e = .returned (.bool false) ∧ w' = w := by
  have h : (a != a) = false := bne_self_eq_false' a
  go_enter Try.func134, Try.ntmps134
  go_wp2
  go_ret
  exact ⟨by simp, rfl⟩
def cmpI (a b : Int) : Int := if a < b then -1 else if b < a then 1 else 0
set_option maxHeartbeats 400000 in
set_option maxRecDepth 100000 in
theorem cmpInt_any (a b : Int) (w : World) : Calls Try.prog 116 #[.int .i64 a, .int .i64 b] w fun e w' => e = .returned (.int .i64 (cmpI a b)) ∧ w' = w := by
  by_cases h1 : a < b
  · have HC : Hid (cmpI a b = -1) := by show _ = _; unfold cmpI; rw [if_pos h1]
    go_enter Try.func116, Try.ntmps116
    go_wp2_with fail
    refine (isNaN_any a _).mono ?_
    rintro e w' ⟨rfl, rfl⟩
    go_wp2_with fail
    refine (isNaN_any b _).mono ?_
    rintro e w' ⟨rfl, rfl⟩
    go_wp2
    go_ret
    exact ⟨by rw [HC.out]; rfl, rfl⟩
  · by_cases h2 : b < a
    · have HC : Hid (cmpI a b = 1) := by show _ = _; unfold cmpI; rw [if_neg h1, if_pos h2]
      have h3 : a > b := h2
      go_enter Try.func116, Try.ntmps116
      go_wp2_with fail
      refine (isNaN_any a _).mono ?_
      rintro e w' ⟨rfl, rfl⟩
      go_wp2_with fail
      refine (isNaN_any b _).mono ?_
      rintro e w' ⟨rfl, rfl⟩
      go_wp2
      go_ret
      exact ⟨by rw [HC.out]; rfl, rfl⟩
    · have HC : Hid (cmpI a b = 0) := by show _ = _; unfold cmpI; rw [if_neg h1, if_neg h2]
      have h3 : ¬ a > b := h2
      go_enter Try.func116, Try.ntmps116
      go_wp2_with fail
      refine (isNaN_any a _).mono ?_
      rintro e w' ⟨rfl, rfl⟩
      go_wp2_with fail
      refine (isNaN_any b _).mono ?_
      rintro e w' ⟨rfl, rfl⟩
      go_wp2
      go_ret
      exact ⟨by rw [HC.out]; rfl, rfl⟩
set_option maxHeartbeats 1000000 in
set_option maxRecDepth 100000 in
theorem slicesCmp_any {xs ys : List Int} {u v : Value} {lo hi lo' hi' : Nat} {w : World} (hx : Rd intS lo hi w u xs) (hy : Rd intS lo' hi' w v ys) :
    Calls Try.prog 79 #[u, v] w fun e w' => e = .returned (.int .i64 (cmpL xs ys)) ∧ w' = w := by
  obtain ⟨a, c, rfl⟩ := hx.sl
  obtain ⟨a', c', rfl⟩ := hy.sl
  obtain ⟨_, x2, x3⟩ := hx.lenEq
  obtain ⟨_, y2, y3⟩ := hy.lenEq
  have HL := Lib.hid (fun k h1 h2 => cmp_both (xs := xs) (ys := ys) (k := k) h1 h2)
  go_enter Try.func79, Try.ntmps79
  go_wp2
  go_loop [11] (fun i => ∃ k : Nat, k ≤ xs.length ∧ i = .int .i64 k ∧ k ≤ ys.length ∧ Hid (cmpL xs ys = cmpL (xs.drop k) (ys.drop k))) (fun i => xs.length - (intOf i).toNat)
  case atStart => exact ⟨0, Nat.zero_le _, rfl, Nat.zero_le _, rfl⟩
  case round =>
    obtain ⟨k, hk, rfl, hky, HE⟩ := hrel
    by_cases hlt : k < xs.length
    · have hki : (k : Int) < (xs.length : Int) := by omega
      have hkz : (0 : Int) ≤ (k : Int) := by omega
      obtain ⟨b, off, rfl, _, _, c0⟩ := hx.intAt hlt
      by_cases hly : k < ys.length
      · have hkj : ¬ (k : Int) ≥ (ys.length : Int) := by omega
        have hkj2 : (k : Int) < (ys.length : Int) := by omega
        obtain ⟨b', off', rfl, _, _, d0⟩ := hy.intAt hly
        have HS := Lib.hid (HE.out.trans (HL.out k hlt hly))
        obtain ⟨p, hp⟩ : ∃ p, Hid (xs.getD k 0 = p) := ⟨_, rfl⟩
        obtain ⟨q, hq⟩ : ∃ q, Hid (ys.getD k 0 = q) := ⟨_, rfl⟩
        rw [hp.out] at c0 HS
        rw [hq.out] at d0 HS
        clear hp hq
        go_wp2_with fail
        refine (cmpInt_any p q _).mono ?_
        rintro e w' ⟨rfl, rfl⟩
        by_cases h1 : p < q
        · have hc : cmpI p q = -1 := by unfold cmpI; rw [if_pos h1]
          have HF : Hid (cmpL xs ys = -1) := by show _ = _; rw [HS.out, if_pos h1]
          rw [hc]
          clear hc h1
          go_wp2
          go_ret
          exact ⟨by rw [HF.out]; rfl, rfl⟩
        · by_cases h2 : q < p
          · have hc : cmpI p q = 1 := by unfold cmpI; rw [if_neg h1, if_pos h2]
            have HF : Hid (cmpL xs ys = 1) := by show _ = _; rw [HS.out, if_neg h1, if_pos h2]
            rw [hc]
            clear hc h1 h2
            go_wp2
            go_ret
            exact ⟨by rw [HF.out]; rfl, rfl⟩
          · have hc : cmpI p q = 0 := by unfold cmpI; rw [if_neg h1, if_neg h2]
            have HF : Hid (cmpL xs ys = cmpL (xs.drop (k + 1)) (ys.drop (k + 1))) := by show _ = _; rw [HS.out, if_neg h1, if_neg h2]
            rw [hc]
            clear hc h1 h2
            go_wp2
            go_round
            case rel => exact ⟨k + 1, by omega, by go_num, by omega, HF.out⟩
            case measure => simp [intOf]; omega
      · have hkj : (k : Int) ≥ (ys.length : Int) := by omega
        have HF := Lib.hid (HE.out.trans (cmp_left hlt (by omega)))
        go_wp2
        go_ret
        exact ⟨by rw [HF.out]; rfl, rfl⟩
    · have hki : ¬ (k : Int) < (xs.length : Int) := by omega
      obtain rfl : k = xs.length := by omega
      by_cases hly : xs.length < ys.length
      · have hkj : (xs.length : Int) < (ys.length : Int) := by omega
        have HF := Lib.hid (HE.out.trans (cmp_right (Nat.le_refl _) hly))
        go_wp2
        go_ret
        exact ⟨by rw [HF.out]; rfl, rfl⟩
      · have hkj : ¬ (xs.length : Int) < (ys.length : Int) := by omega
        have HF := Lib.hid (HE.out.trans (cmp_none (Nat.le_refl _) (by omega)))
        go_wp2
        go_ret
        exact ⟨by rw [HF.out]; rfl, rfl⟩
theorem compare_impl {xs ys : List Int} {u v : Value} {lo hi lo' hi' : Nat} {w : World} (hx : Rd intS lo hi w u xs) (hy : Rd intS lo' hi' w v ys) :
    Calls Try.prog 41 #[u, v] w fun e w' => e = .returned (.int .i64 (cmpL xs ys)) ∧ w' = w := by
  go_enter Try.func41, Try.ntmps41
  go_wp2_with fail
  refine (slicesCmp_any hx hy).mono ?_
  rintro e w' ⟨rfl, rfl⟩
  go_wp2
  go_ret
  exact ⟨rfl, rfl⟩
set_option maxHeartbeats 1000000 in
set_option maxRecDepth 100000 in
theorem compare_spec {xs ys : List Int} {u v : Value} {lo hi lo' hi' : Nat} {w : World} (hx : Rd intS lo hi w u xs) (hh : hi ≤ w.heap.size) (hy : Rd intS lo' hi' w v ys) (hh' : hi' ≤ w.heap.size) :
    Calls Try.prog 42 #[u, v] w fun e w' => e = .returned (.int .i64 (cmpL xs ys)) ∧ Below w.heap.size w w' := by
  obtain ⟨a, c, rfl⟩ := hx.sl
  obtain ⟨a', c', rfl⟩ := hy.sl
  obtain ⟨_, x2, x3⟩ := hx.lenEq
  obtain ⟨_, y2, y3⟩ := hy.lenEq
  have HL := Lib.hid (fun k h1 h2 => cmp_both (xs := xs) (ys := ys) (k := k) h1 h2)
  go_enter Try.func42, Try.ntmps42
  go_wp2
  go_loopw [5] (fun i wr => ∃ k : Nat, k ≤ xs.length ∧ i = .int .i64 k ∧ k ≤ ys.length ∧ Hid (cmpL xs ys = cmpL (xs.drop k) (ys.drop k)) ∧ Below w.heap.size w wr) (fun i _ => xs.length - (intOf i).toNat)
  case atStart => exact ⟨0, Nat.zero_le _, rfl, Nat.zero_le _, rfl, Below.refl _ _⟩
  case round =>
    obtain ⟨k, hk, rfl, hky, HE, hb⟩ := hrel
    by_cases hlt : k < xs.length
    · have hki : (k : Int) < (xs.length : Int) := by omega
      have hkz : (0 : Int) ≤ (k : Int) := by omega
      obtain ⟨b, off, rfl, _, _, c0⟩ := (hx.below hb hh).intAt hlt
      by_cases hly : k < ys.length
      · have hkj2 : (k : Int) < (ys.length : Int) := by omega
        obtain ⟨b', off', rfl, _, _, d0⟩ := (hy.below hb hh').intAt hly
        have HS := Lib.hid (HE.out.trans (HL.out k hlt hly))
        obtain ⟨p, hp⟩ : ∃ p, Hid (xs.getD k 0 = p) := ⟨_, rfl⟩
        obtain ⟨q, hq⟩ : ∃ q, Hid (ys.getD k 0 = q) := ⟨_, rfl⟩
        rw [hp.out] at c0 HS
        rw [hq.out] at d0 HS
        clear hp hq
        by_cases h1 : p < q
        · have HF : Hid (cmpL xs ys = -1) := by show _ = _; rw [HS.out, if_pos h1]
          go_wp2_with fail
          go_quiet (fail)
          go_wp2
          go_ret
          exact ⟨by rw [HF.out]; rfl, by first | exact blw_drewN hb _ | exact blw_drewN (blw_drewN hb _) _⟩
        · by_cases h2 : q < p
          · have HF : Hid (cmpL xs ys = 1) := by show _ = _; rw [HS.out, if_neg h1, if_pos h2]
            have h3 : p > q := h2
            go_wp2_with fail
            go_quiet (fail)
            go_wp2_with fail
            go_quiet (fail)
            go_wp2
            go_ret
            exact ⟨by rw [HF.out]; rfl, by first | exact blw_drewN hb _ | exact blw_drewN (blw_drewN hb _) _⟩
          · have HF : Hid (cmpL xs ys = cmpL (xs.drop (k + 1)) (ys.drop (k + 1))) := by show _ = _; rw [HS.out, if_neg h1, if_neg h2]
            have h3 : ¬ p > q := h2
            go_wp2_with fail
            go_quiet (fail)
            go_wp2_with fail
            go_quiet (fail)
            go_wp2
            go_roundw
            case rel => exact ⟨k + 1, by omega, by go_num, by omega, HF.out, by first | exact blw_drewN hb _ | exact blw_drewN (blw_drewN hb _) _⟩
            case measure => simp [intOf]; omega
      · have hkj : ¬ (k : Int) < (ys.length : Int) := by omega
        have hgt : (xs.length : Int) > (ys.length : Int) := by omega
        have hnl : ¬ (xs.length : Int) < (ys.length : Int) := by omega
        have HF := Lib.hid (HE.out.trans (cmp_left hlt (by omega)))
        go_wp2
        go_ret
        exact ⟨by rw [HF.out]; rfl, hb⟩
    · have hki : ¬ (k : Int) < (xs.length : Int) := by omega
      obtain rfl : k = xs.length := by omega
      by_cases hly : xs.length < ys.length
      · have hkj : (xs.length : Int) < (ys.length : Int) := by omega
        have HF := Lib.hid (HE.out.trans (cmp_right (Nat.le_refl _) hly))
        go_wp2
        go_ret
        exact ⟨by rw [HF.out]; rfl, hb⟩
      · have hkj : ¬ (xs.length : Int) < (ys.length : Int) := by omega
        have hgt : ¬ (xs.length : Int) > (ys.length : Int) := by omega
        have HF := Lib.hid (HE.out.trans (cmp_none (Nat.le_refl _) (by omega)))
        go_wp2
        go_ret
        exact ⟨by rw [HF.out]; rfl, hb⟩
set_option maxHeartbeats 1000000 in
set_option maxRecDepth 100000 in
theorem less_impl (x y : StL) {u v : Value} {lo hi lo' hi' : Nat} {w : World} (hx : Rd intS lo hi w u x.vals) (hh : hi ≤ w.heap.size) (hy : Rd intS lo' hi' w v y.vals) (hh' : hi' ≤ w.heap.size) :
    Calls Try.prog 129 #[.agg #[u, .int .i64 x.sum], .agg #[v, .int .i64 y.sum]] w fun e w' => e = .returned (.bool (lessL x y)) ∧ Below w.heap.size w w' := by
  obtain ⟨a, c, rfl⟩ := hx.sl
  obtain ⟨a', c', rfl⟩ := hy.sl
  obtain ⟨xs, p⟩ := x
  obtain ⟨ys, q⟩ := y
  have HB : Hid (Below w.heap.size w ((w.alloc (.cells #[.slice a xs.length c, .int .i64 p] 96)).alloc (.cells #[.slice a' ys.length c', .int .i64 q] 96))) := ((Below.refl _ _).alloc (Nat.le_refl _) _).alloc (by simp) _
  by_cases h1 : p < q
  · have HF : Hid (lessL ⟨xs, p⟩ ⟨ys, q⟩ = true) := less_iff.2 (.inl h1)
    go_enter Try.func129, Try.ntmps129
    go_wp2
    go_ret
    exact ⟨by rw [HF.out]; rfl, HB.out⟩
  · by_cases h2 : p = q
    · subst h2
      have HF : Hid (lessL ⟨xs, p⟩ ⟨ys, p⟩ = decide (cmpL xs ys < 0)) := by
        show _ = _
        cases g : decide (cmpL xs ys < 0) with
        | true => exact less_iff.2 (.inr ⟨rfl, of_decide_eq_true g⟩)
        | false =>
          rw [← Bool.not_eq_true, less_iff]
          rintro (c | ⟨_, c⟩)
          · exact h1 c
          · exact of_decide_eq_false g c
      go_enter Try.func129, Try.ntmps129
      go_wp2_with fail
      refine (compare_impl (hx.below HB.out hh) (hy.below HB.out hh')).mono ?_
      rintro e w' ⟨rfl, rfl⟩
      go_wp2
      go_ret
      exact ⟨by rw [HF.out]; first | rfl | simp, HB.out⟩
    · have he : (p == q) = false := beq_eq_false_iff_ne.2 h2
      have HF : Hid (lessL ⟨xs, p⟩ ⟨ys, q⟩ = false) := by
        show _ = _
        rw [← Bool.not_eq_true, less_iff]
        rintro (c | ⟨c, _⟩)
        · exact h1 c
        · exact h2 c
      clear h2
      go_enter Try.func129, Try.ntmps129
      go_wp2
      go_ret
      exact ⟨by rw [HF.out]; rfl, HB.out⟩
set_option maxHeartbeats 1000000 in
set_option maxRecDepth 100000 in
theorem less_spec (x y : StL) {u v : Value} {lo hi lo' hi' : Nat} {w : World} (hx : Rd intS lo hi w u x.vals) (hh : hi ≤ w.heap.size) (hy : Rd intS lo' hi' w v y.vals) (hh' : hi' ≤ w.heap.size) :
    Calls Try.prog 110 #[.agg #[u, .int .i64 x.sum], .agg #[v, .int .i64 y.sum]] w fun e w' => e = .returned (.bool (lessL x y)) ∧ Below w.heap.size w w' := by
  obtain ⟨a, c, rfl⟩ := hx.sl
  obtain ⟨a', c', rfl⟩ := hy.sl
  obtain ⟨xs, p⟩ := x
  obtain ⟨ys, q⟩ := y
  have HB : Hid (Below w.heap.size w ((w.alloc (.cells #[.slice a xs.length c, .int .i64 p] 96)).alloc (.cells #[.slice a' ys.length c', .int .i64 q] 96))) := ((Below.refl _ _).alloc (Nat.le_refl _) _).alloc (by simp) _
  by_cases h1 : p < q
  · have HF : Hid (lessL ⟨xs, p⟩ ⟨ys, q⟩ = true) := less_iff.2 (.inl h1)
    go_enter Try.func110, Try.ntmps110
    go_wp2
    go_ret
    exact ⟨by rw [HF.out]; rfl, HB.out⟩
  · by_cases h2 : p = q
    · subst h2
      have HF : Hid (lessL ⟨xs, p⟩ ⟨ys, p⟩ = decide (cmpL xs ys < 0)) := by
        show _ = _
        cases g : decide (cmpL xs ys < 0) with
        | true => exact less_iff.2 (.inr ⟨rfl, of_decide_eq_true g⟩)
        | false =>
          rw [← Bool.not_eq_true, less_iff]
          rintro (c | ⟨_, c⟩)
          · exact h1 c
          · exact of_decide_eq_false g c
      go_enter Try.func110, Try.ntmps110
      go_wp2_with fail
      refine (compare_spec (hx.below HB.out hh) (Nat.le_trans hh HB.out.size) (hy.below HB.out hh') (Nat.le_trans hh' HB.out.size)).mono ?_
      rintro e w' ⟨rfl, hb2⟩
      go_wp2
      go_ret
      exact ⟨by rw [HF.out]; first | rfl | simp, HB.out.trans (hb2.mono HB.out.size)⟩
    · have he : (p == q) = false := beq_eq_false_iff_ne.2 h2
      have HF : Hid (lessL ⟨xs, p⟩ ⟨ys, q⟩ = false) := by
        show _ = _
        rw [← Bool.not_eq_true, less_iff]
        rintro (c | ⟨c, _⟩)
        · exact h1 c
        · exact h2 c
      clear h2
      go_enter Try.func110, Try.ntmps110
      go_wp2
      go_ret
      exact ⟨by rw [HF.out]; rfl, HB.out⟩
end Go.Proofs.Ytllpgomloblfjaa
