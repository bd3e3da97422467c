/- What the reference asks of one text. -/
import Derived.Test.YtoloplpmjcgbdaaGreatDoorNodeW
import Derived.Test.YtoloplpmjcgbdaaGreatDoorTrim
import Derived.Test.YtoloplpmjcgbdaaGreatDoorRange
import Derived.Test.YtoloplpmjcgbdaaGreatDoorHNodeC
namespace Go.Proofs.YtoloplpmjcgbdaaGreatDoor
open Go.RowKit

theorem natEq2 (n m : Nat) : ((n : Int) == (m : Int)) = (n == m) := by
  by_cases h : n = m
  · subst h; simp
  · rw [beq_eq_false_iff_ne.2 h, beq_eq_false_iff_ne.2 (by omega)]
theorem l01In_b (n a b : Int) (w : World) : Calls Tryz.prog 40 #[.int .i64 n, .int .i64 a, .int .i64 b] w fun e w' => e = .returned (.bool (decide (a ≤ n) && decide (n ≤ b))) ∧ w = w' := by
  by_cases h : a ≤ n ∧ n ≤ b
  · rw [decide_eq_true h.1, decide_eq_true h.2]; exact l01In_yes n a b w h.1 h.2
  · rw [show (decide (a ≤ n) && decide (n ≤ b)) = false by
      rw [Bool.eq_false_iff]; intro c; rw [Bool.and_eq_true, decide_eq_true_iff, decide_eq_true_iff] at c; exact h c]
    exact l01In_no n a b w h
set_option maxHeartbeats 400000 in
theorem l05Value_any (n : Int) (w : World) : Calls Tryz.prog 16 #[.int .i64 n] w fun e w' => e = .returned (.bool (isVal n)) ∧ w = w' := by
  go_enter Tryz.func16, Tryz.ntmps16
  go_wp2_with fail
  refine (l01In_b n 1 11 _).mono ?_
  rintro e w' ⟨rfl, rfl⟩
  go_wp2
  go_ret
  exact ⟨rfl, rfl⟩
set_option maxHeartbeats 400000 in
theorem l05Statement_any (n : Int) (w : World) : Calls Tryz.prog 81 #[.int .i64 n] w fun e w' => e = .returned (.bool (isStp n || (n == 19))) ∧ w = w' := by
  obtain ⟨d2, e2⟩ : ∃ d, (n == 19) = d := ⟨_, rfl⟩
  rw [e2]
  have HI := Lib.hid (l01In_b n 12 17 w)
  have HS := Lib.hid (show isStp n = (decide (12 ≤ n) && decide (n ≤ 17)) from rfl)
  rw [← HS.out] at HI
  go_enter Tryz.func81, Tryz.ntmps81
  go_wp2_with fail
  refine HI.out.mono ?_
  rintro e w' ⟨rfl, rfl⟩
  cases g : isStp n <;> (go_wp2; go_ret; exact ⟨ret_bool (by rw [g]; simp), rfl⟩)
set_option maxHeartbeats 2000000 in
set_option maxRecDepth 100000 in
theorem l04First_any (n : Int) (w : World) : Calls Tryz.prog 55 #[.int .u8 n] w fun e w' => e = .returned (.bool (firstN n)) ∧ w = w' := by
  obtain ⟨d1, e1⟩ : ∃ d, decide (97 ≤ n) = d := ⟨_, rfl⟩
  obtain ⟨d2, e2⟩ : ∃ d, decide (n ≤ 122) = d := ⟨_, rfl⟩
  obtain ⟨d3, e3⟩ : ∃ d, decide (65 ≤ n) = d := ⟨_, rfl⟩
  obtain ⟨d4, e4⟩ : ∃ d, decide (n ≤ 90) = d := ⟨_, rfl⟩
  obtain ⟨d5, e5⟩ : ∃ d, (n == 95) = d := ⟨_, rfl⟩
  have HF := Lib.hid (show firstN n = ((d1 && d2) || (d3 && d4) || d5) by rw [firstN, e1, e2, e3, e4, e5])
  cases d1 <;> cases d2 <;> cases d3 <;> cases d4 <;>
    (go_enter Tryz.func55, Tryz.ntmps55; go_wp2; go_ret; exact ⟨ret_bool (by rw [HF.out]; simp), rfl⟩)
set_option maxHeartbeats 1000000 in
set_option maxRecDepth 100000 in
theorem l04Figure_any (n : Int) (w : World) : Calls Tryz.prog 57 #[.int .u8 n] w fun e w' => e = .returned (.bool (figN n)) ∧ w = w' := by
  obtain ⟨d1, e1⟩ : ∃ d, decide (48 ≤ n) = d := ⟨_, rfl⟩
  obtain ⟨d2, e2⟩ : ∃ d, decide (n ≤ 57) = d := ⟨_, rfl⟩
  have HF := Lib.hid (show figN n = (d1 && d2) by rw [figN, e1, e2])
  cases d1 <;>
    (go_enter Tryz.func57, Tryz.ntmps57; go_wp2; go_ret; exact ⟨ret_bool (by rw [HF.out]; simp), rfl⟩)
theorem noteLen_no {t : ByteArray} {a : Nat} (h : isNote t a = false) : noteLen t a = 0 := by unfold noteLen; rw [if_neg (fun c => by rw [h] at c; cases c.1)]
set_option maxHeartbeats 2000000 in
set_option maxRecDepth 100000 in
theorem l04Note_any (t : ByteArray) (a : Nat) (w : World) (hs : t.size ≤ 4611686018427387904) (ha : a ≤ t.size) :
    Calls Tryz.prog 136 #[.string t, .int .i64 a] w fun e w' => e = .returned (.int .i64 (noteLen t a)) ∧ w = w' := by
  by_cases h2 : t.size < a + 2
  · have h2i : (t.size : Int) < (a : Int) + 2 := by omega
    have HF := Lib.hid (noteLen_no (t := t) (a := a) (by
      cases g : isNote t a with
      | false => rfl
      | true => have := isNote_size g; omega))
    go_enter Tryz.func136, Tryz.ntmps136
    go_wp2
    go_ret
    exact ⟨ret_int (by rw [HF.out]; rfl), rfl⟩
  · have h2i : ¬ (t.size : Int) < (a : Int) + 2 := by omega
    have hz : (0 : Int) ≤ (a : Int) := by omega
    have hai : (a : Int) ≤ (a : Int) + 2 := by omega
    have hat : (a : Int) + 2 ≤ (t.size : Int) := by omega
    have hae : ((a : Int) + 2).toNat = a + 2 := by omega
    cases g : isNote t a with
    | false =>
      have HF := Lib.hid (noteLen_no g)
      have g1 : ((t.extract a (a + 2)).toList == [47, 47]) = false := by rw [← g]; unfold isNote; rw [Lib.toList_data slashes]; rfl
      go_enter Tryz.func136, Tryz.ntmps136
      go_wp2
      go_ret
      exact ⟨ret_int (by rw [HF.out]; rfl), rfl⟩
    | true =>
      have g1 : ((t.extract a (a + 2)).toList == [47, 47]) = true := by rw [← g]; unfold isNote; rw [Lib.toList_data slashes]; rfl
      have HL : Hid (noteLen t a = if runTo notNl t a ≤ runTo plainN t a then runTo notNl t a - a else 0) := by
        show noteLen t a = _
        unfold noteLen
        by_cases z : runTo notNl t a ≤ runTo plainN t a
        · rw [if_pos ⟨g, z⟩, if_pos z]
        · rw [if_neg (fun c => z c.2), if_neg z]
      have HGE := Lib.hid (fun k => runTo_ge plainN t k)
      clear g
      go_enter Tryz.func136, Tryz.ntmps136
      go_wp2
      go_loop [5] (fun i => ∃ k : Nat, a ≤ k ∧ k ≤ t.size ∧ i = .int .i64 k ∧ Hid (runTo notNl t a = runTo notNl t k) ∧ Hid (runTo plainN t a = runTo plainN t k)) (fun i => t.size - (intOf i).toNat)
      case atStart => exact ⟨a, Nat.le_refl _, ha, rfl, rfl, rfl⟩
      case round =>
        obtain ⟨k, hak, hk, rfl, HA, HP⟩ := hrel
        by_cases hlt : k < t.size
        · have hki : (k : Int) < (t.size : Int) := by omega
          have hkz : (0 : Int) ≤ (k : Int) := by omega
          have HNY := Lib.hid (fun h : notNl (t[k].toNat : Int) = true => runTo_step hlt h)
          have HNN := Lib.hid (fun h : notNl (t[k].toNat : Int) = false => runTo_stop hlt h)
          have HPY := Lib.hid (fun h : plainN (t[k].toNat : Int) = true => runTo_step hlt h)
          have HPN := Lib.hid (fun h : plainN (t[k].toNat : Int) = false => runTo_stop hlt h)
          cases g2 : notNl (t[k].toNat : Int) with
          | false =>
            have g3 : ((t[k].toNat : Int) != 10) = false := g2
            have HF := Lib.hid (show noteLen t a = k - a by
              rw [HL.out, HA.out, HNN.out g2, HP.out, if_pos (HGE.out k)])
            clear g2
            go_wp2
            go_ret
            exact ⟨ret_int (by rw [HF.out]; omega), rfl⟩
          | true =>
            have g3 : ((t[k].toNat : Int) != 10) = true := g2
            have HN1 := Lib.hid (HNY.out g2)
            clear g2
            go_wp2_with fail
            refine (l04Plain_any _ _).mono ?_
            rintro e w' ⟨rfl, rfl⟩
            cases g4 : plainN (t[k].toNat : Int) with
            | false =>
              have HF := Lib.hid (show noteLen t a = 0 by
                have := runTo_ge notNl t (k + 1)
                rw [HL.out, HA.out, HN1.out, HP.out, HPN.out g4, if_neg (by omega)])
              go_wp2
              go_ret
              exact ⟨ret_int (by rw [HF.out]; rfl), rfl⟩
            | true =>
              have HP1 := Lib.hid (HPY.out g4)
              go_wp2
              go_round
              case rel => exact ⟨k + 1, by omega, by omega, by go_num, HA.out.trans HN1.out, HP.out.trans HP1.out⟩
              case measure => simp [intOf]; omega
        · have hki : ¬ (k : Int) < (t.size : Int) := by omega
          have HF := Lib.hid (show noteLen t a = k - a by
            rw [HL.out, HA.out, runTo_end (by omega), HP.out, if_pos (HGE.out k)])
          go_wp2
          go_ret
          exact ⟨ret_int (by rw [HF.out]; omega), rfl⟩
set_option maxHeartbeats 2000000 in
set_option maxRecDepth 100000 in
theorem l04Quoted_any (t : ByteArray) (a : Nat) (w : World) (hs : t.size ≤ 4611686018427387904) (ha : a < t.size) :
    Calls Tryz.prog 135 #[.string t, .int .i64 a] w fun e w' => e = .returned (.int .i64 (quoteLen t a)) ∧ w = w' := by
  have HL : Hid (quoteLen t a = if runTo notQ t (a + 1) < t.size ∧ runTo notQ t (a + 1) ≤ runTo plainN t (a + 1) then runTo notQ t (a + 1) + 1 - a else 0) := rfl
  have HGE := Lib.hid (fun k => runTo_ge plainN t k)
  go_enter Tryz.func135, Tryz.ntmps135
  go_wp2
  go_loop [5] (fun i => ∃ k : Nat, a + 1 ≤ k ∧ k ≤ t.size ∧ i = .int .i64 k ∧ Hid (runTo notQ t (a + 1) = runTo notQ t k) ∧ Hid (runTo plainN t (a + 1) = runTo plainN t k)) (fun i => t.size - (intOf i).toNat)
  case atStart => exact ⟨a + 1, Nat.le_refl _, ha, by go_num, rfl, rfl⟩
  case round =>
    obtain ⟨k, hak, hk, rfl, HA, HP⟩ := hrel
    by_cases hlt : k < t.size
    · have hki : (k : Int) < (t.size : Int) := by omega
      have hkz : (0 : Int) ≤ (k : Int) := by omega
      have HNY := Lib.hid (fun h : notQ (t[k].toNat : Int) = true => runTo_step hlt h)
      have HNN := Lib.hid (fun h : notQ (t[k].toNat : Int) = false => runTo_stop hlt h)
      have HPY := Lib.hid (fun h : plainN (t[k].toNat : Int) = true => runTo_step hlt h)
      have HPN := Lib.hid (fun h : plainN (t[k].toNat : Int) = false => runTo_stop hlt h)
      cases g2 : notQ (t[k].toNat : Int) with
      | false =>
        have g3 : ((t[k].toNat : Int) == 39) = true := by simpa [notQ] using g2
        have HF := Lib.hid (show quoteLen t a = k + 1 - a by
          rw [HL.out, HA.out, HNN.out g2, HP.out, if_pos ⟨hlt, HGE.out k⟩])
        clear g2
        go_wp2
        go_ret
        exact ⟨ret_int (by rw [HF.out]; omega), rfl⟩
      | true =>
        have g3 : ((t[k].toNat : Int) == 39) = false := by simpa [notQ] using g2
        have HN1 := Lib.hid (HNY.out g2)
        clear g2
        go_wp2_with fail
        refine (l04Plain_any _ _).mono ?_
        rintro e w' ⟨rfl, rfl⟩
        cases g4 : plainN (t[k].toNat : Int) with
        | false =>
          have HF := Lib.hid (show quoteLen t a = 0 by
            have := runTo_ge notQ t (k + 1)
            rw [HL.out, HA.out, HN1.out, HP.out, HPN.out g4, if_neg (by omega)])
          go_wp2
          go_ret
          exact ⟨ret_int (by rw [HF.out]; rfl), rfl⟩
        | true =>
          have HP1 := Lib.hid (HPY.out g4)
          go_wp2
          go_round
          case rel => exact ⟨k + 1, by omega, by omega, by go_num, HA.out.trans HN1.out, HP.out.trans HP1.out⟩
          case measure => simp [intOf]; omega
    · have hki : ¬ (k : Int) < (t.size : Int) := by omega
      have HF := Lib.hid (show quoteLen t a = 0 by
        rw [HL.out, HA.out, runTo_end (by omega), if_neg (by omega)])
      go_wp2
      go_ret
      exact ⟨ret_int (by rw [HF.out]; rfl), rfl⟩
end Go.Proofs.YtoloplpmjcgbdaaGreatDoor
