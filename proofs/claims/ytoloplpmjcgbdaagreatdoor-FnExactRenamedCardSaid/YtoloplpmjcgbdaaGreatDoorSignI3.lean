/- The sign at the head of a text, of the program: signAt. -/
import Derived.Test.YtoloplpmjcgbdaaGreatDoorSignI2
namespace Go.Proofs.YtoloplpmjcgbdaaGreatDoor
open Go.RowKit

theorem results_tmp4 {fn : Func} {t u v x : Tmp} (h : fn.results = #[.tmp t, .tmp u, .tmp v, .tmp x]) (tmps : Array Value) (P : Program) (w : World) :
    (results fn tmps).run P w = .ok (.tuple #[tmps.getD t undef, tmps.getD u undef, tmps.getD v undef, tmps.getD x undef]) w := by
  simp [results, h]
/-- what signAt returns: the kind, the text, how long, and whether there is one -/
def SignRet (s : ByteArray) (e : Ending) : Prop := ∃ (k : Int) (x : ByteArray) (n : Nat) (ok : Bool), e = .returned (.tuple #[.int .i64 k, .string x, .int .i64 n, .bool ok]) ∧ sgn s 0 = (if ok then some (k, x, n) else none)
theorem marks2_no {x : ByteArray} (h : ¬ x.size = 2) : inMarks marks2 x = false := by
  cases q : inMarks marks2 x with
  | false => rfl
  | true => exact absurd (inMarks_size (q := 2) (by decide) q) h
theorem marks1_no {x : ByteArray} (h : ¬ x.size = 1) : inMarks marks1 x = false := by
  cases q : inMarks marks1 x with
  | false => rfl
  | true => exact absurd (inMarks_size (q := 1) (by decide) q) h
theorem sgn_mark {s : ByteArray} (h0 : 0 < s.size) (g1 : firstN (s[0].toNat : Int) = false) (g2 : figN (s[0].toNat : Int) = false) (g3 : ((s[0].toNat : Int) == 39) = false) (g4 : isNote s 0 = false) : sgn s 0 = markAt s 0 := by
  unfold sgn
  rw [dif_pos h0, g1, g2, g3, g4]; rfl
theorem mark_yes {s : ByteArray} {k : Nat} (h1 : 1 ≤ k) (h2 : k ≤ 2) (hk : k ≤ s.size) (hm : okMark (s.extract 0 k) = true) (hn : ∀ j, k < j → j ≤ 2 → j ≤ s.size → okMark (s.extract 0 j) = false) : markAt s 0 = some (4, s.extract 0 k, k) := by
  have hz : ∀ j, j ≤ s.size → (s.extract 0 j).size = j := fun j hj => by rw [ex_size hj]; rfl
  have e : markLen s 0 = k := by
    unfold markLen
    rw [Nat.zero_add, Nat.zero_add]
    have : k = 1 ∨ k = 2 := by omega
    rcases this with rfl | rfl
    · have m2 : inMarks marks2 (s.extract 0 2) = false := by
        by_cases q : 2 ≤ s.size
        · have := hn 2 (by omega) (by omega) q
          unfold okMark at this
          rw [Bool.or_eq_false_iff] at this
          exact this.1
        · apply marks2_no
          intro c
          have e2 := congrArg (fun l => l) c
          rw [← lsize, Lib.extract_data, List.length_take, List.length_drop, lsize] at e2
          omega
      have m1 : inMarks marks1 (s.extract 0 1) = true := by
        unfold okMark at hm
        rwa [marks2_no (by rw [hz 1 hk]; omega), Bool.false_or] at hm
      rw [m2, m1]; rfl
    · have m2 : inMarks marks2 (s.extract 0 2) = true := by
        unfold okMark at hm
        rwa [marks1_no (by rw [hz 2 hk]; omega), Bool.or_false] at hm
      rw [m2]; rfl
  unfold markAt
  rw [e, if_neg (by omega), Nat.zero_add]
theorem mark_none {s : ByteArray} (h0 : 0 < s.size) (hn : ∀ j, 0 < j → j ≤ 2 → j ≤ s.size → okMark (s.extract 0 j) = false) : markAt s 0 = none := by
  have e : markLen s 0 = 0 := by
    unfold markLen
    rw [Nat.zero_add, Nat.zero_add]
    have m1 := hn 1 (by omega) (by omega) (by omega)
    unfold okMark at m1
    rw [Bool.or_eq_false_iff] at m1
    have m2 : inMarks marks2 (s.extract 0 2) = false := by
      by_cases q : 2 ≤ s.size
      · have := hn 2 (by omega) (by omega) q
        unfold okMark at this
        rw [Bool.or_eq_false_iff] at this
        exact this.1
      · apply marks2_no
        intro c
        rw [← lsize, Lib.extract_data, List.length_take, List.length_drop, lsize] at c
        omega
    rw [m2, m1.2]; rfl
  unfold markAt
  rw [e]; rfl
theorem hasPrefix_note (s : ByteArray) : Lib.hasPrefix s.data.toList slashes.data.toList = isNote s 0 := by
  rw [← Lib.hasPrefix_raw]
  by_cases q : 2 ≤ s.size
  · show (decide (2 ≤ s.size) && isNote s 0) = _
    rw [decide_eq_true q]; rfl
  · show (decide (2 ≤ s.size) && isNote s 0) = _
    rw [decide_eq_false q]
    cases z : isNote s 0 with
    | false => rfl
    | true => exact absurd (isNote_size z) (by omega)
set_option maxHeartbeats 4000000 in
set_option maxRecDepth 100000 in
theorem signAt_head (s : ByteArray) (w : World) (hs : s.size ≤ 4611686018427387904) (h0 : 0 < s.size) :
    Calls Tryz.prog 78 #[.string s] w fun e w' => SignRet s e ∧ Below w.heap.size w w' := by
  have hs2 : s.size ≤ 9223372036854775807 := by omega
  have h0i : (0 : Int) < (s.size : Int) := by omega
  have hB := Below.refl w.heap.size w
  go_enter Tryz.func78, Tryz.ntmps78
  go_wp2_with fail
  refine (isFirst_any _ _).mono ?_
  rintro e w' ⟨rfl, hw⟩
  subst hw
  cases g1 : firstN (s[0].toNat : Int) with
  | true =>
    have hl := runTo_le (p := innerN) (Nat.zero_le s.size)
    have HT := Lib.hid (show sgn s 0 = nameAt s 0 by unfold sgn; rw [dif_pos h0, if_pos g1])
    have HZ := Lib.hid (ex_size (i := 0) hl)
    clear g1
    go_wp2_with fail
    refine (runOf_inner s _ hs2).mono ?_
    rintro e w' ⟨rfl, hw⟩
    subst hw
    go_wp2
    try simp only [Exit.inBlock, Exit.then]
    refine bodyPost_ret (results_tmp4 rfl _ _ _) rfl ?_
    refine ⟨⟨_, _, _, _, rfl, ?_⟩, hB⟩
    rw [HT.out, nameAt, Nat.sub_zero]
    by_cases z : runTo innerN s 0 ≤ 30
    · rw [if_pos z, if_pos (by simp; omega)]
    · rw [if_neg z, if_neg (by simp; omega)]
  | false =>
  go_wp2_with fail
  refine (isFigure_any _ _).mono ?_
  rintro e w' ⟨rfl, hw⟩
  subst hw
  cases g2 : figN (s[0].toNat : Int) with
  | true =>
    have hl := runTo_le (p := figN) (Nat.zero_le s.size)
    have HT := Lib.hid (show sgn s 0 = numAt s 0 by unfold sgn; rw [dif_pos h0, g1, g2]; rfl)
    have HZ := Lib.hid (ex_size (i := 0) hl)
    clear g1 g2
    go_wp2_with fail
    refine (runOf_fig s _ hs2).mono ?_
    rintro e w' ⟨rfl, hw⟩
    subst hw
    go_wp2
    try simp only [Exit.inBlock, Exit.then]
    refine bodyPost_ret (results_tmp4 rfl _ _ _) rfl ?_
    refine ⟨⟨_, _, _, _, rfl, ?_⟩, hB⟩
    rw [HT.out, numAt, Nat.sub_zero]
    by_cases z : runTo figN s 0 ≤ 12
    · rw [if_pos z, if_pos (by simp; omega)]
    · rw [if_neg z, if_neg (by simp; omega)]
  | false =>
  cases g3 : ((s[0].toNat : Int) == 39) with
  | true =>
    have HT := Lib.hid (show sgn s 0 = textAt s 0 by unfold sgn; rw [dif_pos h0, g1, g2, g3]; rfl)
    have g3i : (s[0].toNat : Int) = 39 := by simpa using g3
    have HQ := Lib.hid (quoted_any s w hs h0 g3i)
    clear g1 g2 g3i
    go_wp2_with fail
    refine HQ.out.mono ?_
    rintro e w' ⟨x, ok, rfl, hx, hw⟩
    subst hw
    have HX := Lib.hid hx
    clear hx
    go_wp2
    try simp only [Exit.inBlock, Exit.then]
    refine bodyPost_ret (results_tmp4 rfl _ _ _) rfl ?_
    exact ⟨⟨_, _, _, _, rfl, HT.out.trans HX.out⟩, hB⟩
  | false =>
  go_wp2_with fail
  refine (Tryz.strings_HasPrefix s _ _).mono ?_
  rintro e w' ⟨rfl, hw⟩
  replace hw := hw.symm
  subst hw
  rw [show Lib.hasPrefix s.data.toList (⟨#[47, 47]⟩ : ByteArray).data.toList = isNote s 0 from hasPrefix_note s]
  cases g4 : isNote s 0 with
  | true =>
    have hl := runTo_le (p := notNl) (Nat.zero_le s.size)
    have HT := Lib.hid (show sgn s 0 = noteAt s 0 by unfold sgn; rw [dif_pos h0, g1, g2, g3, g4]; rfl)
    have HZ := Lib.hid (ex_size (i := 0) hl)
    have HP := Lib.hid (plain_piece hl (Nat.zero_le _))
    clear g1 g2 g3 g4
    go_wp2_with fail
    refine (runOf_noNl s _ hs2).mono ?_
    rintro e w' ⟨rfl, hw⟩
    subst hw
    go_wp2_with fail
    refine (trimmed_impl _ _ (by rw [HZ.out]; omega)).mono ?_
    rintro e w' ⟨rfl, hw⟩
    subst hw
    go_wp2_with fail
    refine (isPlain_impl _ _ (by rw [HZ.out]; omega)).mono ?_
    rintro e w' ⟨rfl, hw⟩
    subst hw
    go_wp2
    try simp only [Exit.inBlock, Exit.then]
    refine bodyPost_ret (results_tmp4 rfl _ _ _) rfl ?_
    refine ⟨⟨_, _, _, _, rfl, ?_⟩, hB⟩
    rw [HT.out, HP.out, noteAt, Nat.sub_zero]
    by_cases z : runTo notNl s 0 ≤ runTo plainN s 0
    · rw [if_pos z, if_pos (by simpa using z)]
    · rw [if_neg z, if_neg (by simpa using z)]
  | false =>
  have HT := Lib.hid (sgn_mark h0 g1 g2 g3 g4)
  clear g1 g2 g3 g4
  have HM1 : Hid (∀ k, 1 ≤ k → k ≤ 2 → k ≤ s.size → okMark (s.extract 0 k) = true → (∀ j, k < j → j ≤ 2 → j ≤ s.size → okMark (s.extract 0 j) = false) → markAt s 0 = some (4, s.extract 0 k, k)) := fun k h1 h2 hk hm hn => mark_yes h1 h2 hk hm hn
  have HM0 := Lib.hid (mark_none h0)
  go_wp2
  go_loopw [12] (fun i wr => ∃ k : Nat, k ≤ 2 ∧ k ≤ s.size ∧ i = .int .i64 k ∧ Hid (∀ j, k < j → j ≤ 2 → j ≤ s.size → okMark (s.extract 0 j) = false) ∧ w = wr) (fun i _ => (intOf i).toNat)
  case atStart => exact ⟨min 2 s.size, by omega, by omega, by congr 1; omega, fun j h1 h2 h3 => by omega, rfl⟩
  case round =>
    obtain ⟨k, hk, hks, rfl, HA, rfl⟩ := hrel
    by_cases hlt : 0 < k
    · have hki : (0 : Int) < (k : Int) := by omega
      have hkz : (0 : Int) ≤ (k : Int) := by omega
      have hkl : (k : Int) ≤ (s.size : Int) := by omega
      have HZ := Lib.hid (ex_size (s := s) (i := 0) (j := k) hks)
      go_wp2_with fail
      refine (markOk_impl _ _ (by rw [HZ.out]; omega)).mono ?_
      rintro e w' ⟨rfl, hw⟩
      subst hw
      cases g5 : okMark (s.extract 0 k) with
      | true =>
        have HY := Lib.hid (HM1.out k hlt hk hks g5 HA.out)
        go_wp2
        go_quiet (fail)
        go_wp2
        try simp only [Exit.inBlock, Exit.then]
        refine bodyPost_ret (results_tmp4 rfl _ _ _) rfl ?_
        exact ⟨⟨_, _, _, _, rfl, HT.out.trans HY.out⟩, blw_drewN hB _⟩
      | false =>
        have HN := Lib.hid g5
        go_wp2
        go_roundw
        case rel => exact ⟨k - 1, by omega, by omega, by congr 1; omega, fun j h1 h2 h3 => by
          by_cases e : j = k
          · subst e; exact HN.out
          · exact HA.out j (by omega) h2 h3, trivial⟩
        case measure => simp [intOf]; omega
    · have hki : ¬ (0 : Int) < (k : Int) := by omega
      obtain rfl : k = 0 := by omega
      have HY := Lib.hid (HM0.out HA.out)
      go_wp2
      try simp only [Exit.inBlock, Exit.then]
      refine bodyPost_ret (results_tmp4 rfl _ _ _) rfl ?_
      exact ⟨⟨0, _, 0, false, rfl, HT.out.trans HY.out⟩, hB⟩
end Go.Proofs.YtoloplpmjcgbdaaGreatDoor
