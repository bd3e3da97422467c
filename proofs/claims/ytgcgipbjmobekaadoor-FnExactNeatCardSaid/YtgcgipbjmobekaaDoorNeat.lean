/- Trimmed of the reference; Neat of both. -/
import Derived.Test.YtgcgipbjmobekaaDoorNeatP
import Derived.Test.YtgcgipbjmobekaaDoorLines
import Derived.Test.YtgcgipbjmobekaaDoorHeld
namespace Go.Proofs.YtgcgipbjmobekaaDoor
open Go.RowKit

theorem hasSuffix_b (s : ByteArray) (c : UInt8) (b : Bool) (w : World) (hs : s.size ≤ 9223372036854775807) (h : lastIs c s = b) :
    Calls Tryd.prog 49 #[.string s, .string ⟨#[c]⟩] w fun e w' => e = .returned (.bool b) ∧ w = w' := by
  refine (Tryd.strings_HasSuffix s ⟨#[c]⟩ w hs).mono ?_
  rintro e w' ⟨rfl, rfl⟩
  exact ⟨by rw [← h]; rfl, rfl⟩
theorem trim_take_yes (s : ByteArray) (q : Nat) (h : q < s.size) (hb : s[q] = 32) : Lib.trimRightB (s.data.toList.take (q + 1)) 32 = Lib.trimRightB (s.data.toList.take q) 32 := by
  have e := take_byte s 0 q h (Nat.zero_le _)
  simp only [List.drop_zero, Nat.sub_zero] at e
  rw [e, hb, trim_snoc_yes]
theorem trim_take_no (s : ByteArray) (q : Nat) (h : q < s.size) (hb : s[q] ≠ 32) : Lib.trimRightB (s.data.toList.take (q + 1)) 32 = s.data.toList.take (q + 1) := by
  have e := take_byte s 0 q h (Nat.zero_le _)
  simp only [List.drop_zero, Nat.sub_zero] at e
  rw [e, trim_snoc_no _ hb]
theorem mk_take (s : ByteArray) (k : Nat) : (⟨(s.data.toList.take k).toArray⟩ : ByteArray) = s.extract 0 k := by
  have := mk_piece s 0 k
  simpa [mkB] using this
set_option maxHeartbeats 1000000 in
set_option maxRecDepth 100000 in
theorem trimmed_spec (s : ByteArray) (w : World) (hs : s.size ≤ 9223372036854775807) :
    Calls Tryd.prog 47 #[.string s] w fun e w' => e = .returned (.string (trimT s)) ∧ w = w' := by
  go_enter Tryd.func47, Tryd.ntmps47
  go_wp2
  go_loop [3] (fun n => ∃ k : Nat, k ≤ s.size ∧ n = .int .i64 k ∧ Hid (Lib.trimRightB s.data.toList 32 = Lib.trimRightB (s.data.toList.take k) 32)) (fun n => (intOf n).toNat)
  case atStart => exact ⟨s.size, Nat.le_refl _, rfl, by unfold Hid; rw [List.take_of_length_le (by rw [← size_list]; omega)]⟩
  case round =>
    obtain ⟨k, hk, rfl, HT⟩ := hrel
    cases k with
    | zero =>
      have HF : Hid (trimT s = ByteArray.empty) := by unfold Hid trimT; rw [HT.out]; rfl
      go_wp2
      go_ret
      exact ⟨ret_str HF.out.symm, rfl⟩
    | succ q =>
      have hq : q < s.size := hk
      have hqi : (q : Int) < (s.size : Int) := by omega
      have hq0 : (0 : Int) ≤ (q : Int) := by omega
      by_cases hb : s[q] = 32
      · have hbi : ((s[q].toNat : Int) == 32) = true := by rw [u8_int.2 hb]; rfl
        have HF := Lib.hid (trim_take_yes s q hq hb)
        clear hb
        go_wp2
        go_round
        case rel => exact ⟨q, by omega, by go_num, by unfold Hid; rw [HT.out, HF.out]⟩
        case measure => simp [intOf]
      · have hbi : ((s[q].toNat : Int) == 32) = false := beq_eq_false_iff_ne.2 (fun h => hb (u8_int.1 h))
        have HF := Lib.hid (trim_take_no s q hq hb)
        have HG : Hid (trimT s = s.extract 0 (q + 1)) := by unfold Hid trimT; rw [HT.out, HF.out, mk_take]
        clear hb
        go_wp2
        go_ret
        exact ⟨ret_str HG.out.symm, rfl⟩
theorem allI_no {xs : List ByteArray} {k : Nat} (h : k < xs.length) (hx : neatI xs k = false) : allI xs = false := by
  unfold allI
  cases hb : (List.range xs.length).all (neatI xs) with
  | false => rfl
  | true => rw [List.all_eq_true.1 hb k (List.mem_range.2 h)] at hx; cases hx
theorem allS_no {xs : List ByteArray} {k : Nat} (h : k < xs.length) (hx : neatS xs k = false) : allS xs = false := by
  unfold allS
  cases hb : (List.range xs.length).all (neatS xs) with
  | false => rfl
  | true => rw [List.all_eq_true.1 hb k (List.mem_range.2 h)] at hx; cases hx
theorem range_succ {p : Nat → Bool} {k : Nat} (h : (List.range k).all p = true) (hx : p k = true) : (List.range (k + 1)).all p = true := by
  rw [List.range_succ]; exact allp_succ rfl h hx
set_option maxHeartbeats 2000000 in
set_option maxRecDepth 100000 in
theorem neat_impl (s : ByteArray) (m : Int) (w : World) (hs : s.size ≤ 1073741824) (hm : w.cell? ⟨0, 0, none⟩ = some (.int .i64 m)) :
    Calls Tryd.prog 25 #[.string s] w fun e w' => e = .returned (.bool (neatB s)) ∧ Below w.heap.size w w' := by
  have HN := Lib.hid (neat_impl_is s)
  have hll := linesB_len s
  have hls := line_le s
  have rest : ∀ (ls : List ByteArray) (a : Option Addr) (c : Nat), True := fun _ _ _ => trivial
  clear rest
  by_cases hs0 : s = ⟨#[]⟩
  · have h0 := emp_yes hs0
    have HE := Lib.hid (show neatB s = true by rw [neatB, empB_yes hs0]; rfl)
    have HL := Lib.hid (show linesB s = [] by rw [hs0]; rfl)
    clear hs0 hll hls
    go_enter Tryd.func25, Tryd.ntmps25
    go_wp2_with fail
    refine (linesOf_impl s m w hs hm).mono ?_
    rintro e w1 ⟨u, rfl, hb1, hr⟩
    rw [HL.out] at hr
    obtain ⟨a, c, rfl, _⟩ := hr.strF
    go_wp2
    go_loopw [17] (fun i wr => i = .int .i64 0 ∧ w1 = wr) (fun _ _ => 0)
    case atStart => exact ⟨rfl, rfl⟩
    case round =>
      obtain ⟨rfl, rfl⟩ := hrel
      go_wp2
      go_ret
      exact ⟨ret_bool HE.out.symm, hb1⟩
  · have h0 := emp_no hs0
    have HE0 := Lib.hid (empB_no hs0)
    clear hs0
    cases hlast : lastIs 10 s with
    | false =>
      have HE := Lib.hid (show neatB s = false by rw [HN.out, HE0.out, hlast]; rfl)
      go_enter Tryd.func25, Tryd.ntmps25
      go_wp2_with fail
      refine (hasSuffix_b s 10 false w (by omega) hlast).mono ?_
      rintro e w' ⟨rfl, rfl⟩
      go_wp2
      go_ret
      exact ⟨ret_bool HE.out.symm, Below.refl _ _⟩
    | true =>
      have HE := Lib.hid (show neatB s = allI (linesB s) by rw [HN.out, HE0.out, hlast]; rfl)
      go_enter Tryd.func25, Tryd.ntmps25
      go_wp2_with fail
      refine (hasSuffix_b s 10 true w (by omega) hlast).mono ?_
      rintro e w' ⟨rfl, rfl⟩
      clear hlast HN HE0
      go_wp2_with fail
      refine (linesOf_impl s m w hs hm).mono ?_
      rintro e w1 ⟨u, rfl, hb1, hr⟩
      obtain ⟨a, c, rfl, h2, h3, h4, h5⟩ := hr.strF
      unfold maxLen at h3
      generalize hls0 : linesB s = ls at *
      clear hls0
      go_wp2
      go_loopw [17] (fun i wr => ∃ k : Nat, k ≤ ls.length ∧ i = .int .i64 k ∧ Hid ((List.range k).all (neatI ls) = true) ∧ w1 = wr) (fun i _ => ls.length - (intOf i).toNat)
      case atStart => exact ⟨0, Nat.zero_le _, rfl, rfl, rfl⟩
      case round =>
        obtain ⟨k, hk, rfl, HA, rfl⟩ := hrel
        by_cases hlt : k < ls.length
        · obtain ⟨b, off, rfl, hlo, hhi, c0⟩ := h5 k hlt
          have hx1 := hls _ (List.getElem_mem hlt)
          have HI := Lib.hid (show neatI ls k = (lineOk ls[k] && !(empB ls[k] && (decide (k = 0) || decide (k + 1 = ls.length) || empB (atB ls (k - 1))))) by rw [neatI, atB_lt hlt])
          have HF := Lib.hid (fun h : neatI ls k = false => (HE.out.trans (allI_no hlt h) : neatB s = false))
          have hki : (k : Int) < (ls.length : Int) := by omega
          have hkz : (0 : Int) ≤ (k : Int) := by omega
          generalize hxx : ls[k] = x at *
          clear hxx
          go_wp2_with fail
          refine (isPlain_impl x _ (by omega)).mono ?_
          rintro e w' ⟨rfl, rfl⟩
          cases g1 : plainB x with
          | false =>
            have HR := Lib.hid (HF.out (by rw [HI.out, lineOk, g1]; rfl))
            go_wp2
            go_ret
            exact ⟨ret_bool HR.out.symm, hb1⟩
          | true =>
          go_wp2_with fail
          cases g2 : lastIs 32 x with
          | true =>
            have HR := Lib.hid (HF.out (by rw [HI.out, lineOk, g1, g2]; rfl))
            refine (hasSuffix_b x 32 true _ (by omega) g2).mono ?_
            rintro e w' ⟨rfl, rfl⟩
            go_wp2
            go_ret
            exact ⟨ret_bool HR.out.symm, hb1⟩
          | false =>
          refine (hasSuffix_b x 32 false _ (by omega) g2).mono ?_
          rintro e w' ⟨rfl, rfl⟩
          have HI2 := Lib.hid (show neatI ls k = !(empB x && (decide (k = 0) || decide (k + 1 = ls.length) || empB (atB ls (k - 1)))) by rw [HI.out, lineOk, g1, g2]; rfl)
          clear HI g1 g2 hx1
          by_cases hx : x = ⟨#[]⟩
          · have hx0 := emp_yes hx
            have HX := Lib.hid (empB_yes hx)
            clear hx
            cases k with
            | zero =>
              have HR := Lib.hid (HF.out (by rw [HI2.out, HX.out]; rfl))
              go_wp2
              go_ret
              exact ⟨ret_bool HR.out.symm, hb1⟩
            | succ q =>
              have hq : q < ls.length := by omega
              obtain ⟨b2, off2, e2, _, _, c2⟩ := h5 q hq
              injection e2 with e2
              injection e2 with e3 e4
              subst e3; subst e4
              have HP := Lib.hid (show atB ls q = ls[q] from atB_lt hq)
              have hq0 : (0 : Int) ≤ (q : Int) := by omega
              have hqi : (q : Int) < (ls.length : Int) := by omega
              have hqz : ((q : Int) + 1 == 0) = false := beq_eq_false_iff_ne.2 (by omega)
              generalize ls[q] = y at *
              by_cases hn : q + 1 + 1 = ls.length
              · have hne : ((q : Int) + 1 == (ls.length : Int) - 1) = true := by rw [beq_iff_eq]; omega
                have HR := Lib.hid (HF.out (by rw [HI2.out, HX.out, decide_eq_true hn]; simp))
                clear hn
                go_wp2
                go_ret
                exact ⟨ret_bool HR.out.symm, hb1⟩
              · have hne : ((q : Int) + 1 == (ls.length : Int) - 1) = false := beq_eq_false_iff_ne.2 (by omega)
                by_cases hy : y = ⟨#[]⟩
                · have hy0 := emp_yes hy
                  have HR := Lib.hid (HF.out (by rw [HI2.out, HX.out, Nat.add_sub_cancel, HP.out, empB_yes hy]; simp))
                  clear hn hy
                  go_wp2
                  go_ret
                  exact ⟨ret_bool HR.out.symm, hb1⟩
                · have hy0 := emp_no hy
                  have HR := Lib.hid (show neatI ls (q + 1) = true by rw [HI2.out, HX.out, Nat.add_sub_cancel, HP.out, empB_no hy, decide_eq_false hn]; simp)
                  clear hn hy
                  go_wp2
                  go_roundw
                  case rel => exact ⟨q + 1 + 1, by omega, by go_num, range_succ HA.out HR.out, by trivial⟩
                  case measure => simp [intOf]; omega
          · have hx0 := emp_no hx
            have HR := Lib.hid (show neatI ls k = true by rw [HI2.out, empB_no hx]; rfl)
            clear hx
            go_wp2
            go_roundw
            case rel => exact ⟨k + 1, by omega, by go_num, range_succ HA.out HR.out, by trivial⟩
            case measure => simp [intOf]; omega
        · have hki : ¬ (k : Int) < (ls.length : Int) := by omega
          have HR := Lib.hid (show neatB s = true by rw [HE.out]; have e := HA.out; rw [show k = ls.length by omega] at e; exact e)
          go_wp2
          go_ret
          exact ⟨ret_bool HR.out.symm, hb1⟩
set_option maxHeartbeats 2000000 in
set_option maxRecDepth 100000 in
theorem neat_spec (s : ByteArray) (w : World) (hs : s.size ≤ 1073741824) :
    Calls Tryd.prog 24 #[.string s] w fun e w' => e = .returned (.bool (neatB s)) ∧ Below w.heap.size w w' := by
  have hll := linesB_len s
  have hls := line_le s
  by_cases hs0 : s = ⟨#[]⟩
  · have h0 := emp_yes hs0
    have HE := Lib.hid (show neatB s = true by rw [neatB, empB_yes hs0]; rfl)
    clear hs0 hll hls
    go_enter Tryd.func24, Tryd.ntmps24
    go_wp2
    go_ret
    exact ⟨ret_bool HE.out.symm, Below.refl _ _⟩
  · have h0 := emp_no hs0
    have HE0 := Lib.hid (empB_no hs0)
    obtain ⟨q, hq⟩ : ∃ q, s.size = q + 1 := by
      refine ⟨s.size - 1, ?_⟩
      have : s.size ≠ 0 := by
        intro e
        rw [size_list] at e
        exact data_ne hs0 (List.eq_nil_of_length_eq_zero e)
      omega
    have hqs : q < s.size := by omega
    have h0s : 0 < s.size := by omega
    have e1 : (0 : Int) ≤ (s.size : Int) - 1 := by omega
    have e2 : (s.size : Int) - 1 < (s.size : Int) := by omega
    have e3 : ((s.size : Int) - 1).toNat = s.size - 1 := by omega
    have hql : s.size - 1 < s.size := by omega
    have hLast : lastIs 10 s = (s[s.size - 1] == 10) := by
      have e := take_byte s 0 (s.size - 1) hql (Nat.zero_le _)
      simp only [List.drop_zero, Nat.sub_zero] at e
      rw [show s.size - 1 + 1 = s.size by omega, List.take_of_length_le (show s.data.toList.length ≤ s.size by rw [← size_list]; omega)] at e
      rw [lastIs, e, suffix_snoc]
    have hFirst : firstIs s = (s[0] == 10) := by
      have e := drop_byte s 0 h0s
      simp only [List.drop_zero] at e
      rw [firstIs, e]
      rfl
    have HLA := Lib.hid hLast
    have HFI := Lib.hid hFirst
    clear hLast hFirst hs0 hq hqs
    by_cases hlb : s[s.size - 1] = 10
    · by_cases hfb : s[0] = 10
      · have t1 : ((s[s.size - 1].toNat : Int) != 10) = false := by rw [u8_ten.2 hlb]; rfl
        have t2 : ((s[0].toNat : Int) == 10) = true := by rw [u8_ten.2 hfb]; rfl
        have HE := Lib.hid (show neatB s = false by rw [neatB, HE0.out, HFI.out, hfb]; simp)
        clear hlb hfb
        go_enter Tryd.func24, Tryd.ntmps24
        go_wp2
        go_ret
        exact ⟨ret_bool HE.out.symm, Below.refl _ _⟩
      · have t1 : ((s[s.size - 1].toNat : Int) != 10) = false := by rw [u8_ten.2 hlb]; rfl
        have t2 : ((s[0].toNat : Int) == 10) = false := beq_eq_false_iff_ne.2 (fun h => hfb (u8_ten.1 h))
        have HE := Lib.hid (show neatB s = allS (linesB s) by
          have e : (s[0] == 10) = false := by simpa using hfb
          rw [neatB, HE0.out, HFI.out, HLA.out, hlb, e]; rfl)
        clear hlb hfb
        go_enter Tryd.func24, Tryd.ntmps24
        go_wp2_with fail
        refine (linesOf_spec s w hs).mono ?_
        rintro e w1 ⟨u, rfl, hb1, hO⟩
        clear HLA HFI HE0
        obtain ⟨a, c, rfl, h2, h3, h4, h5⟩ := hO.rd.strF
        unfold maxLen at h3
        clear hO
        generalize hls0 : linesB s = ls at *
        clear hls0
        go_wp2
        go_loopw [4] (fun i wr => ∃ k : Nat, k ≤ ls.length ∧ i = .int .i64 k ∧ Hid ((List.range k).all (neatS ls) = true) ∧ Below w1.heap.size w1 wr) (fun i _ => ls.length - (intOf i).toNat)
        case atStart => exact ⟨0, Nat.zero_le _, rfl, rfl, Below.refl _ _⟩
        case round =>
          obtain ⟨k, hk, rfl, HA, hb⟩ := hrel
          have HB := hb1.trans (hb.mono hb1.size)
          by_cases hlt : k < ls.length
          · obtain ⟨b, off, rfl, hlo, hhi, c0⟩ := h5 k hlt
            have d0 := (hb.cell (p := ⟨b, off + k, none⟩) hhi).trans c0
            have hx1 := hls _ (List.getElem_mem hlt)
            have HI := Lib.hid (show neatS ls k = (lineOk ls[k] && !(empB ls[k] && (decide (k + 1 = ls.length) || empB (atB ls (k + 1))))) by rw [neatS, atB_lt hlt])
            have HF := Lib.hid (fun h : neatS ls k = false => (HE.out.trans (allS_no hlt h) : neatB s = false))
            have hki : (k : Int) < (ls.length : Int) := by omega
            have hkz : (0 : Int) ≤ (k : Int) := by omega
            clear c0
            generalize hxx : ls[k] = x at *
            clear hxx
            go_wp2_with fail
            cases g2 : lastIs 32 x with
            | true =>
              have HR := Lib.hid (HF.out (by rw [HI.out, lineOk, g2]; simp))
              have hne : ((trimT x).toList == x.toList) = false := str_no (fun e => by rw [(trimT_eq x).1 e] at g2; cases g2)
              clear g2
              refine wp_region_held_drew (S := fun w' => w' = wr.drew) (by kernel_rfl) ?_ (fun hHeld => ?_)
              · exact rfl
              refine wpAnyH_take (i := 0) (v := ?v1) (at_op rfl) (by kernel_rfl) (by kernel_rfl) (by kernel_rfl) (fun _ _ _ h => h) (Or.inl ⟨by rfl, ?y1⟩) (by assumption) ?r1
              case y1 =>
                intro wx hSx
                subst hSx
                go_simp
                try with_reducible rfl
              try simp only [Act.put, List.setIfInBounds_toArray, List.set_cons_zero, List.set_cons_succ]
              refine wpAnyH_take (i := 1) (v := ?v2) (at_op rfl) (by kernel_rfl) (by kernel_rfl) (by kernel_rfl) (fun _ _ _ h => h) (Or.inl ⟨by rfl, ?y2⟩) (by assumption) ?r2
              case y2 =>
                intro wx hSx
                subst hSx
                go_simp
                try with_reducible rfl
              try simp only [Act.put, List.setIfInBounds_toArray, List.set_cons_zero, List.set_cons_succ]
              refine wpAnyH_take (i := 2) (v := ?v3) (at_op rfl) (by kernel_rfl) (by kernel_rfl) (by kernel_rfl) (fun _ _ _ h => h) (Or.inl ⟨by rfl, ?y3⟩) (by assumption) ?r3
              case y3 =>
                intro wx hSx
                subst hSx
                go_simp
                try with_reducible rfl
              try simp only [Act.put, List.setIfInBounds_toArray, List.set_cons_zero, List.set_cons_succ]
              refine wpAnyH_take (i := 3) (v := ?v4) (at_op rfl) (by kernel_rfl) (by kernel_rfl) (by kernel_rfl) (fun _ _ _ h => h) (Or.inl ⟨by rfl, ?y4⟩) (by assumption) ?r4
              case y4 =>
                intro wx hSx
                subst hSx
                go_simp
                try with_reducible rfl
              try simp only [Act.put, List.setIfInBounds_toArray, List.set_cons_zero, List.set_cons_succ]
              refine wpAnyH_take (i := 5) (v := ?v5) (at_op rfl) (by kernel_rfl) (by kernel_rfl) (by kernel_rfl) (fun _ _ _ h => h) (Or.inl ⟨by rfl, ?y5⟩) (by assumption) ?r5
              case y5 =>
                intro wx hSx
                subst hSx
                go_simp
                try with_reducible rfl
              try simp only [Act.put, List.setIfInBounds_toArray, List.set_cons_zero, List.set_cons_succ]
              refine wpAnyH_take (i := 6) (v := ?v6) (at_op rfl) (by kernel_rfl) (by kernel_rfl) (by kernel_rfl) (fun _ _ _ h => h) (Or.inl ⟨by rfl, ?y6⟩) (by assumption) ?r6
              case y6 =>
                intro wx hSx
                subst hSx
                go_simp
                try with_reducible rfl
              try simp only [Act.put, List.setIfInBounds_toArray, List.set_cons_zero, List.set_cons_succ]
              refine wpAnyH_take (i := 7) (v := ?v7) (at_op rfl) (by kernel_rfl) (by kernel_rfl) (by kernel_rfl) (fun _ _ _ h => h) (Or.inl ⟨by rfl, ?y7⟩) (by assumption) ?r7
              case y7 =>
                intro wx hSx
                subst hSx
                go_simp
                try with_reducible rfl
              try simp only [Act.put, List.setIfInBounds_toArray, List.set_cons_zero, List.set_cons_succ]
              refine wpAnyH_take (i := 8) (v := ?v8) (at_op rfl) (by kernel_rfl) (by kernel_rfl) (by kernel_rfl) (fun _ _ _ h => h) (Or.inl ⟨by rfl, ?y8⟩) (by assumption) ?r8
              case y8 =>
                intro wx hSx
                subst hSx
                go_simp
                try with_reducible rfl
              try simp only [Act.put, List.setIfInBounds_toArray, List.set_cons_zero, List.set_cons_succ]
              refine wpAnyH_ready (rs := [4]) (by kernel_rfl) (by simp) ?_
              refine AllReadyH.cons (at_op rfl) (fun K hK => ?_) AllReadyH.nil
              go_simp
              refine (trimmed_spec x _ (by omega)).mono ?_
              rintro e w' ⟨rfl, rfl⟩
              go_wp2_with fail
              refine hK.out _ _ rfl (fun _ => ?_)
              clear hK K
              try simp only [Act.put, List.setIfInBounds_toArray, List.set_cons_zero, List.set_cons_succ]
              refine wpAnyH_take (i := 9) (v := ?v9) (at_op rfl) (by kernel_rfl) (by kernel_rfl) (by kernel_rfl) (fun _ _ _ h => h) (Or.inl ⟨by rfl, ?y9⟩) (by assumption) ?r9
              case y9 =>
                intro wx hSx
                subst hSx
                go_simp
                try with_reducible rfl
              try simp only [Act.put, List.setIfInBounds_toArray, List.set_cons_zero, List.set_cons_succ]
              refine wpAnyH_take (i := 10) (v := ?v10) (at_op rfl) (by kernel_rfl) (by kernel_rfl) (by kernel_rfl) (fun _ _ _ h => h) (Or.inl ⟨by rfl, ?y10⟩) (by assumption) ?r10
              case y10 =>
                intro wx hSx
                subst hSx
                go_simp
                try with_reducible rfl
              try simp only [Act.put, List.setIfInBounds_toArray, List.set_cons_zero, List.set_cons_succ]
              refine wpAnyH_take (i := 11) (v := undef) (at_op rfl) (by kernel_rfl) (by kernel_rfl) (by kernel_rfl) (fun _ _ _ h => h) (Or.inr ⟨by rfl, rfl⟩) (by assumption) ?_
              try simp only [Act.put, List.setIfInBounds_toArray, List.set_cons_zero, List.set_cons_succ]
              refine wpAnyH_take (i := 12) (v := undef) (at_op rfl) (by kernel_rfl) (by kernel_rfl) (by kernel_rfl) (fun _ _ _ h => h) (Or.inr ⟨by rfl, rfl⟩) (by assumption) ?_
              try simp only [Act.put, List.setIfInBounds_toArray, List.set_cons_zero, List.set_cons_succ]
              refine wpAnyH_take (i := 13) (v := undef) (at_op rfl) (by kernel_rfl) (by kernel_rfl) (by kernel_rfl) (fun _ _ _ h => h) (Or.inr ⟨by rfl, rfl⟩) (by assumption) ?_
              try simp only [Act.put, List.setIfInBounds_toArray, List.set_cons_zero, List.set_cons_succ]
              refine wpAnyH_take (i := 14) (v := undef) (at_op rfl) (by kernel_rfl) (by kernel_rfl) (by kernel_rfl) (fun _ _ _ h => h) (Or.inr ⟨by rfl, rfl⟩) (by assumption) ?_
              try simp only [Act.put, List.setIfInBounds_toArray, List.set_cons_zero, List.set_cons_succ]
              refine wpAnyH_take (i := 15) (v := undef) (at_op rfl) (by kernel_rfl) (by kernel_rfl) (by kernel_rfl) (fun _ _ _ h => h) (Or.inr ⟨by rfl, rfl⟩) (by assumption) ?_
              try simp only [Act.put, List.setIfInBounds_toArray, List.set_cons_zero, List.set_cons_succ]
              refine wpAnyH_take (i := 16) (v := undef) (at_op rfl) (by kernel_rfl) (by kernel_rfl) (by kernel_rfl) (fun _ _ _ h => h) (Or.inr ⟨by rfl, rfl⟩) (by assumption) ?_
              try simp only [Act.put, List.setIfInBounds_toArray, List.set_cons_zero, List.set_cons_succ]
              refine wpAnyH_take (i := 17) (v := ?v11) (at_op rfl) (by kernel_rfl) (by kernel_rfl) (by kernel_rfl) (fun _ _ _ h => h) (Or.inl ⟨by rfl, ?y11⟩) (by assumption) ?r11
              case y11 =>
                intro wx hSx
                subst hSx
                go_simp
                try with_reducible rfl
              try simp only [Act.put, List.setIfInBounds_toArray, List.set_cons_zero, List.set_cons_succ]
              refine wpAnyH_done (by kernel_rfl) ?_ _
              go_wp2
              go_ret
              exact ⟨ret_bool HR.out.symm, HB.drew⟩
            | false =>
            have HT := Lib.hid ((trimT_eq x).2 g2)
            cases g1 : plainB x with
            | false =>
              have HR := Lib.hid (HF.out (by rw [HI.out, lineOk, g1]; rfl))
              refine wp_region_held_drew (S := fun w' => w' = wr.drew) (by kernel_rfl) ?_ (fun hHeld => ?_)
              · exact rfl
              refine wpAnyH_take (i := 0) (v := ?v12) (at_op rfl) (by kernel_rfl) (by kernel_rfl) (by kernel_rfl) (fun _ _ _ h => h) (Or.inl ⟨by rfl, ?y12⟩) (by assumption) ?r12
              case y12 =>
                intro wx hSx
                subst hSx
                go_simp
                try with_reducible rfl
              try simp only [Act.put, List.setIfInBounds_toArray, List.set_cons_zero, List.set_cons_succ]
              refine wpAnyH_take (i := 1) (v := ?v13) (at_op rfl) (by kernel_rfl) (by kernel_rfl) (by kernel_rfl) (fun _ _ _ h => h) (Or.inl ⟨by rfl, ?y13⟩) (by assumption) ?r13
              case y13 =>
                intro wx hSx
                subst hSx
                go_simp
                try with_reducible rfl
              try simp only [Act.put, List.setIfInBounds_toArray, List.set_cons_zero, List.set_cons_succ]
              refine wpAnyH_take (i := 2) (v := ?v14) (at_op rfl) (by kernel_rfl) (by kernel_rfl) (by kernel_rfl) (fun _ _ _ h => h) (Or.inl ⟨by rfl, ?y14⟩) (by assumption) ?r14
              case y14 =>
                intro wx hSx
                subst hSx
                go_simp
                try with_reducible rfl
              try simp only [Act.put, List.setIfInBounds_toArray, List.set_cons_zero, List.set_cons_succ]
              refine wpAnyH_take (i := 3) (v := ?v15) (at_op rfl) (by kernel_rfl) (by kernel_rfl) (by kernel_rfl) (fun _ _ _ h => h) (Or.inl ⟨by rfl, ?y15⟩) (by assumption) ?r15
              case y15 =>
                intro wx hSx
                subst hSx
                go_simp
                try with_reducible rfl
              try simp only [Act.put, List.setIfInBounds_toArray, List.set_cons_zero, List.set_cons_succ]
              refine wpAnyH_take (i := 5) (v := ?v16) (at_op rfl) (by kernel_rfl) (by kernel_rfl) (by kernel_rfl) (fun _ _ _ h => h) (Or.inl ⟨by rfl, ?y16⟩) (by assumption) ?r16
              case y16 =>
                intro wx hSx
                subst hSx
                go_simp
                try with_reducible rfl
              try simp only [Act.put, List.setIfInBounds_toArray, List.set_cons_zero, List.set_cons_succ]
              refine wpAnyH_take (i := 6) (v := ?v17) (at_op rfl) (by kernel_rfl) (by kernel_rfl) (by kernel_rfl) (fun _ _ _ h => h) (Or.inl ⟨by rfl, ?y17⟩) (by assumption) ?r17
              case y17 =>
                intro wx hSx
                subst hSx
                go_simp
                try with_reducible rfl
              try simp only [Act.put, List.setIfInBounds_toArray, List.set_cons_zero, List.set_cons_succ]
              refine wpAnyH_take (i := 7) (v := ?v18) (at_op rfl) (by kernel_rfl) (by kernel_rfl) (by kernel_rfl) (fun _ _ _ h => h) (Or.inl ⟨by rfl, ?y18⟩) (by assumption) ?r18
              case y18 =>
                intro wx hSx
                subst hSx
                go_simp
                try with_reducible rfl
              try simp only [Act.put, List.setIfInBounds_toArray, List.set_cons_zero, List.set_cons_succ]
              refine wpAnyH_take (i := 8) (v := ?v19) (at_op rfl) (by kernel_rfl) (by kernel_rfl) (by kernel_rfl) (fun _ _ _ h => h) (Or.inl ⟨by rfl, ?y19⟩) (by assumption) ?r19
              case y19 =>
                intro wx hSx
                subst hSx
                go_simp
                try with_reducible rfl
              try simp only [Act.put, List.setIfInBounds_toArray, List.set_cons_zero, List.set_cons_succ]
              refine wpAnyH_ready (rs := [4]) (by kernel_rfl) (by simp) ?_
              refine AllReadyH.cons (at_op rfl) (fun K hK => ?_) AllReadyH.nil
              go_simp
              refine (trimmed_spec x _ (by omega)).mono ?_
              rintro e w' ⟨rfl, rfl⟩
              rw [HT.out]
              go_wp2_with fail
              refine hK.out _ _ rfl (fun _ => ?_)
              clear hK K
              try simp only [Act.put, List.setIfInBounds_toArray, List.set_cons_zero, List.set_cons_succ]
              refine wpAnyH_take (i := 9) (v := ?v20) (at_op rfl) (by kernel_rfl) (by kernel_rfl) (by kernel_rfl) (fun _ _ _ h => h) (Or.inl ⟨by rfl, ?y20⟩) (by assumption) ?r20
              case y20 =>
                intro wx hSx
                subst hSx
                go_simp
                try with_reducible rfl
              try simp only [Act.put, List.setIfInBounds_toArray, List.set_cons_zero, List.set_cons_succ]
              refine wpAnyH_take (i := 10) (v := ?v21) (at_op rfl) (by kernel_rfl) (by kernel_rfl) (by kernel_rfl) (fun _ _ _ h => h) (Or.inl ⟨by rfl, ?y21⟩) (by assumption) ?r21
              case y21 =>
                intro wx hSx
                subst hSx
                go_simp
                try with_reducible rfl
              try simp only [Act.put, List.setIfInBounds_toArray, List.set_cons_zero, List.set_cons_succ]
              refine wpAnyH_take (i := 11) (v := ?v22) (at_op rfl) (by kernel_rfl) (by kernel_rfl) (by kernel_rfl) (fun _ _ _ h => h) (Or.inl ⟨by rfl, ?y22⟩) (by assumption) ?r22
              case y22 =>
                intro wx hSx
                subst hSx
                go_simp
                try with_reducible rfl
              try simp only [Act.put, List.setIfInBounds_toArray, List.set_cons_zero, List.set_cons_succ]
              refine wpAnyH_take (i := 12) (v := ?v23) (at_op rfl) (by kernel_rfl) (by kernel_rfl) (by kernel_rfl) (fun _ _ _ h => h) (Or.inl ⟨by rfl, ?y23⟩) (by assumption) ?r23
              case y23 =>
                intro wx hSx
                subst hSx
                go_simp
                try with_reducible rfl
              try simp only [Act.put, List.setIfInBounds_toArray, List.set_cons_zero, List.set_cons_succ]
              refine wpAnyH_take (i := 13) (v := ?v24) (at_op rfl) (by kernel_rfl) (by kernel_rfl) (by kernel_rfl) (fun _ _ _ h => h) (Or.inl ⟨by rfl, ?y24⟩) (by assumption) ?r24
              case y24 =>
                intro wx hSx
                subst hSx
                go_simp
                try with_reducible rfl
              try simp only [Act.put, List.setIfInBounds_toArray, List.set_cons_zero, List.set_cons_succ]
              refine wpAnyH_take (i := 14) (v := ?v25) (at_op rfl) (by kernel_rfl) (by kernel_rfl) (by kernel_rfl) (fun _ _ _ h => h) (Or.inl ⟨by rfl, ?y25⟩) (by assumption) ?r25
              case y25 =>
                intro wx hSx
                subst hSx
                go_simp
                try with_reducible rfl
              try simp only [Act.put, List.setIfInBounds_toArray, List.set_cons_zero, List.set_cons_succ]
              refine wpAnyH_ready (rs := [15]) (by kernel_rfl) (by simp) ?_
              refine AllReadyH.cons (at_op rfl) (fun K hK => ?_) AllReadyH.nil
              go_simp
              refine (l08Plain_any x _ (by omega)).mono ?_
              rintro e w' ⟨rfl, rfl⟩
              rw [g1]
              go_wp2_with fail
              refine hK.out _ _ rfl (fun _ => ?_)
              clear hK K
              try simp only [Act.put, List.setIfInBounds_toArray, List.set_cons_zero, List.set_cons_succ]
              refine wpAnyH_take (i := 16) (v := ?v26) (at_op rfl) (by kernel_rfl) (by kernel_rfl) (by kernel_rfl) (fun _ _ _ h => h) (Or.inl ⟨by rfl, ?y26⟩) (by assumption) ?r26
              case y26 =>
                intro wx hSx
                subst hSx
                go_simp
                try with_reducible rfl
              try simp only [Act.put, List.setIfInBounds_toArray, List.set_cons_zero, List.set_cons_succ]
              refine wpAnyH_take (i := 17) (v := ?v27) (at_op rfl) (by kernel_rfl) (by kernel_rfl) (by kernel_rfl) (fun _ _ _ h => h) (Or.inl ⟨by rfl, ?y27⟩) (by assumption) ?r27
              case y27 =>
                intro wx hSx
                subst hSx
                go_simp
                try with_reducible rfl
              try simp only [Act.put, List.setIfInBounds_toArray, List.set_cons_zero, List.set_cons_succ]
              refine wpAnyH_done (by kernel_rfl) ?_ _
              go_wp2
              go_ret
              exact ⟨ret_bool HR.out.symm, HB.drew⟩
            | true =>
              have HI2 := Lib.hid (show neatS ls k = !(empB x && (decide (k + 1 = ls.length) || empB (atB ls (k + 1)))) by rw [HI.out, lineOk, g1, g2]; rfl)
              clear HI g2
              refine wp_region_held_drew (S := fun w' => w' = wr.drew) (by kernel_rfl) ?_ (fun hHeld => ?_)
              · exact rfl
              refine wpAnyH_take (i := 0) (v := ?v28) (at_op rfl) (by kernel_rfl) (by kernel_rfl) (by kernel_rfl) (fun _ _ _ h => h) (Or.inl ⟨by rfl, ?y28⟩) (by assumption) ?r28
              case y28 =>
                intro wx hSx
                subst hSx
                go_simp
                try with_reducible rfl
              try simp only [Act.put, List.setIfInBounds_toArray, List.set_cons_zero, List.set_cons_succ]
              refine wpAnyH_take (i := 1) (v := ?v29) (at_op rfl) (by kernel_rfl) (by kernel_rfl) (by kernel_rfl) (fun _ _ _ h => h) (Or.inl ⟨by rfl, ?y29⟩) (by assumption) ?r29
              case y29 =>
                intro wx hSx
                subst hSx
                go_simp
                try with_reducible rfl
              try simp only [Act.put, List.setIfInBounds_toArray, List.set_cons_zero, List.set_cons_succ]
              refine wpAnyH_take (i := 2) (v := ?v30) (at_op rfl) (by kernel_rfl) (by kernel_rfl) (by kernel_rfl) (fun _ _ _ h => h) (Or.inl ⟨by rfl, ?y30⟩) (by assumption) ?r30
              case y30 =>
                intro wx hSx
                subst hSx
                go_simp
                try with_reducible rfl
              try simp only [Act.put, List.setIfInBounds_toArray, List.set_cons_zero, List.set_cons_succ]
              refine wpAnyH_take (i := 3) (v := ?v31) (at_op rfl) (by kernel_rfl) (by kernel_rfl) (by kernel_rfl) (fun _ _ _ h => h) (Or.inl ⟨by rfl, ?y31⟩) (by assumption) ?r31
              case y31 =>
                intro wx hSx
                subst hSx
                go_simp
                try with_reducible rfl
              try simp only [Act.put, List.setIfInBounds_toArray, List.set_cons_zero, List.set_cons_succ]
              refine wpAnyH_take (i := 5) (v := ?v32) (at_op rfl) (by kernel_rfl) (by kernel_rfl) (by kernel_rfl) (fun _ _ _ h => h) (Or.inl ⟨by rfl, ?y32⟩) (by assumption) ?r32
              case y32 =>
                intro wx hSx
                subst hSx
                go_simp
                try with_reducible rfl
              try simp only [Act.put, List.setIfInBounds_toArray, List.set_cons_zero, List.set_cons_succ]
              refine wpAnyH_take (i := 6) (v := ?v33) (at_op rfl) (by kernel_rfl) (by kernel_rfl) (by kernel_rfl) (fun _ _ _ h => h) (Or.inl ⟨by rfl, ?y33⟩) (by assumption) ?r33
              case y33 =>
                intro wx hSx
                subst hSx
                go_simp
                try with_reducible rfl
              try simp only [Act.put, List.setIfInBounds_toArray, List.set_cons_zero, List.set_cons_succ]
              refine wpAnyH_take (i := 7) (v := ?v34) (at_op rfl) (by kernel_rfl) (by kernel_rfl) (by kernel_rfl) (fun _ _ _ h => h) (Or.inl ⟨by rfl, ?y34⟩) (by assumption) ?r34
              case y34 =>
                intro wx hSx
                subst hSx
                go_simp
                try with_reducible rfl
              try simp only [Act.put, List.setIfInBounds_toArray, List.set_cons_zero, List.set_cons_succ]
              refine wpAnyH_take (i := 8) (v := ?v35) (at_op rfl) (by kernel_rfl) (by kernel_rfl) (by kernel_rfl) (fun _ _ _ h => h) (Or.inl ⟨by rfl, ?y35⟩) (by assumption) ?r35
              case y35 =>
                intro wx hSx
                subst hSx
                go_simp
                try with_reducible rfl
              try simp only [Act.put, List.setIfInBounds_toArray, List.set_cons_zero, List.set_cons_succ]
              refine wpAnyH_ready (rs := [4]) (by kernel_rfl) (by simp) ?_
              refine AllReadyH.cons (at_op rfl) (fun K hK => ?_) AllReadyH.nil
              go_simp
              refine (trimmed_spec x _ (by omega)).mono ?_
              rintro e w' ⟨rfl, rfl⟩
              rw [HT.out]
              go_wp2_with fail
              refine hK.out _ _ rfl (fun _ => ?_)
              clear hK K
              try simp only [Act.put, List.setIfInBounds_toArray, List.set_cons_zero, List.set_cons_succ]
              refine wpAnyH_take (i := 9) (v := ?v36) (at_op rfl) (by kernel_rfl) (by kernel_rfl) (by kernel_rfl) (fun _ _ _ h => h) (Or.inl ⟨by rfl, ?y36⟩) (by assumption) ?r36
              case y36 =>
                intro wx hSx
                subst hSx
                go_simp
                try with_reducible rfl
              try simp only [Act.put, List.setIfInBounds_toArray, List.set_cons_zero, List.set_cons_succ]
              refine wpAnyH_take (i := 10) (v := ?v37) (at_op rfl) (by kernel_rfl) (by kernel_rfl) (by kernel_rfl) (fun _ _ _ h => h) (Or.inl ⟨by rfl, ?y37⟩) (by assumption) ?r37
              case y37 =>
                intro wx hSx
                subst hSx
                go_simp
                try with_reducible rfl
              try simp only [Act.put, List.setIfInBounds_toArray, List.set_cons_zero, List.set_cons_succ]
              refine wpAnyH_take (i := 11) (v := ?v38) (at_op rfl) (by kernel_rfl) (by kernel_rfl) (by kernel_rfl) (fun _ _ _ h => h) (Or.inl ⟨by rfl, ?y38⟩) (by assumption) ?r38
              case y38 =>
                intro wx hSx
                subst hSx
                go_simp
                try with_reducible rfl
              try simp only [Act.put, List.setIfInBounds_toArray, List.set_cons_zero, List.set_cons_succ]
              refine wpAnyH_take (i := 12) (v := ?v39) (at_op rfl) (by kernel_rfl) (by kernel_rfl) (by kernel_rfl) (fun _ _ _ h => h) (Or.inl ⟨by rfl, ?y39⟩) (by assumption) ?r39
              case y39 =>
                intro wx hSx
                subst hSx
                go_simp
                try with_reducible rfl
              try simp only [Act.put, List.setIfInBounds_toArray, List.set_cons_zero, List.set_cons_succ]
              refine wpAnyH_take (i := 13) (v := ?v40) (at_op rfl) (by kernel_rfl) (by kernel_rfl) (by kernel_rfl) (fun _ _ _ h => h) (Or.inl ⟨by rfl, ?y40⟩) (by assumption) ?r40
              case y40 =>
                intro wx hSx
                subst hSx
                go_simp
                try with_reducible rfl
              try simp only [Act.put, List.setIfInBounds_toArray, List.set_cons_zero, List.set_cons_succ]
              refine wpAnyH_take (i := 14) (v := ?v41) (at_op rfl) (by kernel_rfl) (by kernel_rfl) (by kernel_rfl) (fun _ _ _ h => h) (Or.inl ⟨by rfl, ?y41⟩) (by assumption) ?r41
              case y41 =>
                intro wx hSx
                subst hSx
                go_simp
                try with_reducible rfl
              try simp only [Act.put, List.setIfInBounds_toArray, List.set_cons_zero, List.set_cons_succ]
              refine wpAnyH_ready (rs := [15]) (by kernel_rfl) (by simp) ?_
              refine AllReadyH.cons (at_op rfl) (fun K hK => ?_) AllReadyH.nil
              go_simp
              refine (l08Plain_any x _ (by omega)).mono ?_
              rintro e w' ⟨rfl, rfl⟩
              rw [g1]
              go_wp2_with fail
              refine hK.out _ _ rfl (fun _ => ?_)
              clear hK K
              try simp only [Act.put, List.setIfInBounds_toArray, List.set_cons_zero, List.set_cons_succ]
              refine wpAnyH_take (i := 16) (v := ?v42) (at_op rfl) (by kernel_rfl) (by kernel_rfl) (by kernel_rfl) (fun _ _ _ h => h) (Or.inl ⟨by rfl, ?y42⟩) (by assumption) ?r42
              case y42 =>
                intro wx hSx
                subst hSx
                go_simp
                try with_reducible rfl
              try simp only [Act.put, List.setIfInBounds_toArray, List.set_cons_zero, List.set_cons_succ]
              refine wpAnyH_take (i := 17) (v := ?v43) (at_op rfl) (by kernel_rfl) (by kernel_rfl) (by kernel_rfl) (fun _ _ _ h => h) (Or.inl ⟨by rfl, ?y43⟩) (by assumption) ?r43
              case y43 =>
                intro wx hSx
                subst hSx
                go_simp
                try with_reducible rfl
              try simp only [Act.put, List.setIfInBounds_toArray, List.set_cons_zero, List.set_cons_succ]
              refine wpAnyH_done (by kernel_rfl) ?_ _
              by_cases hx : x = ⟨#[]⟩
              · have hx0 := emp_yes hx
                have HX := Lib.hid (empB_yes hx)
                clear hx g1
                by_cases hn : k + 1 = ls.length
                · have hne : ((k : Int) + 1 == (ls.length : Int)) = true := by rw [beq_iff_eq]; omega
                  have HR := Lib.hid (HF.out (by rw [HI2.out, HX.out, decide_eq_true hn]; simp))
                  clear hn
                  go_wp2
                  go_ret
                  exact ⟨ret_bool HR.out.symm, HB.drew⟩
                · have hne : ((k : Int) + 1 == (ls.length : Int)) = false := beq_eq_false_iff_ne.2 (by omega)
                  have hq : k + 1 < ls.length := by omega
                  obtain ⟨b2, off2, e5, _, hh2, c2⟩ := h5 (k + 1) hq
                  injection e5 with e5
                  injection e5 with e3 e4
                  subst e3; subst e4
                  have HP := Lib.hid (show atB ls (k + 1) = ls[k + 1] from atB_lt hq)
                  have d2 : wr.cell? ⟨b, off + (k + 1), none⟩ = some (.string ls[k + 1]) := (hb.cell (p := ⟨b, off + (k + 1), none⟩) hh2).trans c2
                  have hq0 : (0 : Int) ≤ (k : Int) + 1 := by omega
                  have hqi : (k : Int) + 1 < (ls.length : Int) := by omega
                  have hqn : ((k : Int) + 1).toNat = k + 1 := by omega
                  clear c2
                  generalize ls[k + 1] = y at *
                  by_cases hy : y = ⟨#[]⟩
                  · have hy0 := emp_yes hy
                    have HR := Lib.hid (HF.out (by rw [HI2.out, HX.out, HP.out, empB_yes hy]; simp))
                    clear hn hy
                    go_wp2
                    go_ret
                    exact ⟨ret_bool HR.out.symm, HB.drew⟩
                  · have hy0 := emp_no hy
                    have HR := Lib.hid (show neatS ls k = true by rw [HI2.out, HX.out, HP.out, empB_no hy, decide_eq_false hn]; rfl)
                    clear hn hy
                    go_wp2
                    go_roundw
                    case rel => exact ⟨k + 1, by omega, by go_num, range_succ HA.out HR.out, hb.drew⟩
                    case measure => simp [intOf]; omega
              · have hx0 := emp_no hx
                have HR := Lib.hid (show neatS ls k = true by rw [HI2.out, empB_no hx]; rfl)
                clear hx g1
                go_wp2
                go_roundw
                case rel => exact ⟨k + 1, by omega, by go_num, range_succ HA.out HR.out, hb.drew⟩
                case measure => simp [intOf]; omega
          · have hki : ¬ (k : Int) < (ls.length : Int) := by omega
            have HR := Lib.hid (show neatB s = true by rw [HE.out]; have e := HA.out; rw [show k = ls.length by omega] at e; exact e)
            go_wp2
            go_ret
            exact ⟨ret_bool HR.out.symm, HB⟩
    · have t1 : ((s[s.size - 1].toNat : Int) != 10) = true := bne_iff_ne.2 (fun h => hlb (u8_ten.1 h))
      have HE := Lib.hid (show neatB s = false by
        have e : (s[s.size - 1] == 10) = false := by simpa using hlb
        rw [neatB, HE0.out, HLA.out, e]; rfl)
      clear hlb
      go_enter Tryd.func24, Tryd.ntmps24
      go_wp2
      go_ret
      exact ⟨ret_bool HE.out.symm, Below.refl _ _⟩
end Go.Proofs.YtgcgipbjmobekaaDoor
