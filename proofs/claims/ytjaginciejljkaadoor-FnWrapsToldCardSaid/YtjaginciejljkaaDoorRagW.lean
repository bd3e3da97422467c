/- BestWrap of the program and of the reference. -/
import Derived.Test.YtjaginciejljkaaDoorRagV
namespace Go.Proofs.YtjaginciejljkaaDoor
open Go.RowKit

theorem bestL_no {ws : List ByteArray} {width : Int} (h : okWords ws = false) : bestL ws width = [] := by unfold bestL; rw [if_neg (by rw [h]; decide)]
theorem bestL_yes {ws : List ByteArray} {width : Int} (h : okWords ws = true) : bestL ws width = bestI ws width 0 := by unfold bestL; rw [if_pos h]; rfl
theorem joinT_data (ws : List ByteArray) (i : Nat) : ∀ t, 1 ≤ t → i + t ≤ ws.length → (joinL ws i t).data.toList = Lib.join (((ws.drop i).take t).map (·.data.toList)) [32]
  | 0, h, _ => by omega
  | 1, _, h => by
    rw [take_snoc (t := 0) (by omega), List.take_zero, List.nil_append, List.map_cons, List.map_nil, Lib.join_one]; rfl
  | t + 2, _, h => by
    have ih := joinT_data ws i (t + 1) (by omega) (by omega)
    rw [take_snoc (by omega), List.map_append, List.map_cons, List.map_nil, joinL, app_dat, app_dat, ih]
    have hne : (ws.drop i).take (t + 1) ≠ [] := by
      intro e
      have := congrArg List.length e
      rw [List.length_take, List.length_drop] at this
      simp at this
      omega
    obtain ⟨x, r, e⟩ := List.exists_cons_of_ne_nil hne
    rw [e, List.map_cons]
    show _ = Lib.join (x.data.toList :: (r.map (·.data.toList) ++ [(ws.getD (i + (t + 1)) ⟨#[]⟩).data.toList])) [32]
    rw [Lib.join_cons, Lib.join_cons]
    unfold Lib.joinTail
    rw [List.map_append, List.flatten_append, List.append_assoc]
    simp [Nat.add_assoc]
theorem joinT (ws : List ByteArray) (i t : Nat) (h1 : 1 ≤ t) (h2 : i + t ≤ ws.length) : (⟨(Lib.join (((ws.drop i).take t).map (·.data.toList)) [32]).toArray⟩ : ByteArray) = joinL ws i t := by
  rw [← joinT_data ws i t h1 h2]
theorem lineS_pos {ws : List ByteArray} (i : Nat) : ∀ t, 1 ≤ t → 0 ≤ lineS ws i t
  | 0, h => by omega
  | t + 1, _ => by
    have := lineS_ge (ws := ws) i t
    rw [lineS]; unfold szA; omega
set_option maxHeartbeats 4000000 in
set_option maxRecDepth 100000 in
theorem bestWrap_impl {ws : List ByteArray} {v : Value} {lo hi : Nat} {w : World} (width : Int) (hr : Rd strF.shape lo hi w v ws) (hh : hi ≤ w.heap.size) (hz : ∀ x ∈ ws, x.size ≤ 1000) (hI : I64 width) :
    Calls Tryd.prog 9 #[v, .int .i64 width] w fun e w' => ∃ u, e = .returned u ∧ Below w.heap.size w w' ∧ Own strF 9 w.heap.size w'.heap.size w' u (bestL ws width) := by
  obtain ⟨i0, hi0, hz0, hz1, hz2⟩ := info_parts Tryd.infoStr1
  have HN := Lib.hid (bestL_no (ws := ws) (width := width))
  have HY := Lib.hid (bestL_yes (ws := ws) (width := width))
  have HK := Lib.hid (ok_len (ws := ws))
  have HW := Lib.hid (wordsOk_impl hr)
  have HT := Lib.hid (fun h => leastFrom_impl width hr hh h hz hI)
  have HZ := Lib.hid hz
  have HI := Lib.hid hI
  obtain ⟨B, HB⟩ : ∃ B, Hid (B = w.heap.size) := ⟨_, rfl⟩
  have hBw : B ≤ w.heap.size := Nat.le_of_eq HB.out
  have hBw' : w.heap.size ≤ B := Nat.le_of_eq HB.out.symm
  obtain ⟨bo, hbo⟩ : ∃ bo, Hid (okWords ws = bo) := ⟨_, rfl⟩
  rw [hbo.out] at HN HY HK HW
  obtain ⟨a, c, rfl, h2, h3, h4, h5⟩ := hr.strF
  unfold maxLen at h3
  clear hz hI
  go_enter Tryd.func9, Tryd.ntmps9
  go_wp2_with fail
  refine HW.out.mono ?_
  rintro e w' ⟨rfl, rfl⟩
  cases bo with
  | false =>
    have HF := Lib.hid (HN.out rfl)
    go_wp2
    go_ret
    refine ⟨_, rfl, Below.refl _ _, ?_⟩
    rw [HF.out]
    exact Own.nil _ _ _ _ _
  | true =>
    have HF := Lib.hid (HY.out rfl)
    have hn := HK.out rfl
    have HT1 := Lib.hid (HT.out hn)
    go_wp2_with fail
    refine HT1.out.mono ?_
    rintro e w2 ⟨rfl, hb2, hO⟩
    have hs2 := hO.size
    have HC := Lib.hid (fun w4 (h4 : Below w2.heap.size w2 w4) q (hq : q < ws.length + 1) => (h4.cell (p := ⟨w.heap.size, q, none⟩) (by show w.heap.size < _; omega)).trans ((hO.cell hq).trans (show some (Value.int .i64 ((tabK ws width ws.length).getD q 0)) = some (Value.int .i64 (leastF ws width q)) from rfl)))
    have HBD := Lib.hid (fun q => (show 0 ≤ leastF ws width q ∧ leastF ws width q ≤ 10000000 * (ws.length : Int) from tab_bound ws.length q))
    have hGB : w.heap.size < w2.heap.size := hs2
    clear hO
    generalize hG : w.heap.size = G at *
    go_wp2
    go_loopw [6, 7] (fun out i wr => ∃ (q : Nat) (ls : List ByteArray), q ≤ ws.length ∧ i = .int .i64 q ∧ Below w2.heap.size w2 wr ∧ Own strF 9 w2.heap.size wr.heap.size wr out ls ∧ ls.length ≤ q ∧ Hid (ls ++ bestI ws width q = bestI ws width 0)) (fun _ i _ => ws.length - (intOf i).toNat)
    case atStart => exact ⟨0, [], Nat.zero_le _, rfl, Below.refl _ _, Own.nil _ _ _ _ _, Nat.le_refl _, rfl⟩
    case round =>
      obtain ⟨i, ls, hi, rfl, hb, hO, hll, HL⟩ := hrel
      have hsz := hb.size
      by_cases hlt : i < ws.length
      · have hii : (i : Int) < (ws.length : Int) := by omega
        have hiz : (0 : Int) ≤ (i : Int) := by omega
        have hii1 : (i : Int) < (ws.length : Int) + 1 := by omega
        obtain ⟨b, off, rfl, hlo, hhi, c0⟩ := h5 i hlt
        have d0 := (hb.cell (p := ⟨b, _, none⟩) (by show b < _; omega)).trans ((hb2.cell (p := ⟨b, _, none⟩) (by show b < _; omega)).trans c0)
        obtain ⟨t, et, ht1, ht2, hte, htn, _⟩ := best_at (width := width) hlt
        have HST := Lib.hid (bestI_step hlt et)
        have HTE := Lib.hid hte
        have HTN := Lib.hid htn
        have HLT : Hid (lineS ws i t ≤ 61000) := by have := lineS_le HZ.out i t; show _ ≤ _; omega
        have HL1 : Hid (lineS ws i 1 = (ws[i].size : Int)) := by show _ = _; rw [lineS, lineS]; unfold szA; rw [getD_at (by omega)]; simp only [Nat.add_zero]; omega
        have hx1 := HZ.out _ (List.getElem_mem hlt)
        clear et hte htn c0
        have uci := fun wr (h : Below w2.heap.size w2 wr) => HC.out wr h i (by omega)
        have UCI := Lib.hid uci
        clear uci
        obtain ⟨lv1, lv2⟩ := HBD.out i
        generalize hlv : leastF ws width i = lv at *
        have HLV := Lib.hid hlv
        clear hlv
        obtain ⟨wz, rfl⟩ : ∃ wz, wz = wr := ⟨_, rfl⟩
        have hbz := hb.size
        have HSTR := Lib.hid (fun wr (h : Below w2.heap.size w2 wr) q (hq : q < ws.length) => (show wr.cell? ⟨b, off + q, none⟩ = some (.string ws[q]) from (by
          obtain ⟨b', off', eb, _, hh', c1⟩ := h5 q hq
          injection eb with eb
          injection eb with e1 e2
          subst e1; subst e2
          exact (h.cell (p := ⟨b, _, none⟩) (by show b < _; omega)).trans ((hb2.cell (p := ⟨b, _, none⟩) (by show b < _; omega)).trans c1))))
        go_wp2
        clear d0
        go_loopw [8, 9] (fun sz j wr => ∃ (s j' : Nat), Hid (j' + 1 = i + s) ∧ 1 ≤ s ∧ s ≤ t ∧ j' < ws.length ∧ sz = .int .i64 (lineS ws i s) ∧ j = .int .i64 j' ∧ Below wz.heap.size wz wr) (fun _ j _ => ws.length - (intOf j).toNat)
        case atStart => exact ⟨1, i, rfl, Nat.le_refl _, ht1, hlt, by rw [HL1.out], rfl, Below.refl _ _⟩
        case round =>
          obtain ⟨s, j, HJ, hs1, hst, hj, rfl, rfl, hbw⟩ := hrel
          have hsw := hbw.size
          have hbr : Below w2.heap.size w2 wr := hb.trans (hbw.mono hsz)
          have hji : (j : Int) < (ws.length : Int) := by omega
          have hjz : (0 : Int) ≤ (j : Int) := by omega
          have hji1 : (j : Int) + 1 < (ws.length : Int) + 1 := by omega
          have hjz1 : (0 : Int) ≤ (j : Int) + 1 := by omega
          have e1 : ((j : Int) + 1).toNat = j + 1 := by omega
          have e2 : IntKind.i64.wrap ((j : Int) + 1) = (j : Int) + 1 := IntWalk.i64_in _ (by omega)
          have e3 : IntKind.i64.wrap ((ws.length : Int) - 1) = (ws.length : Int) - 1 := IntWalk.i64_in _ (by omega)
          obtain ⟨bl, hbl⟩ : ∃ bl, ((j : Int) == (ws.length : Int) - 1) = bl := ⟨_, rfl⟩
          have hdl : decide (i + s = ws.length) = bl := by
            have := HJ.out
            rw [← hbl]
            by_cases e : i + s = ws.length
            · rw [decide_eq_true e, beq_iff_eq.2 (by omega)]
            · rw [decide_eq_false e, beq_eq_false_iff_ne.2 (by omega)]
          have HCT : Hid (cstF ws width i s = ragI (lineS ws i s) width bl + leastF ws width (j + 1)) := by
            have := HJ.out
            show _ = _
            unfold cstF
            rw [hdl, show i + s = j + 1 by omega]
          have uc1 := HC.out wr hbr (j + 1) (by omega)
          have uc2 := UCI.out wr hbr
          obtain ⟨tv1, tv2⟩ := HBD.out (j + 1)
          have hl1 := lineS_ge (ws := ws) i s
          have hl2 := lineS_le HZ.out i s
          have hl3 : lineS ws i s ≤ 61000 := by omega
          have hr1 := ragI_ge (lineS ws i s) width bl
          have hr2 := ragI_le (lineS ws i s) width bl
          have HLR := Lib.hid (fun w => lineRag_any (lineS ws i s) width bl w (by omega) (by omega) HI.out)
          have HEQ : Hid (s = t → ragI (lineS ws i s) width bl + leastF ws width (j + 1) = lv) := fun e => by rw [← HCT.out, HTE.out, e]
          have HNE : Hid (s < t → ragI (lineS ws i s) width bl + leastF ws width (j + 1) ≠ lv) := fun h => by rw [← HCT.out]; exact HTN.out s hs1 h
          have HLS : Hid (j + 1 < ws.length → lineS ws i (s + 1) = lineS ws i s + (1 + ((ws.getD (j + 1) ⟨#[]⟩).size : Int))) := fun _ => by
            have := HJ.out
            rw [lineS]; unfold szA; rw [show i + s = j + 1 by omega]
          have HSJ := Lib.hid (HSTR.out wr hbr (j + 1))
          clear hdl hl2 HCT
          generalize leastF ws width (j + 1) = tv at *
          generalize ragI (lineS ws i s) width bl = rg at *
          generalize lineS ws i s = z0 at *
          have e4 : IntKind.i64.wrap (rg + tv) = rg + tv := IntWalk.i64_in _ (by omega)
          by_cases hse : s = t
          · have hq := HEQ.out hse
            have hne : (rg + tv != lv) = false := by rw [hq]; exact bne_self_eq_false' _
            clear hq
            have hij : (i : Int) ≤ (j : Int) + 1 := by have := HJ.out; omega
            have hjc : (j : Int) + 1 ≤ (c : Int) := by omega
            have hjt : j + 1 = i + t := by have := HJ.out; omega
            have HJT := Lib.hid hjt
            clear hjt
            go_wp2_with fail
            refine wp_region_held_drew (S := fun w' => w' = wr.drew) (by kernel_rfl) ?_ (fun hHeld => ?_)
            · exact rfl
            refine wpAnyH_take (i := 0) (v := ?v1) (at_op rfl) (by kernel_rfl) (by kernel_rfl) (by kernel_rfl) (fun _ _ _ h => h) (Or.inl ⟨by rfl, ?y1⟩) (by assumption) ?r1
            case y1 =>
              intro wx hSx
              subst hSx
              go_simp
              try with_reducible rfl
            try simp only [Act.put, List.setIfInBounds_toArray, List.set_cons_zero, List.set_cons_succ]
            refine wpAnyH_take (i := 1) (v := ?v2) (at_op rfl) (by kernel_rfl) (by kernel_rfl) (by kernel_rfl) (fun _ _ _ h => h) (Or.inl ⟨by rfl, ?y2⟩) (by assumption) ?r2
            case y2 =>
              intro wx hSx
              subst hSx
              go_simp
              try with_reducible rfl
            try simp only [Act.put, List.setIfInBounds_toArray, List.set_cons_zero, List.set_cons_succ]
            refine wpAnyH_take (i := 2) (v := ?v3) (at_op rfl) (by kernel_rfl) (by kernel_rfl) (by kernel_rfl) (fun _ _ _ h => h) (Or.inl ⟨by rfl, ?y3⟩) (by assumption) ?r3
            case y3 =>
              intro wx hSx
              subst hSx
              go_simp
              try with_reducible rfl
            try simp only [Act.put, List.setIfInBounds_toArray, List.set_cons_zero, List.set_cons_succ]
            refine wpAnyH_take (i := 3) (v := ?v4) (at_op rfl) (by kernel_rfl) (by kernel_rfl) (by kernel_rfl) (fun _ _ _ h => h) (Or.inl ⟨by rfl, ?y4⟩) (by assumption) ?r4
            case y4 =>
              intro wx hSx
              subst hSx
              go_simp
              try with_reducible rfl
            try simp only [Act.put, List.setIfInBounds_toArray, List.set_cons_zero, List.set_cons_succ]
            refine wpAnyH_take (i := 4) (v := ?v5) (at_op rfl) (by kernel_rfl) (by kernel_rfl) (by kernel_rfl) (fun _ _ _ h => h) (Or.inl ⟨by rfl, ?y5⟩) (by assumption) ?r5
            case y5 =>
              intro wx hSx
              subst hSx
              go_simp
              try with_reducible rfl
            try simp only [Act.put, List.setIfInBounds_toArray, List.set_cons_zero, List.set_cons_succ]
            refine wpAnyH_take (i := 5) (v := ?v6) (at_op rfl) (by kernel_rfl) (by kernel_rfl) (by kernel_rfl) (fun _ _ _ h => h) (Or.inl ⟨by rfl, ?y6⟩) (by assumption) ?r6
            case y6 =>
              intro wx hSx
              subst hSx
              go_simp
              try with_reducible rfl
            try simp only [Act.put, List.setIfInBounds_toArray, List.set_cons_zero, List.set_cons_succ]
            refine wpAnyH_take (i := 6) (v := ?v7) (at_op rfl) (by kernel_rfl) (by kernel_rfl) (by kernel_rfl) (fun _ _ _ h => h) (Or.inl ⟨by rfl, ?y7⟩) (by assumption) ?r7
            case y7 =>
              intro wx hSx
              subst hSx
              go_simp
              try with_reducible rfl
            try simp only [Act.put, List.setIfInBounds_toArray, List.set_cons_zero, List.set_cons_succ]
            refine wpAnyH_take (i := 8) (v := ?v8) (at_op rfl) (by kernel_rfl) (by kernel_rfl) (by kernel_rfl) (fun _ _ _ h => h) (Or.inl ⟨by rfl, ?y8⟩) (by assumption) ?r8
            case y8 =>
              intro wx hSx
              subst hSx
              go_simp
              try with_reducible rfl
            try simp only [Act.put, List.setIfInBounds_toArray, List.set_cons_zero, List.set_cons_succ]
            refine wpAnyH_take (i := 9) (v := ?v9) (at_op rfl) (by kernel_rfl) (by kernel_rfl) (by kernel_rfl) (fun _ _ _ h => h) (Or.inl ⟨by rfl, ?y9⟩) (by assumption) ?r9
            case y9 =>
              intro wx hSx
              subst hSx
              go_simp
              try with_reducible rfl
            try simp only [Act.put, List.setIfInBounds_toArray, List.set_cons_zero, List.set_cons_succ]
            refine wpAnyH_take (i := 10) (v := ?v10) (at_op rfl) (by kernel_rfl) (by kernel_rfl) (by kernel_rfl) (fun _ _ _ h => h) (Or.inl ⟨by rfl, ?y10⟩) (by assumption) ?r10
            case y10 =>
              intro wx hSx
              subst hSx
              go_simp
              try with_reducible rfl
            try simp only [Act.put, List.setIfInBounds_toArray, List.set_cons_zero, List.set_cons_succ]
            refine wpAnyH_take (i := 11) (v := ?v11) (at_op rfl) (by kernel_rfl) (by kernel_rfl) (by kernel_rfl) (fun _ _ _ h => h) (Or.inl ⟨by rfl, ?y11⟩) (by assumption) ?r11
            case y11 =>
              intro wx hSx
              subst hSx
              go_simp
              try with_reducible rfl
            try simp only [Act.put, List.setIfInBounds_toArray, List.set_cons_zero, List.set_cons_succ]
            refine wpAnyH_take (i := 12) (v := ?v12) (at_op rfl) (by kernel_rfl) (by kernel_rfl) (by kernel_rfl) (fun _ _ _ h => h) (Or.inl ⟨by rfl, ?y12⟩) (by assumption) ?r12
            case y12 =>
              intro wx hSx
              subst hSx
              go_simp
              try with_reducible rfl
            try simp only [Act.put, List.setIfInBounds_toArray, List.set_cons_zero, List.set_cons_succ]
            refine wpAnyH_take (i := 14) (v := ?v13) (at_op rfl) (by kernel_rfl) (by kernel_rfl) (by kernel_rfl) (fun _ _ _ h => h) (Or.inl ⟨by rfl, ?y13⟩) (by assumption) ?r13
            case y13 =>
              intro wx hSx
              subst hSx
              go_simp
              try with_reducible rfl
            try simp only [Act.put, List.setIfInBounds_toArray, List.set_cons_zero, List.set_cons_succ]
            refine wpAnyH_take (i := 15) (v := ?v14) (at_op rfl) (by kernel_rfl) (by kernel_rfl) (by kernel_rfl) (fun _ _ _ h => h) (Or.inl ⟨by rfl, ?y14⟩) (by assumption) ?r14
            case y14 =>
              intro wx hSx
              subst hSx
              go_simp
              try with_reducible rfl
            try simp only [Act.put, List.setIfInBounds_toArray, List.set_cons_zero, List.set_cons_succ]
            refine wpAnyH_take (i := 16) (v := ?v15) (at_op rfl) (by kernel_rfl) (by kernel_rfl) (by kernel_rfl) (fun _ _ _ h => h) (Or.inl ⟨by rfl, ?y15⟩) (by assumption) ?r15
            case y15 =>
              intro wx hSx
              subst hSx
              go_simp
              try with_reducible rfl
            try simp only [Act.put, List.setIfInBounds_toArray, List.set_cons_zero, List.set_cons_succ]
            refine wpAnyH_take (i := 17) (v := ?v16) (at_op rfl) (by kernel_rfl) (by kernel_rfl) (by kernel_rfl) (fun _ _ _ h => h) (Or.inl ⟨by rfl, ?y16⟩) (by assumption) ?r16
            case y16 =>
              intro wx hSx
              subst hSx
              go_simp
              try with_reducible rfl
            try simp only [Act.put, List.setIfInBounds_toArray, List.set_cons_zero, List.set_cons_succ]
            refine wpAnyH_ready (rs := [7]) (by kernel_rfl) (by simp) ?_
            refine AllReadyH.cons (at_op rfl) (fun K hK => ?_) AllReadyH.nil
            go_simp
            refine (HLR.out _).mono ?_
            rintro e w' ⟨rfl, rfl⟩
            go_wp2_with fail
            refine hK.out _ _ rfl (fun _ => ?_)
            clear hK K
            try simp only [Act.put, List.setIfInBounds_toArray, List.set_cons_zero, List.set_cons_succ]
            refine wpAnyH_take (i := 13) (v := ?v17) (at_op rfl) (by kernel_rfl) (by kernel_rfl) (by kernel_rfl) (fun _ _ _ h => h) (Or.inl ⟨by rfl, ?y17⟩) (by assumption) ?r17
            case y17 =>
              intro wx hSx
              subst hSx
              go_simp
              try with_reducible rfl
            try simp only [Act.put, List.setIfInBounds_toArray, List.set_cons_zero, List.set_cons_succ]
            refine wpAnyH_take (i := 18) (v := ?v18) (at_op rfl) (by kernel_rfl) (by kernel_rfl) (by kernel_rfl) (fun _ _ _ h => h) (Or.inl ⟨by rfl, ?y18⟩) (by assumption) ?r18
            case y18 =>
              intro wx hSx
              subst hSx
              go_simp
              try with_reducible rfl
            try simp only [Act.put, List.setIfInBounds_toArray, List.set_cons_zero, List.set_cons_succ]
            refine wpAnyH_done (by kernel_rfl) ?_ _
            have hbd := hbw.drew
            have hbrd := hbr.drew
            clear hbw hbr uc1 uc2
            generalize wr.drew = wd at *
            have hsd := hbrd.size
            have hsd2 := hbd.size
            go_wp2_with fail
            have hxl : ((ws.drop i).take t).length = t := by rw [List.length_take, List.length_drop]; omega
            rw [show j + 1 - i = ((ws.drop i).take t).length by rw [hxl]; have := HJT.out; omega]
            refine (Tryd.strings_Join b (off + i) (c - i) ((ws.drop i).take t) ⟨#[32]⟩ wd ?hc (by omega) (by rw [hxl]; omega) (by rw [hxl]; omega) ?hlen).mono ?_
            case hc =>
              intro q x hq
              have hq' : q < t := by have := (List.getElem?_eq_some_iff.1 hq).1; rw [hxl] at this; exact this
              have e : x = ws[i + q] := by
                rw [List.getElem?_take, if_pos hq', List.getElem?_drop] at hq
                exact ((List.getElem?_eq_some_iff.1 hq).2).symm
              rw [Nat.add_assoc, e]
              exact HSTR.out wd hbrd (i + q) (by omega)
            case hlen =>
              have e1 := joinL_size (ws := ws) i t ht1
              have e2 := HLT.out
              have e3 := joinT_data ws i t ht1 ht2
              show (Lib.join _ [32]).length ≤ _
              rw [← e3, ← size_list]
              omega
            rintro e w5 ⟨rfl, hb5⟩
            have hs5 := hb5.size
            have HJN : Hid ((⟨(Lib.join (((ws.drop i).take t).map (·.data.toList)) (⟨#[32]⟩ : ByteArray).data.toList).toArray⟩ : ByteArray) = joinL ws i t) := joinT ws i t ht1 ht2
            rw [HJN.out]
            clear HJN hxl
            have hO5 := (hO.below (hbd.trans (hb5.mono (by omega))) (Nat.le_refl _)).up
            have HLN : Hid (ls ++ [joinL ws i t] ++ bestI ws width (i + t) = bestI ws width 0) := by have e := HL.out; rw [HST.out] at e; show _ = _; rw [← e, List.append_assoc]; rfl
            generalize joinL ws i t = jl at *
            go_wp2_with (at_builtin; refine wp_app1 (F := strF) (P := Tryd.prog) (y := jl) rfl (.tmp 55) (.tmp 62) 24 rfl Tryd.underlying24 hi0 hz0 hz1 hz2 rfl (by decide) rfl (hO5.alloc _) w5.heap.size rfl (heap_alloc_new _ _) rfl (by omega) (by omega) (by simp; omega) ?_; intro v' w' hO' hb')
            go_roundw
            case rel => exact ⟨i + t, ls ++ [jl], ht2, int_eq (by have := HJT.out; omega), (hb.trans (hbd.mono hsz)).trans ((hb5.mono (by omega)).trans (blw_al1 hb' (by omega))), hO', by simp; omega, HLN.out⟩
            case measure => have := HJT.out; simp [intOf]; omega
          · have hq := HNE.out (by omega)
            have hne : (rg + tv != lv) = true := bne_iff_ne.2 hq
            clear hq
            have hj1 : j + 1 < ws.length := by have := HJ.out; omega
            have hj1i : (j : Int) + 1 < (ws.length : Int) := by omega
            have d1 := HSJ.out hj1
            have HLS1 := Lib.hid (HLS.out hj1)
            rw [getD_at hj1] at HLS1
            have hx := HZ.out _ (List.getElem_mem hj1)
            generalize ws[j + 1] = x at *
            go_wp2_with fail
            refine wp_region_held_drew (S := fun w' => w' = wr.drew) (by kernel_rfl) ?_ (fun hHeld => ?_)
            · exact rfl
            refine wpAnyH_take (i := 0) (v := ?v19) (at_op rfl) (by kernel_rfl) (by kernel_rfl) (by kernel_rfl) (fun _ _ _ h => h) (Or.inl ⟨by rfl, ?y19⟩) (by assumption) ?r19
            case y19 =>
              intro wx hSx
              subst hSx
              go_simp
              try with_reducible rfl
            try simp only [Act.put, List.setIfInBounds_toArray, List.set_cons_zero, List.set_cons_succ]
            refine wpAnyH_take (i := 1) (v := ?v20) (at_op rfl) (by kernel_rfl) (by kernel_rfl) (by kernel_rfl) (fun _ _ _ h => h) (Or.inl ⟨by rfl, ?y20⟩) (by assumption) ?r20
            case y20 =>
              intro wx hSx
              subst hSx
              go_simp
              try with_reducible rfl
            try simp only [Act.put, List.setIfInBounds_toArray, List.set_cons_zero, List.set_cons_succ]
            refine wpAnyH_take (i := 2) (v := ?v21) (at_op rfl) (by kernel_rfl) (by kernel_rfl) (by kernel_rfl) (fun _ _ _ h => h) (Or.inl ⟨by rfl, ?y21⟩) (by assumption) ?r21
            case y21 =>
              intro wx hSx
              subst hSx
              go_simp
              try with_reducible rfl
            try simp only [Act.put, List.setIfInBounds_toArray, List.set_cons_zero, List.set_cons_succ]
            refine wpAnyH_take (i := 3) (v := ?v22) (at_op rfl) (by kernel_rfl) (by kernel_rfl) (by kernel_rfl) (fun _ _ _ h => h) (Or.inl ⟨by rfl, ?y22⟩) (by assumption) ?r22
            case y22 =>
              intro wx hSx
              subst hSx
              go_simp
              try with_reducible rfl
            try simp only [Act.put, List.setIfInBounds_toArray, List.set_cons_zero, List.set_cons_succ]
            refine wpAnyH_take (i := 4) (v := ?v23) (at_op rfl) (by kernel_rfl) (by kernel_rfl) (by kernel_rfl) (fun _ _ _ h => h) (Or.inl ⟨by rfl, ?y23⟩) (by assumption) ?r23
            case y23 =>
              intro wx hSx
              subst hSx
              go_simp
              try with_reducible rfl
            try simp only [Act.put, List.setIfInBounds_toArray, List.set_cons_zero, List.set_cons_succ]
            refine wpAnyH_take (i := 5) (v := ?v24) (at_op rfl) (by kernel_rfl) (by kernel_rfl) (by kernel_rfl) (fun _ _ _ h => h) (Or.inl ⟨by rfl, ?y24⟩) (by assumption) ?r24
            case y24 =>
              intro wx hSx
              subst hSx
              go_simp
              try with_reducible rfl
            try simp only [Act.put, List.setIfInBounds_toArray, List.set_cons_zero, List.set_cons_succ]
            refine wpAnyH_take (i := 6) (v := ?v25) (at_op rfl) (by kernel_rfl) (by kernel_rfl) (by kernel_rfl) (fun _ _ _ h => h) (Or.inl ⟨by rfl, ?y25⟩) (by assumption) ?r25
            case y25 =>
              intro wx hSx
              subst hSx
              go_simp
              try with_reducible rfl
            try simp only [Act.put, List.setIfInBounds_toArray, List.set_cons_zero, List.set_cons_succ]
            refine wpAnyH_take (i := 8) (v := ?v26) (at_op rfl) (by kernel_rfl) (by kernel_rfl) (by kernel_rfl) (fun _ _ _ h => h) (Or.inl ⟨by rfl, ?y26⟩) (by assumption) ?r26
            case y26 =>
              intro wx hSx
              subst hSx
              go_simp
              try with_reducible rfl
            try simp only [Act.put, List.setIfInBounds_toArray, List.set_cons_zero, List.set_cons_succ]
            refine wpAnyH_take (i := 9) (v := ?v27) (at_op rfl) (by kernel_rfl) (by kernel_rfl) (by kernel_rfl) (fun _ _ _ h => h) (Or.inl ⟨by rfl, ?y27⟩) (by assumption) ?r27
            case y27 =>
              intro wx hSx
              subst hSx
              go_simp
              try with_reducible rfl
            try simp only [Act.put, List.setIfInBounds_toArray, List.set_cons_zero, List.set_cons_succ]
            refine wpAnyH_take (i := 10) (v := ?v28) (at_op rfl) (by kernel_rfl) (by kernel_rfl) (by kernel_rfl) (fun _ _ _ h => h) (Or.inl ⟨by rfl, ?y28⟩) (by assumption) ?r28
            case y28 =>
              intro wx hSx
              subst hSx
              go_simp
              try with_reducible rfl
            try simp only [Act.put, List.setIfInBounds_toArray, List.set_cons_zero, List.set_cons_succ]
            refine wpAnyH_take (i := 11) (v := ?v29) (at_op rfl) (by kernel_rfl) (by kernel_rfl) (by kernel_rfl) (fun _ _ _ h => h) (Or.inl ⟨by rfl, ?y29⟩) (by assumption) ?r29
            case y29 =>
              intro wx hSx
              subst hSx
              go_simp
              try with_reducible rfl
            try simp only [Act.put, List.setIfInBounds_toArray, List.set_cons_zero, List.set_cons_succ]
            refine wpAnyH_take (i := 12) (v := ?v30) (at_op rfl) (by kernel_rfl) (by kernel_rfl) (by kernel_rfl) (fun _ _ _ h => h) (Or.inl ⟨by rfl, ?y30⟩) (by assumption) ?r30
            case y30 =>
              intro wx hSx
              subst hSx
              go_simp
              try with_reducible rfl
            try simp only [Act.put, List.setIfInBounds_toArray, List.set_cons_zero, List.set_cons_succ]
            refine wpAnyH_take (i := 14) (v := ?v31) (at_op rfl) (by kernel_rfl) (by kernel_rfl) (by kernel_rfl) (fun _ _ _ h => h) (Or.inl ⟨by rfl, ?y31⟩) (by assumption) ?r31
            case y31 =>
              intro wx hSx
              subst hSx
              go_simp
              try with_reducible rfl
            try simp only [Act.put, List.setIfInBounds_toArray, List.set_cons_zero, List.set_cons_succ]
            refine wpAnyH_take (i := 15) (v := ?v32) (at_op rfl) (by kernel_rfl) (by kernel_rfl) (by kernel_rfl) (fun _ _ _ h => h) (Or.inl ⟨by rfl, ?y32⟩) (by assumption) ?r32
            case y32 =>
              intro wx hSx
              subst hSx
              go_simp
              try with_reducible rfl
            try simp only [Act.put, List.setIfInBounds_toArray, List.set_cons_zero, List.set_cons_succ]
            refine wpAnyH_take (i := 16) (v := ?v33) (at_op rfl) (by kernel_rfl) (by kernel_rfl) (by kernel_rfl) (fun _ _ _ h => h) (Or.inl ⟨by rfl, ?y33⟩) (by assumption) ?r33
            case y33 =>
              intro wx hSx
              subst hSx
              go_simp
              try with_reducible rfl
            try simp only [Act.put, List.setIfInBounds_toArray, List.set_cons_zero, List.set_cons_succ]
            refine wpAnyH_take (i := 17) (v := ?v34) (at_op rfl) (by kernel_rfl) (by kernel_rfl) (by kernel_rfl) (fun _ _ _ h => h) (Or.inl ⟨by rfl, ?y34⟩) (by assumption) ?r34
            case y34 =>
              intro wx hSx
              subst hSx
              go_simp
              try with_reducible rfl
            try simp only [Act.put, List.setIfInBounds_toArray, List.set_cons_zero, List.set_cons_succ]
            refine wpAnyH_ready (rs := [7]) (by kernel_rfl) (by simp) ?_
            refine AllReadyH.cons (at_op rfl) (fun K hK => ?_) AllReadyH.nil
            go_simp
            refine (HLR.out _).mono ?_
            rintro e w' ⟨rfl, rfl⟩
            go_wp2_with fail
            refine hK.out _ _ rfl (fun _ => ?_)
            clear hK K
            try simp only [Act.put, List.setIfInBounds_toArray, List.set_cons_zero, List.set_cons_succ]
            refine wpAnyH_take (i := 13) (v := ?v35) (at_op rfl) (by kernel_rfl) (by kernel_rfl) (by kernel_rfl) (fun _ _ _ h => h) (Or.inl ⟨by rfl, ?y35⟩) (by assumption) ?r35
            case y35 =>
              intro wx hSx
              subst hSx
              go_simp
              try with_reducible rfl
            try simp only [Act.put, List.setIfInBounds_toArray, List.set_cons_zero, List.set_cons_succ]
            refine wpAnyH_take (i := 18) (v := ?v36) (at_op rfl) (by kernel_rfl) (by kernel_rfl) (by kernel_rfl) (fun _ _ _ h => h) (Or.inl ⟨by rfl, ?y36⟩) (by assumption) ?r36
            case y36 =>
              intro wx hSx
              subst hSx
              go_simp
              try with_reducible rfl
            try simp only [Act.put, List.setIfInBounds_toArray, List.set_cons_zero, List.set_cons_succ]
            refine wpAnyH_done (by kernel_rfl) ?_ _
            have d2 : wr.drew.cell? ⟨b, off + (j + 1), none⟩ = some (.string x) := d1
            have hbd := hbw.drew
            clear d1 hbw uc1 uc2
            generalize wr.drew = wd at *
            go_wp2
            go_roundw
            case rel => exact ⟨s + 1, j + 1, (by have := HJ.out; show _ = _; omega), by omega, by omega, hj1, (by rw [HLS1.out]), by go_num, hbd⟩
            case measure => simp [intOf]; omega
      · have hii : ¬ (i : Int) < (ws.length : Int) := by omega
        have HE : Hid (ls = bestI ws width 0) := by have e := HL.out; rwa [bestI_end (by omega), List.append_nil] at e
        go_wp2
        go_ret
        have e := HB.out
        subst e
        refine ⟨_, rfl, ?_, ?_⟩
        · exact hb2.trans (hb.mono (by omega))
        · rw [HF.out, ← HE.out]
          exact hO.wide (by omega) (Nat.le_refl _)
end Go.Proofs.YtjaginciejljkaaDoor
