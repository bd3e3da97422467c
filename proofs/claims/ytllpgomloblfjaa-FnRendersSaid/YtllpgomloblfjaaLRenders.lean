/- FnRenders: lines tell the chunks, in order: as many lines as there are splits, and one; what they cost is told by them. No condition. -/
import Derived.Test.YtllpgomloblfjaaRendY
import Derived.Test.YtllpgomloblfjaaDrawY
namespace Go.Proofs.Ytllpgomloblfjaa
open Go.RowKit

theorem textTo_size {x : Piece} (hz : Sized' x) : ∀ k, (textTo x k).size ≤ k * 64 := fun k => by
  have h := joinB_size (ls := x.chunks.map (·.text)) (M := 64) (by
    intro l hl
    obtain ⟨c, hc, rfl⟩ := List.mem_map.1 hl
    exact hz c hc) k
  unfold textTo
  rwa [← List.map_take] at h
theorem lines_small {x : Piece} (hx : Right x) (hz : Sized' x) (c9 : x.chunks.length ≤ 9) (v : List Int) : (∀ l ∈ linesR x v, l.size ≤ 1000) ∧ (linesR x v).length ≤ 9 := by
  have hc := hx.chunks
  have ha : ∀ i, (chunkAt x.chunks i).text.size + 1 ≤ 65 := fun i => by
    by_cases hi : i < x.chunks.length
    · rw [chunkAt_lt hi]; have := hz _ (List.getElem_mem hi); omega
    · unfold chunkAt
      rw [List.getD_eq_getElem?_getD, List.getElem?_eq_none (by omega)]
      show (0 : Nat) + 1 ≤ 65
      decide
  obtain ⟨h1, h2, h3⟩ := rend_sizeM hx (M := 65) ha v (x.chunks.length - 1) (by omega)
  have h4 := ha (x.chunks.length - 1)
  have h5 : (x.chunks.length - 1) * 65 ≤ 8 * 65 := Nat.mul_le_mul_right _ (by omega)
  refine ⟨fun l hl => ?_, by unfold linesR; rw [List.length_append]; simp; omega⟩
  rcases List.mem_append.1 hl with h | h
  · have := h3 l h; omega
  · obtain rfl := List.mem_singleton.1 h
    rw [ByteArray.size_append]; omega
set_option maxHeartbeats 8000000 in
set_option maxRecDepth 100000 in
theorem lawRenders_any (xs : List Int) (v : Value) (w : World) (hr : Rd bytS 0 w.heap.size w v xs) (hx : ∀ x ∈ xs, U8 x) :
    Calls Try.prog 5 #[v] w fun e w' => e = .returned (.bool true) ∧ Below w.heap.size w w' := by
  go_enter Try.func5, Try.ntmps5
  go_wp2_with fail
  refine (big_any hr).mono ?_
  rintro e w0 ⟨rfl, rfl⟩
  by_cases hbig : 1048576 < xs.length
  · have hd : decide (1048576 < xs.length) = true := decide_eq_true hbig
    rw [hd]
    go_wp2
    go_ret
    exact ⟨rfl, Below.refl _ _⟩
  have hd : decide (1048576 < xs.length) = false := decide_eq_false hbig
  rw [hd]
  have hl : xs.length ≤ 1048576 := by omega
  clear hd hbig
  have HB : Below w.heap.size w w := Below.refl _ _
  go_wp2_with fail
  refine (drawValues_any hr (Nat.le_refl _) hx hl).mono ?_
  rintro e w1 ⟨x, vs, ra, rc, ca, cc, sa, sc, ta, tc, va, vc, rfl, hok, hz, r1, c9, hF, hP, hV, hb⟩
  replace hr := (hr.below hb (Nat.le_refl _)).wide (Nat.le_refl _) hb.size
  replace HB := HB.trans (hb.mono HB.size)
  clear hb
  have hRt := right_of hok
  have hZ : Sized x := ⟨fun c h => Nat.le_trans (hz c h) (by decide)⟩
  have hc1 := hRt.chunks.1
  obtain ⟨hn1, hB1⟩ := lines_law (x := x) vs hc1
  obtain ⟨hs1, hs2⟩ := lines_small hRt hz c9 vs
  have hCO : ∀ w, (costR x vs w).over = overS (clampW w) (linesR x vs) := fun w => rfl
  unfold Piece.v
  go_upto_region 4 with fail
  have hb : Below w1.heap.size w1 (w1.alloc (.cells #[.int .i64 x.indent, .slice ra x.rules.length rc, .slice ca x.chunks.length cc, .slice sa x.spans.length sc, .slice ta x.ties.length tc] 29)) := (Below.refl _ _).alloc (Nat.le_refl _) _
  have hX0 := heap_alloc_new w1 (.cells #[.int .i64 x.indent, .slice ra x.rules.length rc, .slice ca x.chunks.length cc, .slice sa x.spans.length sc, .slice ta x.ties.length tc] 29)
  obtain ⟨P, hPe⟩ : ∃ P, Hid (P = w1.heap.size) := ⟨_, rfl⟩
  rw [← hPe.out] at hX0 ⊢
  have hX : PBox x ra rc ca cc sa sc ta tc P (w1.alloc (.cells #[.int .i64 x.indent, .slice ra x.rules.length rc, .slice ca x.chunks.length cc, .slice sa x.spans.length sc, .slice ta x.ties.length tc] 29)) := hX0
  clear hX0 hPe
  generalize w1.alloc (.cells #[.int .i64 x.indent, .slice ra x.rules.length rc, .slice ca x.chunks.length cc, .slice sa x.spans.length sc, .slice ta x.ties.length tc] 29) = w2 at *
  replace hr := (hr.below hb (Nat.le_refl _)).wide (Nat.le_refl _) hb.size
  replace hP := (hP.below hb (Nat.le_refl _)).wide (Nat.le_refl _) hb.size
  replace hV := (hV.below hb (Nat.le_refl _)).wide (Nat.le_refl _) hb.size
  replace HB := HB.trans (hb.mono HB.size)
  clear hb
  obtain ⟨p0, p1, p2, p3, p4⟩ := hX.five
  go_wp2_with fail
  have q := renderTop_impl x vs ra ca sa ta va rc cc sc tc vc _ _ _ _  _ hP (Nat.le_refl _) hV (Nat.le_refl _) hZ
  rw [linesB_full hok hF] at q
  refine (q).mono ?_
  rintro e w3 ⟨u1, rfl, hb, hO1⟩
  clear p0 p1 p2 p3 p4
  obtain ⟨la, lc, rfl, -, -, -⟩ := hO1.form
  have hL := hO1.rd
  clear hO1
  replace hr := (hr.below hb (Nat.le_refl _)).wide (Nat.le_refl _) hb.size
  replace hP := (hP.below hb (Nat.le_refl _)).wide (Nat.le_refl _) hb.size
  replace hV := (hV.below hb (Nat.le_refl _)).wide (Nat.le_refl _) hb.size
  replace hX := PBox.below hX hb
  replace HB := HB.trans (hb.mono HB.size)
  clear hb
  obtain ⟨ls, hls⟩ : ∃ ls, Hid (ls = linesR x vs) := ⟨_, rfl⟩
  rw [← hls.out] at hL hn1 hB1 hs1 hs2 hCO ⊢
  go_upto_region 5 with fail
  go_wp2
  go_loopw [6, 7, 8] (fun nn ss i wr => ∃ k : Nat, k ≤ x.chunks.length ∧ i = .int .i64 k ∧ nn = .int .i64 ((splitN x vs (min k (x.chunks.length - 1)) + 1 : Nat) : Int) ∧ ss = .string (textTo x k) ∧ Below w3.heap.size w3 wr) (fun _ _ i _ => x.chunks.length - (intOf i).toNat)
  case atStart => exact ⟨0, Nat.zero_le _, rfl, by rw [Nat.zero_min]; rfl, rfl, Below.refl _ _⟩
  case round =>
    obtain ⟨k, hk, rfl, rfl, rfl, hbr⟩ := hrel
    have hXr := PBox.below hX hbr
    obtain ⟨p0, p1, p2, p3, p4⟩ := hXr.five
    have hPr := hP.below hbr (Nat.le_refl _)
    have hVr := hV.below hbr (Nat.le_refl _)
    have hsr := hbr.size
    by_cases hlt : k < x.chunks.length
    · have hki : (k : Int) < (x.chunks.length : Int) := by omega
      have HSP := Lib.hid (fun (h1 : k + 1 < x.chunks.length) => splitsAt_spec x vs ra ca sa ta va rc cc sc tc vc _ _ _ _ wr hPr hsr hVr hsr hok hF hZ k h1)
      obtain ⟨b, off, rfl, -, -, c0, -, -, -, -⟩ := (at_chunk hPr.c).2 k hlt
      have HT := Lib.hid (textTo_succ hlt)
      have z1 := textTo_size hz k
      have z2 := hz _ (List.getElem_mem hlt)
      have z3 := splitN_le x vs (min k (x.chunks.length - 1))
      have HM : Hid (min k (x.chunks.length - 1) = k) := by show _ = _; omega
      generalize textTo x k = acc at *
      generalize x.chunks[k].text = t at *
      have z4 : acc.size + t.size ≤ 1048576 := by omega
      by_cases h1 : k + 1 < x.chunks.length
      · have h1i : (k : Int) + 1 < (x.chunks.length : Int) := by omega
        have HN : Hid (min (k + 1) (x.chunks.length - 1) = k + 1) := by show _ = _; omega
        have HQ : Hid (splitN x vs (k + 1) = splitN x vs k + if splitsAt x vs k then 1 else 0) := rfl
        have HSQ := HSP.out h1
        unfold Piece.v at HSQ
        replace HSQ := Lib.hid HSQ
        rw [HM.out] at z3 ⊢
        clear hPr hVr HSP
        go_wp2_with fail
        refine HSQ.out.mono ?_
        rintro e w' ⟨rfl, hb⟩
        have hbe := hbr.trans (hb.mono hbr.size)
        clear HSQ hb
        cases hsp : splitsAt x vs k with
        | true =>
          rw [hsp] at HQ
          have HQ2 : Hid (splitN x vs (k + 1) = splitN x vs k + 1) := HQ.out
          clear HQ hsp
          generalize splitN x vs k = N at *
          go_wp2
          go_roundw
          case rel => exact ⟨k + 1, by omega, by go_num, by rw [HN.out, HQ2.out]; exact congrArg (Value.int .i64) (by omega), by rw [HT.out], hbe⟩
          case measure => simp [intOf]; omega
        | false =>
          rw [hsp] at HQ
          have HQ2 : Hid (splitN x vs (k + 1) = splitN x vs k) := HQ.out
          clear HQ hsp
          generalize splitN x vs k = N at *
          go_wp2
          go_roundw
          case rel => exact ⟨k + 1, by omega, by go_num, by rw [HN.out, HQ2.out]; exact congrArg (Value.int .i64) (by omega), by rw [HT.out], hbe⟩
          case measure => simp [intOf]; omega
      · have h1i : ¬ (k : Int) + 1 < (x.chunks.length : Int) := by omega
        have HN : Hid (min (k + 1) (x.chunks.length - 1) = min k (x.chunks.length - 1)) := by show _ = _; omega
        have HQ2 : Hid (splitN x vs (min (k + 1) (x.chunks.length - 1)) = splitN x vs (min k (x.chunks.length - 1))) := congrArg _ HN.out
        generalize splitN x vs (min k (x.chunks.length - 1)) = N at *
        clear HSP hPr hVr HM
        go_wp2
        go_roundw
        case rel => exact ⟨k + 1, by omega, by go_num, by rw [HQ2.out], by rw [HT.out], hbr⟩
        case measure => simp [intOf]; omega
    · have hki : ¬ (k : Int) < (x.chunks.length : Int) := by omega
      obtain rfl : k = x.chunks.length := by omega
      rw [show min x.chunks.length (x.chunks.length - 1) = x.chunks.length - 1 by omega, ← hn1]
      clear hXr hPr hVr hsr hlt hn1
      obtain ⟨tx, htx⟩ : ∃ t, Hid (t = textTo x x.chunks.length) := ⟨_, rfl⟩
      have htz := textTo_size hz x.chunks.length
      rw [← htx.out] at hB1 htz ⊢
      have hb := hbr
      clear hbr
      replace hr := (hr.below hb (Nat.le_refl _)).wide (Nat.le_refl _) hb.size
      replace hP := (hP.below hb (Nat.le_refl _)).wide (Nat.le_refl _) hb.size
      replace hV := (hV.below hb (Nat.le_refl _)).wide (Nat.le_refl _) hb.size
      replace hX := PBox.below hX hb
      replace hL := (hL.below hb (Nat.le_refl _)).wide (Nat.le_refl _) hb.size
      replace HB := HB.trans (hb.mono HB.size)
      clear hb
      go_wp2_with fail
      refine (drawWidth_any hr (Nat.le_refl _) hx hl).mono ?_
      rintro e w5 ⟨wd, rfl, hwd, hb⟩
      replace hr := (hr.below hb (Nat.le_refl _)).wide (Nat.le_refl _) hb.size
      replace hP := (hP.below hb (Nat.le_refl _)).wide (Nat.le_refl _) hb.size
      replace hV := (hV.below hb (Nat.le_refl _)).wide (Nat.le_refl _) hb.size
      replace hX := PBox.below hX hb
      replace hL := (hL.below hb (Nat.le_refl _)).wide (Nat.le_refl _) hb.size
      replace HB := HB.trans (hb.mono HB.size)
      clear hb
      have hw1 : 0 ≤ wd ∧ wd ≤ 100 := by
        simp only [List.mem_cons, List.not_mem_nil, or_false] at hwd
        omega
      clear hwd
      have hO := hCO wd
      rw [clampW_id hw1.1 (by omega)] at hO
      clear hCO
      go_wp2
      go_loop [10, 11] (fun o i => ∃ k : Nat, k ≤ ls.length ∧ i = .int .i64 k ∧ o = .int .i64 (overS wd (ls.take k))) (fun _ i => ls.length - (intOf i).toNat)
      case atStart => exact ⟨0, Nat.zero_le _, rfl, rfl⟩
      case round =>
        obtain ⟨k, hk, rfl, rfl⟩ := hrel
        by_cases hlt : k < ls.length
        · have hki : (k : Int) < (ls.length : Int) := by omega
          obtain ⟨b, off, rfl, -, -, c0⟩ := (at_str hL).2 k hlt
          have hz1 := hs1 _ (List.getElem_mem hlt)
          have hOT := Lib.hid (overS_take (W := wd) hlt)
          have hob := overS_bd (W := wd) hw1.1 (M := 1000) (ls := ls.take k) (fun l hl => hs1 l (List.mem_of_mem_take hl))
          have htl : (ls.take k).length ≤ 9 := by rw [List.length_take]; omega
          have hob1 := hob.1
          have hob2 : overS wd (ls.take k) ≤ 9000 := by have := hob.2; omega
          clear hob htl hO
          generalize overS wd (ls.take k) = acc at *
          generalize ls[k] = l at *
          by_cases hw : wd < (l.size : Int)
          · have hq : Hid (overOf wd l.size = l.size - wd) := if_pos hw
            go_wp2
            go_round
            case rel => exact ⟨k + 1, by omega, by go_num, by rw [hOT.out, hq.out]; go_num⟩
            case measure => simp [intOf]; omega
          · have hq : Hid (overOf wd l.size = 0) := if_neg hw
            go_wp2
            go_round
            case rel => exact ⟨k + 1, by omega, by go_num, by rw [hOT.out, hq.out, Int.add_zero]⟩
            case measure => simp [intOf]; omega
        · have hki : ¬ (k : Int) < (ls.length : Int) := by omega
          obtain rfl : k = ls.length := by omega
          rw [List.take_of_length_le (Nat.le_refl _), ← hO]
          clear hO hlt
          obtain ⟨Co, hCo⟩ : ∃ c, Hid (c = (costR x vs wd).over) := ⟨_, rfl⟩
          obtain ⟨Cs, hCs⟩ : ∃ c, Hid (c = (costR x vs wd).sum) := ⟨_, rfl⟩
          rw [← hCo.out]
          obtain ⟨p0, p1, p2, p3, p4⟩ := hX.five
          go_wp2_with fail
          have q := costTop_impl x vs ra ca sa ta va rc cc sc tc vc _ _ _ _ wd _ hP (Nat.le_refl _) hV (Nat.le_refl _) hZ
          rw [costB_full hok hF, ← hCo.out, ← hCs.out] at q
          refine (q).mono ?_
          rintro e w6 ⟨rfl, hb⟩
          clear p0 p1 p2 p3 p4
          replace hr := (hr.below hb (Nat.le_refl _)).wide (Nat.le_refl _) hb.size
          replace hP := (hP.below hb (Nat.le_refl _)).wide (Nat.le_refl _) hb.size
          replace hV := (hV.below hb (Nat.le_refl _)).wide (Nat.le_refl _) hb.size
          replace hX := PBox.below hX hb
          replace hL := (hL.below hb (Nat.le_refl _)).wide (Nat.le_refl _) hb.size
          replace HB := HB.trans (hb.mono HB.size)
          clear hb
          go_upto_region 21 with fail
          have hb : Below w6.heap.size w6 (w6.alloc (.cells #[.int .i64 Co, .int .i64 Cs] 37)) := (Below.refl _ _).alloc (Nat.le_refl _) _
          have hC := heap_alloc_new w6 (.cells #[.int .i64 Co, .int .i64 Cs] 37)
          obtain ⟨C, hPe⟩ : ∃ P, Hid (P = w6.heap.size) := ⟨_, rfl⟩
          rw [← hPe.out] at hC ⊢
          clear hPe
          generalize w6.alloc (.cells #[.int .i64 Co, .int .i64 Cs] 37) = w7 at *
          replace hr := (hr.below hb (Nat.le_refl _)).wide (Nat.le_refl _) hb.size
          replace hP := (hP.below hb (Nat.le_refl _)).wide (Nat.le_refl _) hb.size
          replace hV := (hV.below hb (Nat.le_refl _)).wide (Nat.le_refl _) hb.size
          replace hX := PBox.below hX hb
          replace hL := (hL.below hb (Nat.le_refl _)).wide (Nat.le_refl _) hb.size
          replace HB := HB.trans (hb.mono HB.size)
          clear hb
          go_wp2_with fail
          refine (drawRender_any hr (Nat.le_refl _) hx hl).mono ?_
          rintro e w8 ⟨y, us, ra2, rc2, ca2, cc2, sa2, sc2, ta2, tc2, ua, uc, rfl, hAy, -, hPy, hU, hb⟩
          replace hr := (hr.below hb (Nat.le_refl _)).wide (Nat.le_refl _) hb.size
          replace hP := (hP.below hb (Nat.le_refl _)).wide (Nat.le_refl _) hb.size
          replace hV := (hV.below hb (Nat.le_refl _)).wide (Nat.le_refl _) hb.size
          replace hX := PBox.below hX hb
          replace hL := (hL.below hb (Nat.le_refl _)).wide (Nat.le_refl _) hb.size
          replace hC := blk hb hC
          replace HB := HB.trans (hb.mono HB.size)
          clear hb
          have hZy : Sized y := ⟨fun c h => Nat.le_trans (hAy.z c h) (by decide)⟩
          clear hAy
          unfold Piece.v
          go_upto_region 22 with fail
          have hb : Below w8.heap.size w8 (w8.alloc (.cells #[.int .i64 y.indent, .slice ra2 y.rules.length rc2, .slice ca2 y.chunks.length cc2, .slice sa2 y.spans.length sc2, .slice ta2 y.ties.length tc2] 29)) := (Below.refl _ _).alloc (Nat.le_refl _) _
          have hX0 := heap_alloc_new w8 (.cells #[.int .i64 y.indent, .slice ra2 y.rules.length rc2, .slice ca2 y.chunks.length cc2, .slice sa2 y.spans.length sc2, .slice ta2 y.ties.length tc2] 29)
          obtain ⟨Y, hPe⟩ : ∃ P, Hid (P = w8.heap.size) := ⟨_, rfl⟩
          rw [← hPe.out] at hX0 ⊢
          have hY : PBox y ra2 rc2 ca2 cc2 sa2 sc2 ta2 tc2 Y (w8.alloc (.cells #[.int .i64 y.indent, .slice ra2 y.rules.length rc2, .slice ca2 y.chunks.length cc2, .slice sa2 y.spans.length sc2, .slice ta2 y.ties.length tc2] 29)) := hX0
          clear hX0 hPe
          generalize w8.alloc (.cells #[.int .i64 y.indent, .slice ra2 y.rules.length rc2, .slice ca2 y.chunks.length cc2, .slice sa2 y.spans.length sc2, .slice ta2 y.ties.length tc2] 29) = w9 at *
          replace hr := (hr.below hb (Nat.le_refl _)).wide (Nat.le_refl _) hb.size
          replace hP := (hP.below hb (Nat.le_refl _)).wide (Nat.le_refl _) hb.size
          replace hV := (hV.below hb (Nat.le_refl _)).wide (Nat.le_refl _) hb.size
          replace hX := PBox.below hX hb
          replace hL := (hL.below hb (Nat.le_refl _)).wide (Nat.le_refl _) hb.size
          replace hC := blk hb hC
          replace hPy := (hPy.below hb (Nat.le_refl _)).wide (Nat.le_refl _) hb.size
          replace hU := (hU.below hb (Nat.le_refl _)).wide (Nat.le_refl _) hb.size
          replace HB := HB.trans (hb.mono HB.size)
          clear hb
          go_wp2_with fail
          refine (drawCostOf_any hr (Nat.le_refl _) hx hl).mono ?_
          rintro e w10 ⟨z, ts, m, ra3, rc3, ca3, cc3, sa3, sc3, ta3, tc3, sa9, sc9, rfl, hAz, -, hPz, hS, hb⟩
          replace hr := (hr.below hb (Nat.le_refl _)).wide (Nat.le_refl _) hb.size
          replace hP := (hP.below hb (Nat.le_refl _)).wide (Nat.le_refl _) hb.size
          replace hV := (hV.below hb (Nat.le_refl _)).wide (Nat.le_refl _) hb.size
          replace hX := PBox.below hX hb
          replace hL := (hL.below hb (Nat.le_refl _)).wide (Nat.le_refl _) hb.size
          replace hC := blk hb hC
          replace hPy := (hPy.below hb (Nat.le_refl _)).wide (Nat.le_refl _) hb.size
          replace hU := (hU.below hb (Nat.le_refl _)).wide (Nat.le_refl _) hb.size
          replace hY := PBox.below hY hb
          replace HB := HB.trans (hb.mono HB.size)
          clear hb
          have hZz : Sized z := ⟨fun c h => Nat.le_trans (hAz.z c h) (by decide)⟩
          clear hAz
          unfold Piece.v
          go_upto_region 23 with fail
          have hb : Below w10.heap.size w10 (w10.alloc (.cells #[.int .i64 z.indent, .slice ra3 z.rules.length rc3, .slice ca3 z.chunks.length cc3, .slice sa3 z.spans.length sc3, .slice ta3 z.ties.length tc3] 29)) := (Below.refl _ _).alloc (Nat.le_refl _) _
          have hX0 := heap_alloc_new w10 (.cells #[.int .i64 z.indent, .slice ra3 z.rules.length rc3, .slice ca3 z.chunks.length cc3, .slice sa3 z.spans.length sc3, .slice ta3 z.ties.length tc3] 29)
          obtain ⟨Z9, hPe⟩ : ∃ P, Hid (P = w10.heap.size) := ⟨_, rfl⟩
          rw [← hPe.out] at hX0 ⊢
          have hZ3 : PBox z ra3 rc3 ca3 cc3 sa3 sc3 ta3 tc3 Z9 (w10.alloc (.cells #[.int .i64 z.indent, .slice ra3 z.rules.length rc3, .slice ca3 z.chunks.length cc3, .slice sa3 z.spans.length sc3, .slice ta3 z.ties.length tc3] 29)) := hX0
          clear hX0 hPe
          generalize w10.alloc (.cells #[.int .i64 z.indent, .slice ra3 z.rules.length rc3, .slice ca3 z.chunks.length cc3, .slice sa3 z.spans.length sc3, .slice ta3 z.ties.length tc3] 29) = w11 at *
          replace hr := (hr.below hb (Nat.le_refl _)).wide (Nat.le_refl _) hb.size
          replace hP := (hP.below hb (Nat.le_refl _)).wide (Nat.le_refl _) hb.size
          replace hV := (hV.below hb (Nat.le_refl _)).wide (Nat.le_refl _) hb.size
          replace hX := PBox.below hX hb
          replace hL := (hL.below hb (Nat.le_refl _)).wide (Nat.le_refl _) hb.size
          replace hC := blk hb hC
          replace hPy := (hPy.below hb (Nat.le_refl _)).wide (Nat.le_refl _) hb.size
          replace hU := (hU.below hb (Nat.le_refl _)).wide (Nat.le_refl _) hb.size
          replace hY := PBox.below hY hb
          replace hPz := (hPz.below hb (Nat.le_refl _)).wide (Nat.le_refl _) hb.size
          replace hS := (hS.below hb (Nat.le_refl _)).wide (Nat.le_refl _) hb.size
          replace HB := HB.trans (hb.mono HB.size)
          clear hb
          go_wp2_with fail
          refine (drawCostLess_any hr (Nat.le_refl _) hx hl).mono ?_
          rintro e w12 ⟨⟨a0, a1⟩, ⟨b0, b1⟩, rfl, hb⟩
          replace hr := (hr.below hb (Nat.le_refl _)).wide (Nat.le_refl _) hb.size
          replace hP := (hP.below hb (Nat.le_refl _)).wide (Nat.le_refl _) hb.size
          replace hV := (hV.below hb (Nat.le_refl _)).wide (Nat.le_refl _) hb.size
          replace hX := PBox.below hX hb
          replace hL := (hL.below hb (Nat.le_refl _)).wide (Nat.le_refl _) hb.size
          replace hC := blk hb hC
          replace hPy := (hPy.below hb (Nat.le_refl _)).wide (Nat.le_refl _) hb.size
          replace hU := (hU.below hb (Nat.le_refl _)).wide (Nat.le_refl _) hb.size
          replace hY := PBox.below hY hb
          replace hPz := (hPz.below hb (Nat.le_refl _)).wide (Nat.le_refl _) hb.size
          replace hS := (hS.below hb (Nat.le_refl _)).wide (Nat.le_refl _) hb.size
          replace hZ3 := PBox.below hZ3 hb
          replace HB := HB.trans (hb.mono HB.size)
          clear hb
          simp only
          go_upto_region 24 with fail
          obtain ⟨hA, hB⟩ := heap_two w12 (.cells #[.int .i64 a0, .int .i64 a1] 37) (.cells #[.int .i64 b0, .int .i64 b1] 37)
          have hb : Below w12.heap.size w12 ((w12.alloc (.cells #[.int .i64 a0, .int .i64 a1] 37)).alloc (.cells #[.int .i64 b0, .int .i64 b1] 37)) := ((Below.refl _ _).alloc (Nat.le_refl _) _).alloc (by simp) _
          obtain ⟨KA, hKA⟩ : ∃ K, Hid (K = w12.heap.size) := ⟨_, rfl⟩
          obtain ⟨KB, hKB⟩ : ∃ K, Hid (K = w12.heap.size + 1) := ⟨_, rfl⟩
          rw [← hKB.out] at hB ⊢
          rw [← hKA.out] at hA ⊢
          clear hKA hKB
          generalize (w12.alloc (.cells #[.int .i64 a0, .int .i64 a1] 37)).alloc (.cells #[.int .i64 b0, .int .i64 b1] 37) = w13 at *
          replace hr := (hr.below hb (Nat.le_refl _)).wide (Nat.le_refl _) hb.size
          replace hP := (hP.below hb (Nat.le_refl _)).wide (Nat.le_refl _) hb.size
          replace hV := (hV.below hb (Nat.le_refl _)).wide (Nat.le_refl _) hb.size
          replace hX := PBox.below hX hb
          replace hL := (hL.below hb (Nat.le_refl _)).wide (Nat.le_refl _) hb.size
          replace hC := blk hb hC
          replace hPy := (hPy.below hb (Nat.le_refl _)).wide (Nat.le_refl _) hb.size
          replace hU := (hU.below hb (Nat.le_refl _)).wide (Nat.le_refl _) hb.size
          replace hY := PBox.below hY hb
          replace hPz := (hPz.below hb (Nat.le_refl _)).wide (Nat.le_refl _) hb.size
          replace hS := (hS.below hb (Nat.le_refl _)).wide (Nat.le_refl _) hb.size
          replace hZ3 := PBox.below hZ3 hb
          replace HB := HB.trans (hb.mono HB.size)
          clear hb
          go_wp2_with fail
          refine (drawCompare_any hr (Nat.le_refl _) hx hl).mono ?_
          rintro e w14 ⟨al, bl, aa, ac, ba, bc, rfl, hAl, hBl, hb⟩
          replace hr := (hr.below hb (Nat.le_refl _)).wide (Nat.le_refl _) hb.size
          replace hP := (hP.below hb (Nat.le_refl _)).wide (Nat.le_refl _) hb.size
          replace hV := (hV.below hb (Nat.le_refl _)).wide (Nat.le_refl _) hb.size
          replace hX := PBox.below hX hb
          replace hL := (hL.below hb (Nat.le_refl _)).wide (Nat.le_refl _) hb.size
          replace hC := blk hb hC
          replace hPy := (hPy.below hb (Nat.le_refl _)).wide (Nat.le_refl _) hb.size
          replace hU := (hU.below hb (Nat.le_refl _)).wide (Nat.le_refl _) hb.size
          replace hY := PBox.below hY hb
          replace hPz := (hPz.below hb (Nat.le_refl _)).wide (Nat.le_refl _) hb.size
          replace hS := (hS.below hb (Nat.le_refl _)).wide (Nat.le_refl _) hb.size
          replace hZ3 := PBox.below hZ3 hb
          replace hA := blk hb hA
          replace hB := blk hb hB
          replace HB := HB.trans (hb.mono HB.size)
          clear hb
          clear hr
          go_upto_region 25 with fail
          have hjz := joinB_size hs1 ls.length
          rw [List.take_of_length_le (Nat.le_refl _)] at hjz
          have hBS : Hid (bareS tx = bareS (joinB ls)) := by
            show _ = _
            unfold bareS
            rw [← hB1]
          clear hB1
          obtain ⟨jl, hjl⟩ : ∃ j, Hid (j = joinB ls) := ⟨_, rfl⟩
          rw [← hjl.out] at hjz hBS
          have hjn : jl.size ≤ 1048576 := by omega
          have htn : tx.size ≤ 1048576 := by omega
          obtain ⟨cz, hcz⟩ : ∃ c, Hid (c = costB z ts m) := ⟨_, rfl⟩
          obtain ⟨cl, hcl⟩ : ∃ c, Hid (c = costLess ⟨a0, a1⟩ ⟨b0, b1⟩) := ⟨_, rfl⟩
          have hcn := Lib.hid (cmpL_neg al bl)
          have hcb := cmpL_bd bl al
          have hcb1 := hcb.1
          have hcb2 := hcb.2
          clear hcb hjz htz
          refine wp_region_held_drew (S := fun w' => Below w14.heap.size w14 w') (by kernel_rfl) ?_ (fun hHeld => ?_)
          · exact (Below.refl _ _).drew
          refine wpAnyH_take (i := 0) (v := ?v1) (at_op rfl) (by kernel_rfl) (by kernel_rfl) (by kernel_rfl) (fun _ _ _ h => h) (Or.inl ⟨by rfl, ?y1⟩) (by assumption) ?r1
          case y1 =>
            intro wx hSx
            go_simp
            try with_reducible rfl
          try simp only [Act.put, List.setIfInBounds_toArray, List.set_cons_zero, List.set_cons_succ]
          refine wpAnyH_take (i := 1) (v := ?v2) (at_op rfl) (by kernel_rfl) (by kernel_rfl) (by kernel_rfl) (fun _ _ _ h => h) (Or.inl ⟨by rfl, ?y2⟩) (by assumption) ?r2
          case y2 =>
            intro wx hSx
            go_simp
            try with_reducible rfl
          try simp only [Act.put, List.setIfInBounds_toArray, List.set_cons_zero, List.set_cons_succ]
          refine wpAnyH_take (i := 2) (v := ?v3) (at_op rfl) (by kernel_rfl) (by kernel_rfl) (by kernel_rfl) (fun _ _ _ h => h) (Or.inl ⟨by rfl, ?y3⟩) (by assumption) ?r3
          case y3 =>
            intro wx hSx
            go_simp
            try with_reducible rfl
          try simp only [Act.put, List.setIfInBounds_toArray, List.set_cons_zero, List.set_cons_succ]
          refine wpAnyH_take (i := 3) (v := .bool true) (at_op rfl) (by kernel_rfl) (by kernel_rfl) (by kernel_rfl) (fun _ _ _ h => h) (Or.inl ⟨by rfl, ?y4⟩) (by assumption) ?r4
          case y4 =>
            intro wx hSx
            skip
            go_simp
            try simp
          try simp only [Act.put, List.setIfInBounds_toArray, List.set_cons_zero, List.set_cons_succ]
          refine wpAnyH_take (i := 4) (v := ?v5) (at_op rfl) (by kernel_rfl) (by kernel_rfl) (by kernel_rfl) (fun _ _ _ h => h) (Or.inl ⟨by rfl, ?y5⟩) (by assumption) ?r5
          case y5 =>
            intro wx hSx
            go_simp
            try with_reducible rfl
          try simp only [Act.put, List.setIfInBounds_toArray, List.set_cons_zero, List.set_cons_succ]
          refine wpAnyH_take (i := 5) (v := ?v6) (at_op rfl) (by kernel_rfl) (by kernel_rfl) (by kernel_rfl) (fun _ _ _ h => h) (Or.inl ⟨by rfl, ?y6⟩) (by assumption) ?r6
          case y6 =>
            intro wx hSx
            go_simp
            try with_reducible rfl
          try simp only [Act.put, List.setIfInBounds_toArray, List.set_cons_zero, List.set_cons_succ]
          refine wpAnyH_take (i := 8) (v := ?v7) (at_op rfl) (by kernel_rfl) (by kernel_rfl) (by kernel_rfl) (fun _ _ _ h => h) (Or.inl ⟨by rfl, ?y7⟩) (by assumption) ?r7
          case y7 =>
            intro wx hSx
            go_simp
            try with_reducible rfl
          try simp only [Act.put, List.setIfInBounds_toArray, List.set_cons_zero, List.set_cons_succ]
          refine wpAnyH_ready (rs := [6]) (by kernel_rfl) (by simp) ?_
          refine AllReadyH.cons (at_op rfl) (fun K hK => ?_) AllReadyH.nil
          go_simp
          refine (joined_any ls _ _ _ 1000 _ (hL.below hHeld (Nat.le_refl _)) hs1 (by omega)).mono ?_
          rintro e wh8 ⟨rfl, rfl⟩
          rw [← hjl.out]
          go_wp2_with fail
          refine hK.out _ _ hHeld (fun _ => ?_)
          clear hK K
          try simp only [Act.put, List.setIfInBounds_toArray, List.set_cons_zero, List.set_cons_succ]
          refine wpAnyH_ready (rs := [7]) (by kernel_rfl) (by simp) ?_
          refine AllReadyH.cons (at_op rfl) (fun K hK => ?_) AllReadyH.nil
          go_simp
          refine (bare_any jl _ hjn).mono ?_
          rintro e wh9 ⟨rfl, hb⟩
          replace hHeld := hHeld.trans (hb.mono hHeld.size)
          clear hb
          go_wp2_with fail
          refine hK.out _ _ hHeld (fun _ => ?_)
          clear hK K
          try simp only [Act.put, List.setIfInBounds_toArray, List.set_cons_zero, List.set_cons_succ]
          refine wpAnyH_ready (rs := [9]) (by kernel_rfl) (by simp) ?_
          refine AllReadyH.cons (at_op rfl) (fun K hK => ?_) AllReadyH.nil
          go_simp
          refine (bare_any tx _ htn).mono ?_
          rintro e wh10 ⟨rfl, hb⟩
          replace hHeld := hHeld.trans (hb.mono hHeld.size)
          clear hb
          rw [hBS.out]
          go_wp2_with fail
          refine hK.out _ _ hHeld (fun _ => ?_)
          clear hK K
          try simp only [Act.put, List.setIfInBounds_toArray, List.set_cons_zero, List.set_cons_succ]
          refine wpAnyH_take (i := 10) (v := .bool true) (at_op rfl) (by kernel_rfl) (by kernel_rfl) (by kernel_rfl) (fun _ _ _ h => h) (Or.inl ⟨by rfl, ?y11⟩) (by assumption) ?r11
          case y11 =>
            intro wx hSx
            skip
            go_simp
            try simp
          try simp only [Act.put, List.setIfInBounds_toArray, List.set_cons_zero, List.set_cons_succ]
          refine wpAnyH_take (i := 11) (v := .bool true) (at_op rfl) (by kernel_rfl) (by kernel_rfl) (by kernel_rfl) (fun _ _ _ h => h) (Or.inl ⟨by rfl, ?y12⟩) (by assumption) ?r12
          case y12 =>
            intro wx hSx
            skip
            go_simp
            try simp
          try simp only [Act.put, List.setIfInBounds_toArray, List.set_cons_zero, List.set_cons_succ]
          refine wpAnyH_take (i := 12) (v := ?v13) (at_op rfl) (by kernel_rfl) (by kernel_rfl) (by kernel_rfl) (fun _ _ _ h => h) (Or.inl ⟨by rfl, ?y13⟩) (by assumption) ?r13
          case y13 =>
            intro wx hSx
            go_simp
            try with_reducible rfl
          try simp only [Act.put, List.setIfInBounds_toArray, List.set_cons_zero, List.set_cons_succ]
          refine wpAnyH_take (i := 13) (v := ?v14) (at_op rfl) (by kernel_rfl) (by kernel_rfl) (by kernel_rfl) (fun _ _ _ h => h) (Or.inl ⟨by rfl, ?y14⟩) (by assumption) ?r14
          case y14 =>
            intro wx hSx
            go_simp
            try with_reducible rfl
          try simp only [Act.put, List.setIfInBounds_toArray, List.set_cons_zero, List.set_cons_succ]
          refine wpAnyH_take (i := 14) (v := ?v15) (at_op rfl) (by kernel_rfl) (by kernel_rfl) (by kernel_rfl) (fun _ _ _ h => h) (Or.inl ⟨by rfl, ?y15⟩) (by assumption) ?r15
          case y15 =>
            intro wx hSx
            obtain ⟨e0, e1⟩ := two_c (blk hSx hC)
            go_simp
            try with_reducible rfl
          try simp only [Act.put, List.setIfInBounds_toArray, List.set_cons_zero, List.set_cons_succ]
          refine wpAnyH_take (i := 15) (v := ?v16) (at_op rfl) (by kernel_rfl) (by kernel_rfl) (by kernel_rfl) (fun _ _ _ h => h) (Or.inl ⟨by rfl, ?y16⟩) (by assumption) ?r16
          case y16 =>
            intro wx hSx
            go_simp
            try with_reducible rfl
          try simp only [Act.put, List.setIfInBounds_toArray, List.set_cons_zero, List.set_cons_succ]
          refine wpAnyH_take (i := 16) (v := .bool true) (at_op rfl) (by kernel_rfl) (by kernel_rfl) (by kernel_rfl) (fun _ _ _ h => h) (Or.inl ⟨by rfl, ?y17⟩) (by assumption) ?r17
          case y17 =>
            intro wx hSx
            skip
            go_simp
            try simp
          try simp only [Act.put, List.setIfInBounds_toArray, List.set_cons_zero, List.set_cons_succ]
          refine wpAnyH_take (i := 17) (v := .bool true) (at_op rfl) (by kernel_rfl) (by kernel_rfl) (by kernel_rfl) (fun _ _ _ h => h) (Or.inl ⟨by rfl, ?y18⟩) (by assumption) ?r18
          case y18 =>
            intro wx hSx
            skip
            go_simp
            try simp
          try simp only [Act.put, List.setIfInBounds_toArray, List.set_cons_zero, List.set_cons_succ]
          refine wpAnyH_take (i := 18) (v := ?v19) (at_op rfl) (by kernel_rfl) (by kernel_rfl) (by kernel_rfl) (fun _ _ _ h => h) (Or.inl ⟨by rfl, ?y19⟩) (by assumption) ?r19
          case y19 =>
            intro wx hSx
            go_simp
            try with_reducible rfl
          try simp only [Act.put, List.setIfInBounds_toArray, List.set_cons_zero, List.set_cons_succ]
          refine wpAnyH_take (i := 19) (v := ?v20) (at_op rfl) (by kernel_rfl) (by kernel_rfl) (by kernel_rfl) (fun _ _ _ h => h) (Or.inl ⟨by rfl, ?y20⟩) (by assumption) ?r20
          case y20 =>
            intro wx hSx
            obtain ⟨e0, e1⟩ := two_c (blk hSx hC)
            go_simp
            try with_reducible rfl
          try simp only [Act.put, List.setIfInBounds_toArray, List.set_cons_zero, List.set_cons_succ]
          refine wpAnyH_take (i := 20) (v := ?v21) (at_op rfl) (by kernel_rfl) (by kernel_rfl) (by kernel_rfl) (fun _ _ _ h => h) (Or.inl ⟨by rfl, ?y21⟩) (by assumption) ?r21
          case y21 =>
            intro wx hSx
            obtain ⟨p0, p1, p2, p3, p4⟩ := (PBox.below hX hSx).five
            go_simp
            try with_reducible rfl
          try simp only [Act.put, List.setIfInBounds_toArray, List.set_cons_zero, List.set_cons_succ]
          refine wpAnyH_take (i := 21) (v := ?v22) (at_op rfl) (by kernel_rfl) (by kernel_rfl) (by kernel_rfl) (fun _ _ _ h => h) (Or.inl ⟨by rfl, ?y22⟩) (by assumption) ?r22
          case y22 =>
            intro wx hSx
            go_simp
            try with_reducible rfl
          try simp only [Act.put, List.setIfInBounds_toArray, List.set_cons_zero, List.set_cons_succ]
          refine wpAnyH_take (i := 22) (v := ?v23) (at_op rfl) (by kernel_rfl) (by kernel_rfl) (by kernel_rfl) (fun _ _ _ h => h) (Or.inl ⟨by rfl, ?y23⟩) (by assumption) ?r23
          case y23 =>
            intro wx hSx
            go_simp
            try with_reducible rfl
          try simp only [Act.put, List.setIfInBounds_toArray, List.set_cons_zero, List.set_cons_succ]
          refine wpAnyH_ready (rs := [23]) (by kernel_rfl) (by simp) ?_
          refine AllReadyH.cons (at_op rfl) (fun K hK => ?_) AllReadyH.nil
          go_simp
          have q := costTop_spec x vs ra ca sa ta va rc cc sc tc vc _ _ _ _ wd _ (hP.below hHeld (Nat.le_refl _)) hHeld.size (hV.below hHeld (Nat.le_refl _)) hHeld.size hZ
          rw [costB_full hok hF, ← hCo.out, ← hCs.out] at q
          refine (q).mono ?_
          rintro e wh24 ⟨rfl, hb⟩
          replace hHeld := hHeld.trans (hb.mono hHeld.size)
          clear hb
          go_wp2_with fail
          refine hK.out _ _ hHeld (fun _ => ?_)
          clear hK K
          try simp only [Act.put, List.setIfInBounds_toArray, List.set_cons_zero, List.set_cons_succ]
          refine wpAnyH_take (i := 24) (v := .bool true) (at_op rfl) (by kernel_rfl) (by kernel_rfl) (by kernel_rfl) (fun _ _ _ h => h) (Or.inl ⟨by rfl, ?y25⟩) (by assumption) ?r25
          case y25 =>
            intro wx hSx
            skip
            go_simp
            try simp
          try simp only [Act.put, List.setIfInBounds_toArray, List.set_cons_zero, List.set_cons_succ]
          refine wpAnyH_take (i := 25) (v := .bool true) (at_op rfl) (by kernel_rfl) (by kernel_rfl) (by kernel_rfl) (fun _ _ _ h => h) (Or.inl ⟨by rfl, ?y26⟩) (by assumption) ?r26
          case y26 =>
            intro wx hSx
            skip
            go_simp
            try simp
          try simp only [Act.put, List.setIfInBounds_toArray, List.set_cons_zero, List.set_cons_succ]
          refine wpAnyH_take (i := 26) (v := ?v27) (at_op rfl) (by kernel_rfl) (by kernel_rfl) (by kernel_rfl) (fun _ _ _ h => h) (Or.inl ⟨by rfl, ?y27⟩) (by assumption) ?r27
          case y27 =>
            intro wx hSx
            go_simp
            try with_reducible rfl
          try simp only [Act.put, List.setIfInBounds_toArray, List.set_cons_zero, List.set_cons_succ]
          refine wpAnyH_take (i := 27) (v := ?v28) (at_op rfl) (by kernel_rfl) (by kernel_rfl) (by kernel_rfl) (fun _ _ _ h => h) (Or.inl ⟨by rfl, ?y28⟩) (by assumption) ?r28
          case y28 =>
            intro wx hSx
            obtain ⟨p0, p1, p2, p3, p4⟩ := (PBox.below hY hSx).five
            go_simp
            try with_reducible rfl
          try simp only [Act.put, List.setIfInBounds_toArray, List.set_cons_zero, List.set_cons_succ]
          refine wpAnyH_take (i := 28) (v := ?v29) (at_op rfl) (by kernel_rfl) (by kernel_rfl) (by kernel_rfl) (fun _ _ _ h => h) (Or.inl ⟨by rfl, ?y29⟩) (by assumption) ?r29
          case y29 =>
            intro wx hSx
            go_simp
            try with_reducible rfl
          try simp only [Act.put, List.setIfInBounds_toArray, List.set_cons_zero, List.set_cons_succ]
          refine wpAnyH_take (i := 30) (v := ?v30) (at_op rfl) (by kernel_rfl) (by kernel_rfl) (by kernel_rfl) (fun _ _ _ h => h) (Or.inl ⟨by rfl, ?y30⟩) (by assumption) ?r30
          case y30 =>
            intro wx hSx
            obtain ⟨p0, p1, p2, p3, p4⟩ := (PBox.below hY hSx).five
            go_simp
            try with_reducible rfl
          try simp only [Act.put, List.setIfInBounds_toArray, List.set_cons_zero, List.set_cons_succ]
          refine wpAnyH_take (i := 31) (v := ?v31) (at_op rfl) (by kernel_rfl) (by kernel_rfl) (by kernel_rfl) (fun _ _ _ h => h) (Or.inl ⟨by rfl, ?y31⟩) (by assumption) ?r31
          case y31 =>
            intro wx hSx
            go_simp
            try with_reducible rfl
          try simp only [Act.put, List.setIfInBounds_toArray, List.set_cons_zero, List.set_cons_succ]
          refine wpAnyH_ready (rs := [29]) (by kernel_rfl) (by simp) ?_
          refine AllReadyH.cons (at_op rfl) (fun K hK => ?_) AllReadyH.nil
          go_simp
          refine (renderTop_impl y us ra2 ca2 sa2 ta2 ua rc2 cc2 sc2 tc2 uc _ _ _ _  _ (hPy.below hHeld (Nat.le_refl _)) hHeld.size (hU.below hHeld (Nat.le_refl _)) hHeld.size hZy).mono ?_
          rintro e wh32 ⟨u5, rfl, hb, hO5⟩
          replace hHeld := hHeld.trans (hb.mono hHeld.size)
          clear hb
          have hV5 := hO5.rd
          obtain ⟨a5, k5, rfl, -, -, -⟩ := hO5.form
          clear hO5
          go_wp2_with fail
          refine hK.out _ _ hHeld (fun _ => ?_)
          clear hK K
          try simp only [Act.put, List.setIfInBounds_toArray, List.set_cons_zero, List.set_cons_succ]
          refine wpAnyH_ready (rs := [32]) (by kernel_rfl) (by simp) ?_
          refine AllReadyH.cons (at_op rfl) (fun K hK => ?_) AllReadyH.nil
          go_simp
          refine (renderTop_spec y us ra2 ca2 sa2 ta2 ua rc2 cc2 sc2 tc2 uc _ _ _ _  _ (hPy.below hHeld (Nat.le_refl _)) hHeld.size (hU.below hHeld (Nat.le_refl _)) hHeld.size hZy).mono ?_
          rintro e wh33 ⟨u6, rfl, hb, hO6⟩
          replace hHeld := hHeld.trans (hb.mono hHeld.size)
          replace hV5 := (hV5.below hb (Nat.le_refl _)).wide (Nat.le_refl _) hb.size
          clear hb
          have hV6 := hO6.rd
          obtain ⟨a6, k6, rfl, -, -, -⟩ := hO6.form
          clear hO6
          go_wp2_with fail
          refine hK.out _ _ hHeld (fun _ => ?_)
          clear hK K
          try simp only [Act.put, List.setIfInBounds_toArray, List.set_cons_zero, List.set_cons_succ]
          refine wpAnyH_ready (rs := [33]) (by kernel_rfl) (by simp) ?_
          refine AllReadyH.cons (at_op rfl) (fun K hK => ?_) AllReadyH.nil
          go_simp
          refine (sameTx_any _ _ _ _ _ _ _ _ hV5 (Nat.le_refl _) hV6 (Nat.le_refl _)).mono ?_
          rintro e wh34 ⟨rfl, hb⟩
          replace hHeld := hHeld.trans (hb.mono hHeld.size)
          clear hb
          go_wp2_with fail
          refine hK.out _ _ hHeld (fun _ => ?_)
          clear hK K
          try simp only [Act.put, List.setIfInBounds_toArray, List.set_cons_zero, List.set_cons_succ]
          clear hV5 hV6
          refine wpAnyH_take (i := 34) (v := .bool true) (at_op rfl) (by kernel_rfl) (by kernel_rfl) (by kernel_rfl) (fun _ _ _ h => h) (Or.inl ⟨by rfl, ?y35⟩) (by assumption) ?r35
          case y35 =>
            intro wx hSx
            skip
            go_simp
            try simp
          try simp only [Act.put, List.setIfInBounds_toArray, List.set_cons_zero, List.set_cons_succ]
          refine wpAnyH_take (i := 35) (v := ?v36) (at_op rfl) (by kernel_rfl) (by kernel_rfl) (by kernel_rfl) (fun _ _ _ h => h) (Or.inl ⟨by rfl, ?y36⟩) (by assumption) ?r36
          case y36 =>
            intro wx hSx
            go_simp
            try with_reducible rfl
          try simp only [Act.put, List.setIfInBounds_toArray, List.set_cons_zero, List.set_cons_succ]
          refine wpAnyH_take (i := 36) (v := ?v37) (at_op rfl) (by kernel_rfl) (by kernel_rfl) (by kernel_rfl) (fun _ _ _ h => h) (Or.inl ⟨by rfl, ?y37⟩) (by assumption) ?r37
          case y37 =>
            intro wx hSx
            obtain ⟨p0, p1, p2, p3, p4⟩ := (PBox.below hZ3 hSx).five
            go_simp
            try with_reducible rfl
          try simp only [Act.put, List.setIfInBounds_toArray, List.set_cons_zero, List.set_cons_succ]
          refine wpAnyH_take (i := 37) (v := ?v38) (at_op rfl) (by kernel_rfl) (by kernel_rfl) (by kernel_rfl) (fun _ _ _ h => h) (Or.inl ⟨by rfl, ?y38⟩) (by assumption) ?r38
          case y38 =>
            intro wx hSx
            go_simp
            try with_reducible rfl
          try simp only [Act.put, List.setIfInBounds_toArray, List.set_cons_zero, List.set_cons_succ]
          refine wpAnyH_take (i := 38) (v := ?v39) (at_op rfl) (by kernel_rfl) (by kernel_rfl) (by kernel_rfl) (fun _ _ _ h => h) (Or.inl ⟨by rfl, ?y39⟩) (by assumption) ?r39
          case y39 =>
            intro wx hSx
            go_simp
            try with_reducible rfl
          try simp only [Act.put, List.setIfInBounds_toArray, List.set_cons_zero, List.set_cons_succ]
          refine wpAnyH_take (i := 40) (v := ?v40) (at_op rfl) (by kernel_rfl) (by kernel_rfl) (by kernel_rfl) (fun _ _ _ h => h) (Or.inl ⟨by rfl, ?y40⟩) (by assumption) ?r40
          case y40 =>
            intro wx hSx
            obtain ⟨p0, p1, p2, p3, p4⟩ := (PBox.below hZ3 hSx).five
            go_simp
            try with_reducible rfl
          try simp only [Act.put, List.setIfInBounds_toArray, List.set_cons_zero, List.set_cons_succ]
          refine wpAnyH_take (i := 41) (v := ?v41) (at_op rfl) (by kernel_rfl) (by kernel_rfl) (by kernel_rfl) (fun _ _ _ h => h) (Or.inl ⟨by rfl, ?y41⟩) (by assumption) ?r41
          case y41 =>
            intro wx hSx
            go_simp
            try with_reducible rfl
          try simp only [Act.put, List.setIfInBounds_toArray, List.set_cons_zero, List.set_cons_succ]
          refine wpAnyH_take (i := 42) (v := ?v42) (at_op rfl) (by kernel_rfl) (by kernel_rfl) (by kernel_rfl) (fun _ _ _ h => h) (Or.inl ⟨by rfl, ?y42⟩) (by assumption) ?r42
          case y42 =>
            intro wx hSx
            go_simp
            try with_reducible rfl
          try simp only [Act.put, List.setIfInBounds_toArray, List.set_cons_zero, List.set_cons_succ]
          refine wpAnyH_ready (rs := [39]) (by kernel_rfl) (by simp) ?_
          refine AllReadyH.cons (at_op rfl) (fun K hK => ?_) AllReadyH.nil
          go_simp
          have q := costTop_impl z ts ra3 ca3 sa3 ta3 sa9 rc3 cc3 sc3 tc3 sc9 _ _ _ _ m _ (hPz.below hHeld (Nat.le_refl _)) hHeld.size (hS.below hHeld (Nat.le_refl _)) hHeld.size hZz
          rw [← hcz.out] at q
          refine (q).mono ?_
          rintro e wh43 ⟨rfl, hb⟩
          replace hHeld := hHeld.trans (hb.mono hHeld.size)
          clear hb
          go_wp2_with fail
          refine hK.out _ _ hHeld (fun _ => ?_)
          clear hK K
          try simp only [Act.put, List.setIfInBounds_toArray, List.set_cons_zero, List.set_cons_succ]
          refine wpAnyH_ready (rs := [43]) (by kernel_rfl) (by simp) ?_
          refine AllReadyH.cons (at_op rfl) (fun K hK => ?_) AllReadyH.nil
          go_simp
          have q := costTop_spec z ts ra3 ca3 sa3 ta3 sa9 rc3 cc3 sc3 tc3 sc9 _ _ _ _ m _ (hPz.below hHeld (Nat.le_refl _)) hHeld.size (hS.below hHeld (Nat.le_refl _)) hHeld.size hZz
          rw [← hcz.out] at q
          refine (q).mono ?_
          rintro e wh44 ⟨rfl, hb⟩
          replace hHeld := hHeld.trans (hb.mono hHeld.size)
          clear hb
          go_wp2_with fail
          refine hK.out _ _ hHeld (fun _ => ?_)
          clear hK K
          try simp only [Act.put, List.setIfInBounds_toArray, List.set_cons_zero, List.set_cons_succ]
          refine wpAnyH_take (i := 44) (v := .bool true) (at_op rfl) (by kernel_rfl) (by kernel_rfl) (by kernel_rfl) (fun _ _ _ h => h) (Or.inl ⟨by rfl, ?y45⟩) (by assumption) ?r45
          case y45 =>
            intro wx hSx
            skip
            go_simp
            try simp
          try simp only [Act.put, List.setIfInBounds_toArray, List.set_cons_zero, List.set_cons_succ]
          refine wpAnyH_take (i := 45) (v := .bool true) (at_op rfl) (by kernel_rfl) (by kernel_rfl) (by kernel_rfl) (fun _ _ _ h => h) (Or.inl ⟨by rfl, ?y46⟩) (by assumption) ?r46
          case y46 =>
            intro wx hSx
            skip
            go_simp
            try simp
          try simp only [Act.put, List.setIfInBounds_toArray, List.set_cons_zero, List.set_cons_succ]
          refine wpAnyH_take (i := 46) (v := ?v47) (at_op rfl) (by kernel_rfl) (by kernel_rfl) (by kernel_rfl) (fun _ _ _ h => h) (Or.inl ⟨by rfl, ?y47⟩) (by assumption) ?r47
          case y47 =>
            intro wx hSx
            go_simp
            try with_reducible rfl
          try simp only [Act.put, List.setIfInBounds_toArray, List.set_cons_zero, List.set_cons_succ]
          refine wpAnyH_take (i := 47) (v := ?v48) (at_op rfl) (by kernel_rfl) (by kernel_rfl) (by kernel_rfl) (fun _ _ _ h => h) (Or.inl ⟨by rfl, ?y48⟩) (by assumption) ?r48
          case y48 =>
            intro wx hSx
            obtain ⟨e0, e1⟩ := two_c (blk hSx hA)
            go_simp
            try with_reducible rfl
          try simp only [Act.put, List.setIfInBounds_toArray, List.set_cons_zero, List.set_cons_succ]
          refine wpAnyH_take (i := 48) (v := ?v49) (at_op rfl) (by kernel_rfl) (by kernel_rfl) (by kernel_rfl) (fun _ _ _ h => h) (Or.inl ⟨by rfl, ?y49⟩) (by assumption) ?r49
          case y49 =>
            intro wx hSx
            obtain ⟨e0, e1⟩ := two_c (blk hSx hB)
            go_simp
            try with_reducible rfl
          try simp only [Act.put, List.setIfInBounds_toArray, List.set_cons_zero, List.set_cons_succ]
          refine wpAnyH_take (i := 50) (v := ?v50) (at_op rfl) (by kernel_rfl) (by kernel_rfl) (by kernel_rfl) (fun _ _ _ h => h) (Or.inl ⟨by rfl, ?y50⟩) (by assumption) ?r50
          case y50 =>
            intro wx hSx
            obtain ⟨e0, e1⟩ := two_c (blk hSx hA)
            go_simp
            try with_reducible rfl
          try simp only [Act.put, List.setIfInBounds_toArray, List.set_cons_zero, List.set_cons_succ]
          refine wpAnyH_take (i := 51) (v := ?v51) (at_op rfl) (by kernel_rfl) (by kernel_rfl) (by kernel_rfl) (fun _ _ _ h => h) (Or.inl ⟨by rfl, ?y51⟩) (by assumption) ?r51
          case y51 =>
            intro wx hSx
            obtain ⟨e0, e1⟩ := two_c (blk hSx hB)
            go_simp
            try with_reducible rfl
          try simp only [Act.put, List.setIfInBounds_toArray, List.set_cons_zero, List.set_cons_succ]
          refine wpAnyH_ready (rs := [49]) (by kernel_rfl) (by simp) ?_
          refine AllReadyH.cons (at_op rfl) (fun K hK => ?_) AllReadyH.nil
          go_simp
          refine (costLess_impl ⟨a0, a1⟩ ⟨b0, b1⟩ _).mono ?_
          rintro e wh52 ⟨rfl, hb⟩
          replace hHeld := hHeld.trans (hb.mono hHeld.size)
          clear hb
          rw [← hcl.out]
          go_wp2_with fail
          refine hK.out _ _ hHeld (fun _ => ?_)
          clear hK K
          try simp only [Act.put, List.setIfInBounds_toArray, List.set_cons_zero, List.set_cons_succ]
          refine wpAnyH_ready (rs := [52]) (by kernel_rfl) (by simp) ?_
          refine AllReadyH.cons (at_op rfl) (fun K hK => ?_) AllReadyH.nil
          go_simp
          refine (costLess_spec ⟨a0, a1⟩ ⟨b0, b1⟩ _).mono ?_
          rintro e wh53 ⟨rfl, hb⟩
          replace hHeld := hHeld.trans (hb.mono hHeld.size)
          clear hb
          rw [← hcl.out]
          go_wp2_with fail
          refine hK.out _ _ hHeld (fun _ => ?_)
          clear hK K
          try simp only [Act.put, List.setIfInBounds_toArray, List.set_cons_zero, List.set_cons_succ]
          refine wpAnyH_take (i := 53) (v := .bool true) (at_op rfl) (by kernel_rfl) (by kernel_rfl) (by kernel_rfl) (fun _ _ _ h => h) (Or.inl ⟨by rfl, ?y54⟩) (by assumption) ?r54
          case y54 =>
            intro wx hSx
            skip
            go_simp
            try simp
          try simp only [Act.put, List.setIfInBounds_toArray, List.set_cons_zero, List.set_cons_succ]
          refine wpAnyH_take (i := 54) (v := .bool true) (at_op rfl) (by kernel_rfl) (by kernel_rfl) (by kernel_rfl) (fun _ _ _ h => h) (Or.inl ⟨by rfl, ?y55⟩) (by assumption) ?r55
          case y55 =>
            intro wx hSx
            skip
            go_simp
            try simp
          try simp only [Act.put, List.setIfInBounds_toArray, List.set_cons_zero, List.set_cons_succ]
          refine wpAnyH_take (i := 55) (v := ?v56) (at_op rfl) (by kernel_rfl) (by kernel_rfl) (by kernel_rfl) (fun _ _ _ h => h) (Or.inl ⟨by rfl, ?y56⟩) (by assumption) ?r56
          case y56 =>
            intro wx hSx
            go_simp
            try with_reducible rfl
          try simp only [Act.put, List.setIfInBounds_toArray, List.set_cons_zero, List.set_cons_succ]
          refine wpAnyH_take (i := 56) (v := ?v57) (at_op rfl) (by kernel_rfl) (by kernel_rfl) (by kernel_rfl) (fun _ _ _ h => h) (Or.inl ⟨by rfl, ?y57⟩) (by assumption) ?r57
          case y57 =>
            intro wx hSx
            go_simp
            try with_reducible rfl
          try simp only [Act.put, List.setIfInBounds_toArray, List.set_cons_zero, List.set_cons_succ]
          refine wpAnyH_take (i := 57) (v := ?v58) (at_op rfl) (by kernel_rfl) (by kernel_rfl) (by kernel_rfl) (fun _ _ _ h => h) (Or.inl ⟨by rfl, ?y58⟩) (by assumption) ?r58
          case y58 =>
            intro wx hSx
            go_simp
            try with_reducible rfl
          try simp only [Act.put, List.setIfInBounds_toArray, List.set_cons_zero, List.set_cons_succ]
          refine wpAnyH_take (i := 59) (v := ?v59) (at_op rfl) (by kernel_rfl) (by kernel_rfl) (by kernel_rfl) (fun _ _ _ h => h) (Or.inl ⟨by rfl, ?y59⟩) (by assumption) ?r59
          case y59 =>
            intro wx hSx
            go_simp
            try with_reducible rfl
          try simp only [Act.put, List.setIfInBounds_toArray, List.set_cons_zero, List.set_cons_succ]
          refine wpAnyH_take (i := 60) (v := ?v60) (at_op rfl) (by kernel_rfl) (by kernel_rfl) (by kernel_rfl) (fun _ _ _ h => h) (Or.inl ⟨by rfl, ?y60⟩) (by assumption) ?r60
          case y60 =>
            intro wx hSx
            go_simp
            try with_reducible rfl
          try simp only [Act.put, List.setIfInBounds_toArray, List.set_cons_zero, List.set_cons_succ]
          refine wpAnyH_ready (rs := [58]) (by kernel_rfl) (by simp) ?_
          refine AllReadyH.cons (at_op rfl) (fun K hK => ?_) AllReadyH.nil
          go_simp
          refine (compare_impl (hAl.below hHeld (Nat.le_refl _)) (hBl.below hHeld (Nat.le_refl _))).mono ?_
          rintro e wh61 ⟨rfl, rfl⟩
          go_wp2_with fail
          refine hK.out _ _ hHeld (fun _ => ?_)
          clear hK K
          try simp only [Act.put, List.setIfInBounds_toArray, List.set_cons_zero, List.set_cons_succ]
          refine wpAnyH_ready (rs := [61]) (by kernel_rfl) (by simp) ?_
          refine AllReadyH.cons (at_op rfl) (fun K hK => ?_) AllReadyH.nil
          go_simp
          refine (compare_spec (hAl.below hHeld (Nat.le_refl _)) hHeld.size (hBl.below hHeld (Nat.le_refl _)) hHeld.size).mono ?_
          rintro e wh62 ⟨rfl, hb⟩
          replace hHeld := hHeld.trans (hb.mono hHeld.size)
          clear hb
          go_wp2_with fail
          refine hK.out _ _ hHeld (fun _ => ?_)
          clear hK K
          try simp only [Act.put, List.setIfInBounds_toArray, List.set_cons_zero, List.set_cons_succ]
          refine wpAnyH_take (i := 62) (v := .bool true) (at_op rfl) (by kernel_rfl) (by kernel_rfl) (by kernel_rfl) (fun _ _ _ h => h) (Or.inl ⟨by rfl, ?y63⟩) (by assumption) ?r63
          case y63 =>
            intro wx hSx
            skip
            go_simp
            try simp
          try simp only [Act.put, List.setIfInBounds_toArray, List.set_cons_zero, List.set_cons_succ]
          refine wpAnyH_take (i := 63) (v := .bool true) (at_op rfl) (by kernel_rfl) (by kernel_rfl) (by kernel_rfl) (fun _ _ _ h => h) (Or.inl ⟨by rfl, ?y64⟩) (by assumption) ?r64
          case y64 =>
            intro wx hSx
            skip
            go_simp
            try simp
          try simp only [Act.put, List.setIfInBounds_toArray, List.set_cons_zero, List.set_cons_succ]
          refine wpAnyH_take (i := 64) (v := ?v65) (at_op rfl) (by kernel_rfl) (by kernel_rfl) (by kernel_rfl) (fun _ _ _ h => h) (Or.inl ⟨by rfl, ?y65⟩) (by assumption) ?r65
          case y65 =>
            intro wx hSx
            go_simp
            try with_reducible rfl
          try simp only [Act.put, List.setIfInBounds_toArray, List.set_cons_zero, List.set_cons_succ]
          refine wpAnyH_take (i := 65) (v := ?v66) (at_op rfl) (by kernel_rfl) (by kernel_rfl) (by kernel_rfl) (fun _ _ _ h => h) (Or.inl ⟨by rfl, ?y66⟩) (by assumption) ?r66
          case y66 =>
            intro wx hSx
            go_simp
            try with_reducible rfl
          try simp only [Act.put, List.setIfInBounds_toArray, List.set_cons_zero, List.set_cons_succ]
          refine wpAnyH_take (i := 66) (v := ?v67) (at_op rfl) (by kernel_rfl) (by kernel_rfl) (by kernel_rfl) (fun _ _ _ h => h) (Or.inl ⟨by rfl, ?y67⟩) (by assumption) ?r67
          case y67 =>
            intro wx hSx
            go_simp
            try with_reducible rfl
          try simp only [Act.put, List.setIfInBounds_toArray, List.set_cons_zero, List.set_cons_succ]
          refine wpAnyH_take (i := 68) (v := ?v68) (at_op rfl) (by kernel_rfl) (by kernel_rfl) (by kernel_rfl) (fun _ _ _ h => h) (Or.inl ⟨by rfl, ?y68⟩) (by assumption) ?r68
          case y68 =>
            intro wx hSx
            go_simp
            try with_reducible rfl
          try simp only [Act.put, List.setIfInBounds_toArray, List.set_cons_zero, List.set_cons_succ]
          refine wpAnyH_take (i := 69) (v := ?v69) (at_op rfl) (by kernel_rfl) (by kernel_rfl) (by kernel_rfl) (fun _ _ _ h => h) (Or.inl ⟨by rfl, ?y69⟩) (by assumption) ?r69
          case y69 =>
            intro wx hSx
            go_simp
            try with_reducible rfl
          try simp only [Act.put, List.setIfInBounds_toArray, List.set_cons_zero, List.set_cons_succ]
          refine wpAnyH_ready (rs := [67]) (by kernel_rfl) (by simp) ?_
          refine AllReadyH.cons (at_op rfl) (fun K hK => ?_) AllReadyH.nil
          go_simp
          refine (compare_impl (hAl.below hHeld (Nat.le_refl _)) (hBl.below hHeld (Nat.le_refl _))).mono ?_
          rintro e wh70 ⟨rfl, rfl⟩
          rw [hcn.out]
          go_wp2_with fail
          refine hK.out _ _ hHeld (fun _ => ?_)
          clear hK K
          try simp only [Act.put, List.setIfInBounds_toArray, List.set_cons_zero, List.set_cons_succ]
          refine wpAnyH_ready (rs := [70]) (by kernel_rfl) (by simp) ?_
          refine AllReadyH.cons (at_op rfl) (fun K hK => ?_) AllReadyH.nil
          go_simp
          refine (compare_impl (hBl.below hHeld (Nat.le_refl _)) (hAl.below hHeld (Nat.le_refl _))).mono ?_
          rintro e wh71 ⟨rfl, rfl⟩
          go_wp2_with fail
          refine hK.out _ _ hHeld (fun _ => ?_)
          clear hK K
          try simp only [Act.put, List.setIfInBounds_toArray, List.set_cons_zero, List.set_cons_succ]
          obtain ⟨cc0, hcc⟩ : ∃ c, Hid (c = cmpL bl al) := ⟨_, rfl⟩
          rw [← hcc.out] at hcb1 hcb2 ⊢
          refine wpAnyH_take (i := 71) (v := .int .i64 (-cc0)) (at_op rfl) (by kernel_rfl) (by kernel_rfl) (by kernel_rfl) (fun _ _ _ h => h) (Or.inl ⟨by rfl, ?y72⟩) (by assumption) ?r72
          case y72 =>
            intro wx hSx
            skip
            go_simp
            first | done | (rw [IntKind.wrap_i64]; omega)
          try simp only [Act.put, List.setIfInBounds_toArray, List.set_cons_zero, List.set_cons_succ]
          refine wpAnyH_take (i := 72) (v := .bool true) (at_op rfl) (by kernel_rfl) (by kernel_rfl) (by kernel_rfl) (fun _ _ _ h => h) (Or.inl ⟨by rfl, ?y73⟩) (by assumption) ?r73
          case y73 =>
            intro wx hSx
            skip
            go_simp
            try simp
          try simp only [Act.put, List.setIfInBounds_toArray, List.set_cons_zero, List.set_cons_succ]
          refine wpAnyH_take (i := 73) (v := .bool true) (at_op rfl) (by kernel_rfl) (by kernel_rfl) (by kernel_rfl) (fun _ _ _ h => h) (Or.inl ⟨by rfl, ?y74⟩) (by assumption) ?r74
          case y74 =>
            intro wx hSx
            skip
            go_simp
            try simp
          try simp only [Act.put, List.setIfInBounds_toArray, List.set_cons_zero, List.set_cons_succ]
          refine wpAnyH_take (i := 74) (v := ?v75) (at_op rfl) (by kernel_rfl) (by kernel_rfl) (by kernel_rfl) (fun _ _ _ h => h) (Or.inl ⟨by rfl, ?y75⟩) (by assumption) ?r75
          case y75 =>
            intro wx hSx
            go_simp
            try with_reducible rfl
          try simp only [Act.put, List.setIfInBounds_toArray, List.set_cons_zero, List.set_cons_succ]
          refine wpAnyH_done (by kernel_rfl) ?_ _
          go_wp2
          go_ret
          exact ⟨rfl, HB.trans (hHeld.mono HB.size)⟩
end Go.Proofs.Ytllpgomloblfjaa
namespace Go.Proofs.Ytllpgomloblfjaa
open Go.ChangeShapes Go.WideShapes Go.ChangeAt Go.RowKit
open Go.ChangeMaps (open_string shut_string)

theorem Try.cellsByte : Try.prog.cellsOf 5 = 1 := by kernel_rfl
theorem opens_byte {P : Program} {t : TypeId} (h : P.underlying t = some (.int .u8)) : Opens P bytF.shape t U8 := by
  intro H enc w base spare held fuel cs x hx
  obtain ⟨n, rfl, _, hw⟩ := DataW.trod_int h hx
  refine ⟨n, rfl, ?_⟩
  simp [Lit.wf, IntKind.min, IntKind.max, IntKind.signed, IntKind.bits] at hw
  unfold U8; omega
set_option maxRecDepth 100000 in
theorem fnRenders_lifted (os : Os) (started : os.Started) (H : Type) (enc : TypeId × Value → H) :
    ReturnsInHanded {} Try.checked os 5 .any (Rows.fnRendersSpec.pre6 enc Try.prog Try.f5 Rows.fnRendersRow.domain false) (Rows.fnRendersSpec.post enc Try.prog Try.f5 false true false false) := by
  refine returnsInHanded_of_change (C := Try.checked) Try.own started (by kernel_rfl) Try.func5
    (ChangeSpec.witness6 (enc := enc) (C := Try.checked) false ⟨#[], #[.slice none 0 0], []⟩ 8 (by kernel_rfl) (by kernel_rfl) (by kernel_rfl) (by kernel_rfl)) ?_
  intro W base args ds gs before hval0 hW _ _
  have hval : ∀ (j : Nat) t v, Try.f5.params[j]? = some t → args[j]? = some v → Value.okWide Try.prog W .any base t v := hval0
  have hW' := hW
  obtain ⟨p, q, hA0, hV, rfl, hfz, hnd⟩ := hW
  have hA : DataW.TrodAll enc Try.prog W 0 (fun _ => true) true Try.f5.params.toList args.toList ds p := hA0
  rw [Try.params5] at hA hval
  obtain ⟨v0, vs0, d0, ds0, p0, q0, hargs, rfl, rfl, h0, r0⟩ := trodAll_cons hA
  obtain ⟨rfl, rfl, rfl⟩ := trodAll_nil r0
  obtain rfl : args = #[v0] := by cases args; simp_all
  obtain ⟨rfl, rfl⟩ := trodVars_none hV
  obtain ⟨xs0, hr0, hk0⟩ := open_sl Try.underlying22 (opens_sl Try.underlying22 Try.cellsByte (by decide) (opens_byte Try.underlying5)) (hval 0 22 v0 rfl rfl) h0
  refine (lawRenders_any xs0 _ W hr0 hk0).mono fun e W' ⟨he, hb⟩ => ?_
  subst he
  exact ⟨_, rfl, law_post Try.laidOut (by intro t ht; rw [Try.params5] at ht; simp at ht; subst ht; exact ⟨by kernel_rfl, of_decide_eq_true (by kernel_rfl)⟩) hW' rfl rfl Try.underlying4 rfl rfl rfl hb⟩

theorem fnRenders_holds : Rows.FnRendersSaid :=
  OpenClaim.holds_of_wide 5 Try.f5 rfl rfl rfl rfl rfl rfl rfl ⟨rfl, rfl, rfl, rfl, rfl⟩ rfl rfl rfl rfl rfl (by kernel_rfl) Try.func5 (by kernel_rfl)
    (of_decide_eq_true (by kernel_rfl)) (by unfold Func.isWrapper; rw [if_neg (of_decide_eq_false (by kernel_rfl))]; exact ⟨rfl, rfl⟩)
    (fun os started H enc _ => fnRenders_lifted os started H enc)
#print axioms fnRenders_holds

end Go.Proofs.Ytllpgomloblfjaa
