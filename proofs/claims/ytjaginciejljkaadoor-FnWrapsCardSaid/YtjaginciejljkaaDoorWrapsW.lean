/- The walk of FnWraps: drawn words, put into lines, are in the lines, and the least ragged lines are the least ragged. By mk_wrapsw.py. -/
import Derived.Test.YtjaginciejljkaaDoorWWraps
import Derived.Test.YtjaginciejljkaaDoorWrapP
namespace Go.Proofs.YtjaginciejljkaaDoor
open Go.RowKit

theorem strAt {lo hi n c : Nat} {w : World} {a : Option Addr} {ss : List ByteArray} (h : Rd strF.shape lo hi w (.slice a n c) ss) {k : Nat} (hk : k < ss.length) : ∃ b off, a = some ⟨b, off, none⟩ ∧ lo ≤ b ∧ b < hi ∧ w.cell? ⟨b, off + k, none⟩ = some (.string ss[k]) := by
  obtain ⟨a', c', e, _, _, _, h5⟩ := h.strF
  injection e with e1 e2 e3
  subst e1
  exact h5 k hk
theorem anyS_succ {ws : List ByteArray} {width : Int} {k : Nat} (h : k < ws.length) : (ws.take (k + 1)).any (fun x => decide (width < (x.size : Int))) = ((ws.take k).any (fun x => decide (width < (x.size : Int))) || decide (width < (ws[k].size : Int))) := by
  rw [List.take_succ_eq_append_getElem h, List.any_append]; simp
set_option maxHeartbeats 8000000 in
set_option maxRecDepth 100000 in
theorem lawWraps_any (xs : List Int) (v : Value) (m : Int) (w : World) (hr : Rd bytS 0 w.heap.size w v xs) (hx : ∀ x ∈ xs, U8 x) (hm : w.cell? ⟨0, 0, none⟩ = some (.int .i64 m)) :
    Calls Tryd.prog 3 #[v] w fun e w' => e = .returned (.bool true) ∧ Below w.heap.size w w' := by
  have HM := Lib.hid (fun w4 (h4 : Below w.heap.size w w4) => (h4.cell (World.block_lt_of_cell? w ⟨0, 0, none⟩ hm)).trans hm)
  clear hm
  go_enter Tryd.func3, Tryd.ntmps3
  go_wp2_with fail
  refine (big_any hr).mono ?_
  rintro e w0 ⟨rfl, rfl⟩
  by_cases hbig : 1048576 < xs.length
  · have hd : decide (1048576 < xs.length) = true := decide_eq_true hbig
    rw [hd]
    go_wp2
    go_ret
    exact ⟨rfl, Below.refl _ _⟩
  · have hd : decide (1048576 < xs.length) = false := decide_eq_false hbig
    rw [hd]
    clear hd
    go_wp2_with fail
    refine (drawWords_any hr (Nat.le_refl _) hx (by omega)).mono ?_
    rintro e w1 ⟨rw_, ws, rfl, hwl, hwd, hoW, hb1⟩
    have hs1 := hb1.size
    have HR0 := Lib.hid (hr.below hb1 (Nat.le_refl _))
    go_wp2_with fail
    refine (drawPlaces_any HR0.out (by omega) hx (by omega)).mono ?_
    rintro e w2 ⟨rp, ps, rfl, hpl, hpb, hoP, hb2⟩
    have hs2 := hb2.size
    obtain ⟨pa, pc, rfl, hp3, hp4, hp5⟩ := hoP.form
    obtain ⟨pb, poff, rfl, _, _, pc0⟩ := Rd.intAt (ks := ps) hoP.rd (k := 0) (by omega)
    rw [Nat.add_zero] at pc0
    obtain ⟨pz1, pz2⟩ := hpb _ (show ps.getD 0 0 ∈ ps by rw [List.getD_eq_getElem?_getD, List.getElem?_eq_getElem (by omega)]; exact List.getElem_mem _)
    have hp0 : (0 : Int) < (ps.length : Int) := by omega
    have HB12 := Lib.hid (hb1.trans (hb2.mono hs1))
    have HRW := Lib.hid (fun w4 (h4 : Below w2.heap.size w2 w4) => (hoW.rd.below (hb2.trans (h4.mono hs2)) (Nat.le_refl _)).wide (Nat.le_refl _) (Nat.le_trans hs2 h4.size))
    have HWD := Lib.hid hwd
    have HZ : Hid (∀ x ∈ ws, x.size ≤ 1000) := fun x hx => by have := (hwd x hx).2; omega
    have hsum : szSum ws + ws.length ≤ 1000 := by
      have := sz_bound (M := 20) (fun x hx => (hwd x hx).2)
      have : 20 * ws.length ≤ 220 := by omega
      omega
    have HW := Lib.hid (fun width => wraps_law (ws := ws) (width := width) (fun x hx => (hwd x hx).1) (by omega))
    generalize ps.getD 0 0 = p0 at *
    obtain ⟨wa, wc, rfl, k2, k3, k4⟩ := hoW.form
    unfold maxLen at k3
    have hm1 := Int.emod_nonneg p0 (show (20 : Int) ≠ 0 by decide)
    have hm2 := Int.emod_lt_of_pos p0 (show (0 : Int) < 20 by decide)
    clear hpb hwd hoP hoW hp3 hp4 hp5
    go_wp2_with fail
    clear pc0
    generalize hwid : 6 + p0 % 20 = wid at *
    have hw6 : 6 ≤ wid := by omega
    have hw25 : wid ≤ 25 := by omega
    have HI : Hid (I64 wid) := by show I64 wid; unfold I64; omega
    obtain ⟨l1, l2, l3, l4, l5, l6⟩ := HW.out wid
    have HL1 := Lib.hid l1
    have HL2 := Lib.hid l2
    have HL3 := Lib.hid l3
    have HL4 := Lib.hid l4
    have HL5 := Lib.hid l5
    have HL6 := Lib.hid l6
    clear hwid hm1 hm2 HW l1 l2 l3 l4 l5 l6
    refine (Greedy_impl wid (HRW.out w2 (Below.refl _ _)) (Nat.le_refl _) (by omega)).mono ?_
    rintro e w3 ⟨ga, rfl, hb3, hoA⟩
    have hs3 := hb3.size
    go_wp2_with fail
    refine (bestWrap_impl wid (HRW.out w3 hb3) (Nat.le_refl _) HZ.out HI.out).mono ?_
    rintro e w4 ⟨gb, rfl, hb4, hoB⟩
    have hs4 := hb4.size
    have HB4 := Lib.hid (hb3.trans (hb4.mono hs3))
    have HRA := Lib.hid (fun w5 (h5 : Below w4.heap.size w4 w5) => (hoA.rd.below (hb4.trans (h5.mono hs4)) (Nat.le_refl _)).wide (Nat.le_refl _) (Nat.le_trans hs4 h5.size))
    have HRB := Lib.hid (fun w5 (h5 : Below w4.heap.size w4 w5) => (hoB.rd.below h5 (Nat.le_refl _)).wide (Nat.le_refl _) h5.size)
    have HGL := Lib.hid (greedyL_len 0 wid ws)
    have HBL := Lib.hid (best_len (ws := ws) (width := wid))
    have HGZ := Lib.hid (greedyL_size (ahead := 0) (width := wid) (ws := ws))
    have HBZ := Lib.hid (best_size (width := wid) HZ.out)
    have HRW4 := Lib.hid (fun w5 (h5 : Below w4.heap.size w4 w5) => HRW.out w5 (HB4.out.trans (h5.mono (by omega))))
    have HB14 := Lib.hid (HB12.out.trans (HB4.out.mono (by omega)))
    generalize greedyL 0 wid ws = la at *
    generalize bestL ws wid = lb at *
    obtain ⟨aa, ac, rfl, a2, a3, a4⟩ := hoA.form
    obtain ⟨ba, bc, rfl, b2, b3, b4⟩ := hoB.form
    unfold maxLen at a3 b3
    have hla := Nat.le_trans HGL.out hwl
    have hlb := Nat.le_trans HBL.out hwl
    clear hoA hoB hb3 hb4 HB4 HRW hb1 hb2 hr hx
    go_wp2
    go_loop [7, 8] (fun lg i => ∃ k : Nat, k ≤ ws.length ∧ i = .int .i64 k ∧ lg = .bool ((ws.take k).any fun x => decide (wid < (x.size : Int)))) (fun _ i => ws.length - (intOf i).toNat)
    case atStart => exact ⟨0, Nat.zero_le _, rfl, rfl⟩
    case round =>
      obtain ⟨k, hk, rfl, rfl⟩ := hrel
      by_cases hlt : k < ws.length
      · have hki : (k : Int) < (ws.length : Int) := by omega
        have hkz : (0 : Int) ≤ (k : Int) := by omega
        obtain ⟨wb, woff, rfl, _, _, c0⟩ := strAt (HRW4.out w4 (Below.refl _ _)) hlt
        have HS := Lib.hid (anyS_succ (width := wid) hlt)
        generalize ws[k] = x at *
        obtain ⟨bq, hbq⟩ : ∃ bq, Hid ((ws.take k).any (fun x => decide (wid < (x.size : Int))) = bq) := ⟨_, rfl⟩
        rw [hbq.out] at HS ⊢
        cases bq with
        | true =>
          go_wp2
          go_round
          case rel => exact ⟨k + 1, by omega, by go_num, by rw [HS.out]; rfl⟩
          case measure => simp [intOf]; omega
        | false =>
          by_cases hg : (x.size : Int) > wid
          · have hd : decide (wid < (x.size : Int)) = true := decide_eq_true hg
            rw [hd] at HS
            go_wp2
            go_round
            case rel => exact ⟨k + 1, by omega, by go_num, by rw [HS.out]; rfl⟩
            case measure => simp [intOf]; omega
          · have hd : decide (wid < (x.size : Int)) = false := decide_eq_false (by omega)
            rw [hd] at HS
            go_wp2
            go_round
            case rel => exact ⟨k + 1, by omega, by go_num, by rw [HS.out]; rfl⟩
            case measure => simp [intOf]; omega
      · have hki : ¬ (k : Int) < (ws.length : Int) := by omega
        obtain rfl : k = ws.length := by omega
        have HLG : Hid ((ws.take ws.length).any (fun x => decide (wid < (x.size : Int))) = false → la.length ≤ lb.length) := fun h => by
          rw [List.take_length, List.any_eq_false] at h
          exact HL5.out (fun x hx => by have := h x hx; simpa using this)
        generalize (ws.take ws.length).any (fun x => decide (wid < (x.size : Int))) = lg at *
        go_wp2
        go_loopw [9, 10] (fun s i wr => ∃ k : Nat, k ≤ la.length ∧ i = .int .i64 k ∧ s = .string (flatB (la.take k)) ∧ Below w4.heap.size w4 wr) (fun _ i _ => la.length - (intOf i).toNat)
        case atStart => exact ⟨0, Nat.zero_le _, rfl, rfl, Below.refl _ _⟩
        case round =>
          obtain ⟨k, hk, rfl, rfl, hb⟩ := hrel
          have hsz := hb.size
          by_cases hlt : k < la.length
          · have hki : (k : Int) < (la.length : Int) := by omega
            have hkz : (0 : Int) ≤ (k : Int) := by omega
            obtain ⟨ab, aoff, rfl, hab1, hab2, c0⟩ := strAt (HRA.out w4 (Below.refl _ _)) hlt
            have HCA := Lib.hid (fun w5 (h5 : Below w4.heap.size w4 w5) => (h5.cell (p := ⟨ab, aoff + k, none⟩) (by show ab < _; omega)).trans c0)
            have d0 := HCA.out wr hb
            have HFB := Lib.hid (flatB_succ hlt)
            have hz1 := HGZ.out _ (List.getElem_mem hlt)
            have hfz := flatB_size (ls := la.take k) (M := 1000) (fun x hx => by have := HGZ.out x (List.mem_of_mem_take hx); omega)
            rw [List.length_take] at hfz
            have HONE := Lib.hid (HL6.out _ (List.getElem_mem hlt))
            clear c0
            generalize la[k] = x at *
            generalize flatB (la.take k) = fb at *
            have hfz2 : fb.size ≤ 11011 := by omega
            have q3 : ¬ 9223372036854775807 < fb.size + x.size := by omega
            have q4 : ¬ 9223372036854775807 < fb.size + x.size + 1 := by omega
            clear hfz
            by_cases hg : (x.size : Int) > wid
            · have HL : Hid ((wordsB x).length = 1) := HONE.out hg
              go_wp2_with fail
              refine (wordsOf_impl x m wr (by omega) (HM.out wr (HB14.out.trans (hb.mono (by omega))))).mono ?_
              rintro e w5 ⟨u, rfl, hb5, hO5⟩
              have HB5 := Lib.hid (hb.trans (hb5.mono hsz))
              have d1 := HCA.out w5 HB5.out
              obtain ⟨ua, uc, rfl, u2, u3, u4⟩ := hO5.form
              rw [HL.out] at *
              clear d0 hO5 u2 u3 u4
              go_wp2
              go_roundw
              case rel => exact ⟨k + 1, by omega, by go_num, by rw [HFB.out], HB5.out⟩
              case measure => simp [intOf]; omega
            · go_wp2
              go_roundw
              case rel => exact ⟨k + 1, by omega, by go_num, by rw [HFB.out], hb⟩
              case measure => simp [intOf]; omega
          · have hki : ¬ (k : Int) < (la.length : Int) := by omega
            have HFA : Hid (wordsB (flatB (la.take k)) = ws) := by show _ = _; rw [List.take_of_length_le (by omega)]; exact HL1.out
            have hfa := flatB_size (ls := la.take k) (M := 1000) (fun x hx => by have := HGZ.out x (List.mem_of_mem_take hx); omega)
            rw [List.length_take] at hfa
            have hfa2 : (flatB (la.take k)).size ≤ 11011 := by omega
            clear hfa
            generalize flatB (la.take k) = fa at *
            obtain ⟨w5, rfl⟩ : ∃ w5, w5 = wr := ⟨_, rfl⟩
            go_wp2
            go_loop [11, 12] (fun s i => ∃ k : Nat, k ≤ lb.length ∧ i = .int .i64 k ∧ s = .string (flatB (lb.take k))) (fun _ i => lb.length - (intOf i).toNat)
            case atStart => exact ⟨0, Nat.zero_le _, rfl, rfl⟩
            case round =>
              obtain ⟨k, hk, rfl, rfl⟩ := hrel
              by_cases hlt : k < lb.length
              · have hki : (k : Int) < (lb.length : Int) := by omega
                have hkz : (0 : Int) ≤ (k : Int) := by omega
                obtain ⟨bb, boff, rfl, _, _, c0⟩ := strAt (HRB.out w5 hb) hlt
                have HFB := Lib.hid (flatB_succ hlt)
                have hz1 := HBZ.out _ (List.getElem_mem hlt)
                have hfz := flatB_size (ls := lb.take k) (M := 11011) (fun x hx => by have := HBZ.out x (List.mem_of_mem_take hx); omega)
                rw [List.length_take] at hfz
                generalize lb[k] = x at *
                generalize flatB (lb.take k) = fb at *
                have hfz2 : fb.size ≤ 121132 := by omega
                have q3 : ¬ 9223372036854775807 < fb.size + x.size := by omega
                have q4 : ¬ 9223372036854775807 < fb.size + x.size + 1 := by omega
                clear hfz
                go_wp2
                go_round
                case rel => exact ⟨k + 1, by omega, by go_num, by rw [HFB.out]⟩
                case measure => simp [intOf]; omega
              · have hki : ¬ (k : Int) < (lb.length : Int) := by omega
                have HFB : Hid (wordsB (flatB (lb.take k)) = ws) := by show _ = _; rw [List.take_of_length_le (by omega)]; exact HL2.out
                have hfb := flatB_size (ls := lb.take k) (M := 11011) (fun x hx => by have := HBZ.out x (List.mem_of_mem_take hx); omega)
                rw [List.length_take] at hfb
                have hfb2 : (flatB (lb.take k)).size ≤ 121132 := by omega
                clear hfb
                generalize flatB (lb.take k) = fb at *
                go_wp2_with fail
                refine (leastRag_impl wid (HRW4.out w5 hb) (by omega) HZ.out HI.out).mono ?_
                rintro e w6 ⟨rfl, hb6⟩
                have hs6 := hb6.size
                have HB6 := Lib.hid (hb.trans (hb6.mono hsz))
                go_wp2_with fail
                refine (wordsOf_spec fa _ (by omega)).mono ?_
                rintro e w7 ⟨u7, rfl, hb7, hO7⟩
                have hs7 := hb7.size
                rw [HFA.out] at hO7
                have HB7 := Lib.hid (HB6.out.trans (hb7.mono (by omega)))
                go_wp2_with fail
                refine (sameTx_any ws _ _ _ _ _ _ w7 hO7.rd (Nat.le_refl _) (HRW4.out w7 HB7.out) (Nat.le_refl _)).mono ?_
                rintro e w8 ⟨rfl, hb8⟩
                have hs8 := hb8.size
                have HB8 := Lib.hid (HB7.out.trans (hb8.mono (by omega)))
                go_wp2_with fail
                refine (wordsOf_spec fb _ (by omega)).mono ?_
                rintro e w9 ⟨u9, rfl, hb9, hO9⟩
                have hs9 := hb9.size
                rw [HFB.out] at hO9
                have HB9 := Lib.hid (HB8.out.trans (hb9.mono (by omega)))
                go_wp2_with fail
                refine (sameTx_any ws _ _ _ _ _ _ w9 hO9.rd (Nat.le_refl _) (HRW4.out w9 HB9.out) (Nat.le_refl _)).mono ?_
                rintro e w10 ⟨rfl, hb10⟩
                have hs10 := hb10.size
                have HB10 := Lib.hid (HB9.out.trans (hb10.mono (by omega)))
                have HRO1 := Lib.hid (ragOf_impl wid (HRB.out w10 HB10.out) (by omega) (fun x hx => by have := HBZ.out x hx; omega) HI.out)
                have HRO2 := Lib.hid (ragOf_impl wid (HRA.out w10 HB10.out) (by omega) (fun x hx => by have := HGZ.out x hx; omega) HI.out)
                rw [← HL3.out] at HRO1
                have hle := HL4.out
                generalize leastL ws wid = lv at *
                generalize ragL wid la = gv at *
                have HFIN := Lib.hid (HB14.out.trans (HB10.out.mono (by omega)))
                go_wp2_with fail
                refine HRO1.out.mono ?_
                rintro e w' ⟨rfl, rfl⟩
                go_wp2_with fail
                refine HRO2.out.mono ?_
                rintro e w' ⟨rfl, rfl⟩
                cases lg with
                | true =>
                  go_wp2
                  go_ret
                  exact ⟨rfl, HFIN.out⟩
                | false =>
                  have hab : (la.length : Int) ≤ (lb.length : Int) := by have := HLG.out rfl; omega
                  go_wp2
                  go_ret
                  exact ⟨rfl, HFIN.out⟩
end Go.Proofs.YtjaginciejljkaaDoor
