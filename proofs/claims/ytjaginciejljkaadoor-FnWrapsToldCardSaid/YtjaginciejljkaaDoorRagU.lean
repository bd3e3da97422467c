/- The table of the reference: costs, and how many words. By mk_ragt.py. -/
import Derived.Test.YtjaginciejljkaaDoorRagT
namespace Go.Proofs.YtjaginciejljkaaDoor
open Go.RowKit

set_option maxHeartbeats 4000000 in
set_option maxRecDepth 100000 in
theorem table_spec {ws : List ByteArray} {v : Value} {lo hi : Nat} {w : World} (width : Int) (hr : Rd strF.shape lo hi w v ws) (hh : hi ≤ w.heap.size) (hn : ws.length ≤ 60) (hz : ∀ x ∈ ws, x.size ≤ 1000) (hI : I64 width) :
    Calls Tryd.prog 40 #[v, .int .i64 width] w fun e w' => ∃ G, e = .returned (.tuple #[.slice (some ⟨w.heap.size, 0, none⟩) (ws.length + 1) (ws.length + 1), .slice (some ⟨G, 0, none⟩) (ws.length + 1) (ws.length + 1)]) ∧ w.heap.size < G ∧ Below w.heap.size w w' ∧ IOwn w.heap.size w' (ws.length + 1) (tabK ws width ws.length) ∧ IOwn G w' (ws.length + 1) (manyK ws width ws.length) := by
  obtain ⟨i0, hi0, hz0, hz1, hz2⟩ := info_parts Tryd.infoInt1
  have HRB := Lib.hid (fun w4 (h4 : Below w.heap.size w w4) => hr.below h4 hh)
  obtain ⟨a, c, rfl, h2, h3, h4, h5⟩ := hr.strF
  have HZ := Lib.hid hz
  have HI := Lib.hid hI
  clear hz hI
  unfold maxLen at h3
  go_enter Tryd.func40, Tryd.ntmps40
  go_wp2_with (at_make; refine wpList_make_full _ rfl _ _ 26 rfl w.heap.size 3 i0 _ 1 Tryd.underlying26 hi0 hz0 hz1 _ _ _ _ (ws.length + 1) rfl rfl rfl rfl ?b1 ?b2 ?b3 ?_)
  case b1 => first | omega | (rw [hz2]; omega)
  case b2 => first | (unfold maxLen; omega) | omega
  try (case b3 => exact Nat.le_refl _)
  intro w0 hown hgr
  have hb0 : Below w.heap.size w w0 := (Below.refl _ _).grown hgr (Nat.le_refl _) (fun k hk => by cases hk)
  have hO0 : IOwn w.heap.size w0 (ws.length + 1) (tabK ws width 0) := IOwn.made hown
  have hs0 : w.heap.size < w0.heap.size := hO0.size
  clear hown hgr
  go_wp2_with (at_make; refine wpList_make_full _ rfl _ _ 26 rfl w0.heap.size 3 i0 _ 1 Tryd.underlying26 hi0 hz0 hz1 _ _ _ _ (ws.length + 1) rfl rfl rfl rfl ?b1 ?b2 ?b3 ?_)
  case b1 => first | omega | (rw [hz2]; omega)
  case b2 => first | (unfold maxLen; omega) | omega
  try (case b3 => exact Nat.le_refl _)
  intro w1 hown hgr
  have hb01 : Below w0.heap.size w0 w1 := (Below.refl _ _).grown hgr (Nat.le_refl _) (fun k hk => by cases hk)
  have hM : IOwn w0.heap.size w1 (ws.length + 1) (manyK ws width 0) := IOwn.made hown
  have hb1 : Below w.heap.size w w1 := hb0.trans (hb01.mono (by omega))
  have hO : IOwn w.heap.size w1 (ws.length + 1) (tabK ws width 0) := hO0.below (hb01.mono hs0)
  clear hown hgr hO0 hb0 hb01
  generalize hB : w.heap.size = B at *
  generalize w0.heap.size = G at *
  go_wp2
  go_loopw [9] (fun i wr => ∃ q : Nat, q ≤ ws.length ∧ i = .int .i64 ((q : Int) - 1) ∧ Below B w wr ∧ IOwn B wr (ws.length + 1) (tabK ws width (ws.length - q)) ∧ IOwn G wr (ws.length + 1) (manyK ws width (ws.length - q))) (fun i _ => (intOf i + 1).toNat)
  case atStart => exact ⟨ws.length, Nat.le_refl _, rfl, hb1, (by rw [Nat.sub_self]; exact hO), (by rw [Nat.sub_self]; exact hM)⟩
  case round =>
    clear hb1 hO hM
    obtain ⟨q, hq, rfl, hb, hO, hM⟩ := hrel
    cases q with
    | zero =>
      go_wp2
      refine bodyPost_ret (v := .tuple #[.slice (some ⟨B, 0, none⟩) (ws.length + 1) (ws.length + 1), .slice (some ⟨G, 0, none⟩) (ws.length + 1) (ws.length + 1)]) (by simp [results, Tryd.results40, go_sem]) rfl ?_
      subst hB
      exact ⟨G, rfl, hs0, hb, hO, hM⟩
    | succ i =>
      rw [show ((i + 1 : Nat) : Int) - 1 = (i : Int) by omega]
      have hig : (i : Int) ≥ 0 := by omega
      have HTB := Lib.hid (tab_bound (ws := ws) (width := width) (ws.length - (i + 1)))
      have HT0 := Lib.hid (set_self (tabK_zero (ws := ws) (width := width) (ws.length - (i + 1)) (by omega) i (by omega)))
      have HTN := Lib.hid (tab_next (ws := ws) (width := width) hq)
      have HTL := Lib.hid (tabK_len (ws := ws) (width := width) (ws.length - (i + 1)))
      have HM0 := Lib.hid (set_self (manyK_zero (ws := ws) (width := width) (ws.length - (i + 1)) (by omega) i (by omega)))
      have HMN := Lib.hid (many_next (ws := ws) (width := width) hq)
      have hk60 : ws.length - (i + 1) ≤ 60 := by omega
      generalize tabK ws width (ws.length - (i + 1)) = T at *
      generalize manyK ws width (ws.length - (i + 1)) = M at *
      generalize ws.length - (i + 1) = k9 at *
      have HMB := Lib.hid (fun t => min_bound (ws := ws) (width := width) (i := i) HTB.out t)
      go_wp2
      go_loopw [10, 11] (fun s j wr => ∃ (t j' : Nat), Hid (j' = i + t) ∧ j' ≤ ws.length ∧ s = .int .i64 (lineS ws i t) ∧ j = .int .i64 j' ∧ Below B w wr ∧ IOwn B wr (ws.length + 1) (T.set i (minS ws width T i t)) ∧ IOwn G wr (ws.length + 1) (M.set i (manyS ws width T i t : Nat))) (fun _ j _ => ws.length - (intOf j).toNat)
      case atStart => exact ⟨0, i, rfl, by omega, rfl, rfl, hb, (by rw [minS, HT0.out]; exact hO), (by rw [manyS, Int.natCast_zero, HM0.out]; exact hM)⟩
      case round =>
        clear hb hO hM
        obtain ⟨t, j, HJ, hj, rfl, rfl, hb, hO, hM⟩ := hrel
        have hB9 := hO.size
        by_cases hlt : j < ws.length
        · have hji : (j : Int) < (ws.length : Int) := by omega
          have hjz : (0 : Int) ≤ (j : Int) := by omega
          have hji1 : (j : Int) + 1 < (ws.length : Int) + 1 := by omega
          have hjz1 : (0 : Int) ≤ (j : Int) + 1 := by omega
          have e1 : ((j : Int) + 1).toNat = j + 1 := by omega
          have e2 : IntKind.i64.wrap ((j : Int) + 1) = (j : Int) + 1 := IntWalk.i64_in _ (by omega)
          have hin : (i : Int) < (ws.length : Int) + 1 := by omega
          obtain ⟨b, off, rfl, hlo, hhi, c0⟩ := h5 j hlt
          have d0 := (hb.cell (p := ⟨b, _, none⟩) (by show b < _; omega)).trans c0
          have HSZ : Hid (szA ws (i + t) = (ws[j].size : Int)) := by have := HJ.out; show szA ws (i + t) = _; rw [← this]; unfold szA; rw [getD_at hlt]
          have hx1 := HZ.out _ (List.getElem_mem hlt)
          have HLS : Hid (lineS ws i (t + 1) = lineS ws i t + (1 + (ws[j].size : Int))) := by show _ = _; rw [lineS, HSZ.out]
          have hl1 := lineS_ge (ws := ws) i t
          have hl2 := lineS_le HZ.out i t
          have hl3 : lineS ws i t ≤ 61000 := by have := HJ.out; omega
          have HCT : Hid (∀ bl : Bool, decide (i + (t + 1) = ws.length) = bl → cstT ws width T i (t + 1) = ragI (lineS ws i t + (1 + (ws[j].size : Int))) width bl + T.getD (j + 1) 0) := fun bl h => by
            have := HJ.out
            unfold cstT
            rw [h, HLS.out, show i + (t + 1) = j + 1 by omega]
          generalize ws[j] = x at *
          clear c0 hl2
          generalize lineS ws i t = z0 at *
          obtain ⟨bl, hbl⟩ : ∃ bl, ((j : Int) + 1 == (ws.length : Int)) = bl := ⟨_, rfl⟩
          have hdl : decide (i + (t + 1) = ws.length) = bl := by
            have := HJ.out
            rw [← hbl]
            by_cases e : i + (t + 1) = ws.length
            · rw [decide_eq_true e, beq_iff_eq.2 (by omega)]
            · rw [decide_eq_false e, beq_eq_false_iff_ne.2 (by omega)]
          have HCT2 := Lib.hid (HCT.out bl hdl)
          clear hdl
          have uc := hO.cell (k := j + 1) (by omega)
          rw [getDi_set, if_neg (by have := HJ.out; omega)] at uc
          have uc2 := hO.cell (k := i) (by omega)
          rw [getDi_set, if_pos ⟨rfl, by rw [HTL.out]; omega⟩] at uc2
          have f0 := hO.frozen i
          have m0 := hM.frozen i
          have mc := hM.cell (k := i) (by omega)
          have hrg1 := ragI_ge (z0 + (1 + (x.size : Int))) width bl
          have hrg2 := ragI_le (z0 + (1 + (x.size : Int))) width bl
          obtain ⟨htv1, htv2⟩ := HTB.out (j + 1)
          obtain ⟨hmn1, hmn2⟩ := HMB.out t
          have HMS : Hid (∀ c, cstT ws width T i (t + 1) = c → (t = 0 ∨ c < minS ws width T i t) → minS ws width T i (t + 1) = c ∧ manyS ws width T i (t + 1) = t + 1) := fun c e h => by
            rw [minS, manyS, e, if_pos h, if_pos h]; exact ⟨rfl, rfl⟩
          have HMO : Hid (∀ c, cstT ws width T i (t + 1) = c → ¬ (t = 0 ∨ c < minS ws width T i t) → minS ws width T i (t + 1) = minS ws width T i t ∧ manyS ws width T i (t + 1) = manyS ws width T i t) := fun c e h => by
            rw [minS, manyS, e, if_neg h, if_neg h]; exact ⟨rfl, rfl⟩
          have HLR : Hid (∀ w, Calls Tryd.prog 39 #[.int .i64 (z0 + 1 + (x.size : Int)), .int .i64 width, .bool bl] w fun e w' => e = .returned (.int .i64 (ragI (z0 + (1 + (x.size : Int))) width bl)) ∧ w' = w) := fun w => by
            rw [← show z0 + (1 + (x.size : Int)) = z0 + 1 + (x.size : Int) by omega]
            exact l17Line_any _ width bl w (by omega) (by omega) HI.out
          generalize ragI (z0 + (1 + (x.size : Int))) width bl = rg at *
          generalize T.getD (j + 1) 0 = tv at *
          have HMS2 := Lib.hid (HMS.out _ HCT2.out)
          have HMO2 := Lib.hid (HMO.out _ HCT2.out)
          have HLS2 : Hid (lineS ws i (t + 1) = z0 + 1 + (x.size : Int)) := by show _ = _; rw [HLS.out]; omega
          clear HMS HMO HLS HCT
          have e4 : IntKind.i64.wrap (tv + rg) = tv + rg := IntWalk.i64_in _ (by omega)
          have HCM := Lib.hid (Int.add_comm tv rg)
          go_wp2_with fail
          refine wp_region_held_drew (S := fun w' => w' = wr.drew) (by kernel_rfl) ?_ (fun hHeld => ?_)
          · exact rfl
          refine wpAnyH_take (i := 0) (v := ?v1) (at_op rfl) (by kernel_rfl) (by kernel_rfl) (by kernel_rfl) (fun _ _ _ h => h) (Or.inl ⟨by rfl, ?y1⟩) (by assumption) ?r1
          case y1 =>
            intro wx hSx
            subst hSx
            go_simp
            try with_reducible rfl
          try simp only [Act.put, List.setIfInBounds_toArray, List.set_cons_zero, List.set_cons_succ]
          refine wpAnyH_take (i := 1) (v := ?v2) (at_op rfl) (by kernel_rfl) (by kernel_rfl) (by kernel_rfl) (fun _ _ _ h => h) (Or.inl ⟨by rfl, ?y2⟩) (by assumption) ?r2
          case y2 =>
            intro wx hSx
            subst hSx
            go_simp
            try with_reducible rfl
          try simp only [Act.put, List.setIfInBounds_toArray, List.set_cons_zero, List.set_cons_succ]
          refine wpAnyH_take (i := 2) (v := ?v3) (at_op rfl) (by kernel_rfl) (by kernel_rfl) (by kernel_rfl) (fun _ _ _ h => h) (Or.inl ⟨by rfl, ?y3⟩) (by assumption) ?r3
          case y3 =>
            intro wx hSx
            subst hSx
            go_simp
            try with_reducible rfl
          try simp only [Act.put, List.setIfInBounds_toArray, List.set_cons_zero, List.set_cons_succ]
          refine wpAnyH_take (i := 3) (v := ?v4) (at_op rfl) (by kernel_rfl) (by kernel_rfl) (by kernel_rfl) (fun _ _ _ h => h) (Or.inl ⟨by rfl, ?y4⟩) (by assumption) ?r4
          case y4 =>
            intro wx hSx
            subst hSx
            go_simp
            try with_reducible rfl
          try simp only [Act.put, List.setIfInBounds_toArray, List.set_cons_zero, List.set_cons_succ]
          refine wpAnyH_take (i := 4) (v := ?v5) (at_op rfl) (by kernel_rfl) (by kernel_rfl) (by kernel_rfl) (fun _ _ _ h => h) (Or.inl ⟨by rfl, ?y5⟩) (by assumption) ?r5
          case y5 =>
            intro wx hSx
            subst hSx
            go_simp
            try with_reducible rfl
          try simp only [Act.put, List.setIfInBounds_toArray, List.set_cons_zero, List.set_cons_succ]
          refine wpAnyH_take (i := 5) (v := ?v6) (at_op rfl) (by kernel_rfl) (by kernel_rfl) (by kernel_rfl) (fun _ _ _ h => h) (Or.inl ⟨by rfl, ?y6⟩) (by assumption) ?r6
          case y6 =>
            intro wx hSx
            subst hSx
            go_simp
            try with_reducible rfl
          try simp only [Act.put, List.setIfInBounds_toArray, List.set_cons_zero, List.set_cons_succ]
          refine wpAnyH_take (i := 6) (v := ?v7) (at_op rfl) (by kernel_rfl) (by kernel_rfl) (by kernel_rfl) (fun _ _ _ h => h) (Or.inl ⟨by rfl, ?y7⟩) (by assumption) ?r7
          case y7 =>
            intro wx hSx
            subst hSx
            go_simp
            try with_reducible rfl
          try simp only [Act.put, List.setIfInBounds_toArray, List.set_cons_zero, List.set_cons_succ]
          refine wpAnyH_take (i := 7) (v := ?v8) (at_op rfl) (by kernel_rfl) (by kernel_rfl) (by kernel_rfl) (fun _ _ _ h => h) (Or.inl ⟨by rfl, ?y8⟩) (by assumption) ?r8
          case y8 =>
            intro wx hSx
            subst hSx
            go_simp
            try with_reducible rfl
          try simp only [Act.put, List.setIfInBounds_toArray, List.set_cons_zero, List.set_cons_succ]
          refine wpAnyH_take (i := 8) (v := ?v9) (at_op rfl) (by kernel_rfl) (by kernel_rfl) (by kernel_rfl) (fun _ _ _ h => h) (Or.inl ⟨by rfl, ?y9⟩) (by assumption) ?r9
          case y9 =>
            intro wx hSx
            subst hSx
            go_simp
            try with_reducible rfl
          try simp only [Act.put, List.setIfInBounds_toArray, List.set_cons_zero, List.set_cons_succ]
          refine wpAnyH_take (i := 9) (v := ?v10) (at_op rfl) (by kernel_rfl) (by kernel_rfl) (by kernel_rfl) (fun _ _ _ h => h) (Or.inl ⟨by rfl, ?y10⟩) (by assumption) ?r10
          case y10 =>
            intro wx hSx
            subst hSx
            go_simp
            try with_reducible rfl
          try simp only [Act.put, List.setIfInBounds_toArray, List.set_cons_zero, List.set_cons_succ]
          refine wpAnyH_take (i := 10) (v := ?v11) (at_op rfl) (by kernel_rfl) (by kernel_rfl) (by kernel_rfl) (fun _ _ _ h => h) (Or.inl ⟨by rfl, ?y11⟩) (by assumption) ?r11
          case y11 =>
            intro wx hSx
            subst hSx
            go_simp
            try with_reducible rfl
          try simp only [Act.put, List.setIfInBounds_toArray, List.set_cons_zero, List.set_cons_succ]
          refine wpAnyH_ready (rs := [11]) (by kernel_rfl) (by simp) ?_
          refine AllReadyH.cons (at_op rfl) (fun K hK => ?_) AllReadyH.nil
          go_simp
          refine (HLR.out _).mono ?_
          rintro e w' ⟨rfl, rfl⟩
          go_wp2_with fail
          refine hK.out _ _ rfl (fun _ => ?_)
          clear hK K
          try simp only [Act.put, List.setIfInBounds_toArray, List.set_cons_zero, List.set_cons_succ]
          refine wpAnyH_take (i := 12) (v := ?v12) (at_op rfl) (by kernel_rfl) (by kernel_rfl) (by kernel_rfl) (fun _ _ _ h => h) (Or.inl ⟨by rfl, ?y12⟩) (by assumption) ?r12
          case y12 =>
            intro wx hSx
            subst hSx
            go_simp
            try with_reducible rfl
          try simp only [Act.put, List.setIfInBounds_toArray, List.set_cons_zero, List.set_cons_succ]
          refine wpAnyH_take (i := 13) (v := ?v13) (at_op rfl) (by kernel_rfl) (by kernel_rfl) (by kernel_rfl) (fun _ _ _ h => h) (Or.inl ⟨by rfl, ?y13⟩) (by assumption) ?r13
          case y13 =>
            intro wx hSx
            subst hSx
            go_simp
            try with_reducible rfl
          try simp only [Act.put, List.setIfInBounds_toArray, List.set_cons_zero, List.set_cons_succ]
          refine wpAnyH_done (by kernel_rfl) ?_ _
          clear hbl
          have hbd := hb.drew
          have hOd := hO.drew
          have hMd := hM.drew
          have ud := uc2
          replace ud : wr.drew.cell? ⟨B, i, none⟩ = some (.int .i64 (minS ws width T i t)) := ud
          have fd : wr.drew.frozen? ⟨B, i, none⟩ = false := f0
          have md : wr.drew.frozen? ⟨G, i, none⟩ = false := m0
          replace mc : wr.drew.cell? ⟨G, i, none⟩ = some (.int .i64 ((M.set i (manyS ws width T i t : Nat)).getD i 0)) := mc
          clear d0 uc uc2 f0 hb hO hM m0
          generalize wr.drew = wd at *
          generalize (M.set i (manyS ws width T i t : Nat)).getD i 0 = mv at *
          generalize minS ws width T i t = mn at *
          by_cases ht0 : t = 0
          · have hje : ((j : Int) == (i : Int)) = true := beq_iff_eq.2 (by have := HJ.out; omega)
            have HU := Lib.hid (HMS2.out (.inl ht0))
            clear ht0
            have hO6 := (hOd.put (k := i) (by omega) (tv + rg)).far (G := G) (q := i) (u := .int .i64 ((j : Int) + 1 - (i : Int))) (by omega)
            rw [List.set_set] at hO6
            have hM6 := (hMd.far (G := B) (q := i) (u := .int .i64 (tv + rg)) (by omega)).put (k := i) (by omega) ((j : Int) + 1 - (i : Int))
            rw [List.set_set] at hM6
            have HMC : Hid ((j : Int) + 1 - (i : Int) = ((t + 1 : Nat) : Int)) := by have := HJ.out; show _ = _; omega
            have c6 : (wd.setCell ⟨B, i, none⟩ (.int .i64 (tv + rg))).cell? ⟨G, i, none⟩ = some (.int .i64 mv) := (World.cell?_setCell_other _ _ _ _ (fun c => by injection c with c _ _; omega)).trans mc
            go_wp2
            go_roundw
            case rel => exact ⟨t + 1, j + 1, (by have := HJ.out; show _ = _; omega), by omega, (by rw [HLS2.out]), by go_num, (hbd.setCell (p := ⟨B, i, none⟩) (Nat.le_refl _) _).setCell (p := ⟨G, i, none⟩) (by show B ≤ G; omega) _, (by rw [HU.out.1, ← HCM.out]; exact hO6), (by rw [HU.out.2, ← HMC.out]; exact hM6)⟩
            case measure => simp [intOf]; omega
          · have hje : ((j : Int) == (i : Int)) = false := beq_eq_false_iff_ne.2 (by have := HJ.out; omega)
            by_cases hcm : tv + rg < mn
            · have HU := Lib.hid (HMS2.out (.inr (by omega)))
              clear ht0
              have hO6 := (hOd.put (k := i) (by omega) (tv + rg)).far (G := G) (q := i) (u := .int .i64 ((j : Int) + 1 - (i : Int))) (by omega)
              rw [List.set_set] at hO6
              have hM6 := (hMd.far (G := B) (q := i) (u := .int .i64 (tv + rg)) (by omega)).put (k := i) (by omega) ((j : Int) + 1 - (i : Int))
              rw [List.set_set] at hM6
              have HMC : Hid ((j : Int) + 1 - (i : Int) = ((t + 1 : Nat) : Int)) := by have := HJ.out; show _ = _; omega
              have c6 : (wd.setCell ⟨B, i, none⟩ (.int .i64 (tv + rg))).cell? ⟨G, i, none⟩ = some (.int .i64 mv) := (World.cell?_setCell_other _ _ _ _ (fun c => by injection c with c _ _; omega)).trans mc
              go_wp2
              go_roundw
              case rel => exact ⟨t + 1, j + 1, (by have := HJ.out; show _ = _; omega), by omega, (by rw [HLS2.out]), by go_num, (hbd.setCell (p := ⟨B, i, none⟩) (Nat.le_refl _) _).setCell (p := ⟨G, i, none⟩) (by show B ≤ G; omega) _, (by rw [HU.out.1, ← HCM.out]; exact hO6), (by rw [HU.out.2, ← HMC.out]; exact hM6)⟩
              case measure => simp [intOf]; omega
            · have HU := Lib.hid (HMO2.out (by omega))
              clear ht0
              go_wp2
              go_roundw
              case rel => exact ⟨t + 1, j + 1, (by have := HJ.out; show _ = _; omega), by omega, (by rw [HLS2.out]), by go_num, hbd, (by rw [HU.out.1]; exact hOd), (by rw [HU.out.2]; exact hMd)⟩
              case measure => simp [intOf]; omega
        · have hji : ¬ (j : Int) < (ws.length : Int) := by omega
          have HE : Hid (t = ws.length - i) := by have := HJ.out; show _ = _; omega
          rw [HE.out, ← HTN.out] at hO
          rw [HE.out, ← HMN.out] at hM
          go_wp2
          go_roundw
          case rel => exact ⟨i, by omega, by go_num, hb, hO, hM⟩
          case measure => first | (simp [intOf]; done) | (simp [intOf]; omega)
end Go.Proofs.YtjaginciejljkaaDoor
