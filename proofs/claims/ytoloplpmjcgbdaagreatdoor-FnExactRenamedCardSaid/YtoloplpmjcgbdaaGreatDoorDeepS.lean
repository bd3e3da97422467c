/- DeepOf of the reference. -/
import Derived.Test.YtoloplpmjcgbdaaGreatDoorNodeS4
import Derived.Test.YtoloplpmjcgbdaaGreatDoorDeepI
namespace Go.Proofs.YtoloplpmjcgbdaaGreatDoor
open Go.RowKit

/-- the reference's list of depths, of the first j nodes -/
structure DSt (xs : List Node) (j : Nat) (ys : List Int) : Prop where
  len : ys.length = j
  val : deeps xs j = some ys ∨ (deeps xs j = none ∧ 0 < j ∧ ys.getD (j - 1) 0 = 0)
theorem dst_bad {xs : List Node} {j : Nat} {ys : List Int} (h : ys.length = j) (hn : deeps xs (j + 1) = none) : DSt xs (j + 1) (ys ++ [0]) := by
  refine ⟨by simp [h], .inr ⟨hn, by omega, ?_⟩⟩
  rw [Nat.add_sub_cancel, List.getD_eq_getElem?_getD, List.getElem?_append_right (by omega), h, Nat.sub_self]; rfl
theorem dst_good {xs : List Node} {j : Nat} {ys : List Int} {d : Int} (h : ys.length = j) (hn : deeps xs (j + 1) = some (ys ++ [d])) : DSt xs (j + 1) (ys ++ [d]) := ⟨by simp [h], .inl hn⟩
theorem max_step {a b : Int} (h : a + 1 < b + 1) : b + 1 = max a b + 1 := by rw [Int.max_eq_right (by omega)]
theorem max_stay {a b : Int} (h : ¬ a + 1 < b + 1) : a + 1 = max a b + 1 := by rw [Int.max_eq_left (by omega)]
set_option maxHeartbeats 4000000 in
set_option maxRecDepth 100000 in
theorem l05Deeps_any (xs : List Node) (v : Value) (lo hi m : Nat) (w : World) (hr : Rd nodeS lo hi w v xs) (hh : hi ≤ w.heap.size) (hs : ∀ x ∈ xs, x.text.size ≤ 4611686018427387904) (hl : xs.length ≤ 1048576) (hm : m < xs.length) :
    Calls Tryz.prog 41 #[v, .int .i64 m] w fun e w' => ∃ u, e = .returned u ∧ ∃ ys, DSt xs (m + 1) ys ∧ Below w.heap.size w w' ∧ Own intF 3 w.heap.size w'.heap.size w' u ys := by
  obtain ⟨a, c, rfl⟩ := hr.sl
  obtain ⟨_, h2, h3⟩ := hr.lenEq
  obtain ⟨i0, hi0, hz0, hz1, hz2⟩ := info_parts Tryz.infoInt1
  obtain ⟨B, HB⟩ : ∃ B, Hid (B = w.heap.size) := ⟨_, rfl⟩
  have hBw : B ≤ w.heap.size := Nat.le_of_eq HB.out
  have hBh := Lib.hid (show hi ≤ B by rw [HB.out]; exact hh)
  have hxl : (xs.length : Int) ≤ 9223372036854775807 := by omega
  go_enter Tryz.func41, Tryz.ntmps41
  go_wp2
  go_loopw [5, 6] (fun out i wr => ∃ (j : Nat) (ys : List Int), j ≤ m + 1 ∧ i = .int .i64 j ∧ Hid (DSt xs j ys) ∧ Below B w wr ∧ Own intF 3 B wr.heap.size wr out ys) (fun _ i _ => m + 1 - (intOf i).toNat)
  case atStart => exact ⟨0, [], Nat.zero_le _, rfl, ⟨rfl, .inl rfl⟩, (Below.refl _ _).alloc hBw _, Own.empty intF 3 B w hBw⟩
  case round =>
    obtain ⟨j, ys, hj, rfl, HS, hb, hO⟩ := hrel
    have hsz := hb.size
    have HL := Lib.hid HS.out.len
    by_cases hlt : j < m + 1
    · have hji : (j : Int) ≤ (m : Int) := by omega
      have hjx : j < xs.length := by omega
      have hjz : (0 : Int) ≤ (j : Int) := by omega
      have hjxi : (j : Int) < (xs.length : Int) := by omega
      have hrW := Lib.hid (fun w2 (h : Below B w w2) => hr.below h hBh.out)
      go_wp2_with fail
      refine (nodeOk_spec xs _ lo hi (j : Int) _ (hrW.out _ hb) (by have := hBh.out; omega) hs (by omega)).mono ?_
      rintro e w2 ⟨rfl, hb2⟩
      have hs2 := hb2.size
      have hbB := hb.trans (hb2.mono (by omega))
      replace hO := (hO.below hb2 (Nat.le_refl _)).wide (Nat.le_refl _) hs2
      have hylen : ys.length ≤ 1048576 := by rw [HL.out]; omega
      have bad : Hid (nodeOk xs (j : Int) = false → deeps xs (j + 1) = none) := fun h => by
        rcases HS.out.val with hv | hv
        · exact deeps_bad hv h
        · exact deeps_none hv.1 _ (by omega)
      obtain ⟨oa, oc, rfl⟩ := hO.rd.sl
      obtain ⟨b, off, ka, kc, eb, hlo, hhi, d0, d1, d2, d3, hk⟩ := rd_nodeAt (hrW.out _ hbB) hjx
      subst eb
      cases hok : nodeOk xs (j : Int) with
      | false =>
        have HN := Lib.hid (dst_bad HL.out (bad.out hok))
        clear hok bad d2 hk
        go_wp2
        go_loopw [7, 8] (fun d i wr => d = .int .i64 0 ∧ i = .int .i64 0 ∧ w2 = wr) (fun _ _ _ => 0)
        case atStart => exact ⟨rfl, rfl, rfl⟩
        case round =>
          obtain ⟨rfl, rfl, rfl⟩ := hrel
          go_wp2_with (at_builtin; refine wp_app1 (F := intF) (P := Tryz.prog) (y := 0) rfl (.tmp 79) (.tmp 81) 34 rfl Tryz.underlying34 hi0 hz0 hz1 hz2 rfl (by decide) rfl (hO.alloc _) w2.heap.size rfl (heap_alloc_new _ _) rfl (by omega) (by omega) (by simp; omega) ?_; intro v' w' hO' hb')
          go_roundw
          case rel => exact ⟨j + 1, ys ++ [0], by omega, by go_num, HN.out, hbB.trans (blw_al1 hb' (by omega)), hO'⟩
          case measure => simp [intOf]; omega
      | true =>
        have HOK := Lib.hid hok
        clear hok bad
        by_cases hv : ∃ (_ : deeps xs j = some ys), True
        · obtain ⟨hv, _⟩ := hv
          have HV := Lib.hid hv
          have HG := Lib.hid (nodeOk_iff.1 HOK.out)
          have HX : Hid (nd xs (j : Int) = xs[j]) := nd_at hjx
          have HBE := Lib.hid HG.out.below
          rw [HX.out] at HBE
          have HMX := Lib.hid (show (nd xs (j : Int)).kids = xs[j].kids by rw [HX.out])
          have HMD := Lib.hid (fun h : 14 ≤ maxK ys (nd xs (j : Int)).kids => dst_bad HL.out (deeps_deep HV.out HOK.out h))
          have HMS := Lib.hid (fun h : maxK ys (nd xs (j : Int)).kids < 14 => dst_good HL.out (deeps_succ HV.out HOK.out h))
          rw [HMX.out] at HMD HMS
          clear hv
          generalize hx : xs[j] = x at *
          clear hx
          obtain ⟨_, hkl, hkc⟩ := hk.lenEq
          have hki : (x.kids.length : Int) ≤ 9223372036854775807 := by omega
          by_cases hj0 : 0 < j
          · have e0 : (0 : Int) < (j : Int) := by omega
            obtain ⟨ob, ooff, rfl, _, _, oc0⟩ := hO.rd.intAt (k := j - 1) (by rw [HL.out]; omega)
            have hp1 := ((deeps_some HV.out).2.1 (j - 1) (by omega)).2
            obtain ⟨pv, hpv⟩ : ∃ pv, Hid (ys.getD (j - 1) 0 = pv) := ⟨_, rfl⟩
            rw [hpv.out] at oc0 hp1
            have hpne : (pv == 0) = false := eqf (by omega)
            have e1 : (0 : Int) ≤ (j : Int) - 1 := by omega
            have e2 : (j : Int) - 1 < (ys.length : Int) := by rw [HL.out]; omega
            have e3 : ((j : Int) - 1).toNat = j - 1 := by omega
            go_wp2
            go_loopw [7, 8] (fun d i wr => ∃ t : Nat, t ≤ x.kids.length ∧ i = .int .i64 t ∧ d = .int .i64 (maxK ys (x.kids.take t) + 1) ∧ w2 = wr) (fun _ i _ => x.kids.length - (intOf i).toNat)
            case atStart => exact ⟨0, Nat.zero_le _, rfl, rfl, rfl⟩
            case round =>
              obtain ⟨t, ht, rfl, rfl, rfl⟩ := hrel
              have h0 := maxK_ge0 ys (x.kids.take t)
              have hpos : (0 : Int) < maxK ys (x.kids.take t) + 1 := by omega
              have h14 := maxK_le (ds := ys) (ks := x.kids.take t) (b := 14) (by decide) (deeps_some HV.out).2.2
              by_cases htl : t < x.kids.length
              · obtain ⟨kb, koff, rfl, _, _, kc0⟩ := hk.intAt htl
                have hti : (t : Int) < (x.kids.length : Int) := by omega
                have htz : (0 : Int) ≤ (t : Int) := by omega
                have hbk := HBE.out t htl
                have HM := Lib.hid (maxK_succ (ds := ys) htl)
                rw [kd_at htl] at hbk
                rw [List.getD_eq_getElem?_getD, List.getElem?_eq_getElem htl] at kc0
                replace kc0 : w2.cell? ⟨kb, koff + t, none⟩ = some (.int .i64 x.kids[t]) := kc0
                obtain ⟨q, hq⟩ : ∃ q : Nat, x.kids[t] = (q : Int) := ⟨x.kids[t].toNat, by omega⟩
                rw [hq] at kc0 hbk HM
                rw [Int.toNat_natCast] at HM
                clear hq
                have hql : q < ys.length := by rw [HL.out]; omega
                have hqi : (q : Int) < (ys.length : Int) := by omega
                have hqz : (0 : Int) ≤ (q : Int) := by omega
                obtain ⟨ob2, ooff2, ee, _, _, dc⟩ := hO.rd.intAt hql
                injection ee with ee
                injection ee with ee1 ee2
                subst ee1; subst ee2
                obtain ⟨dq, hdq⟩ : ∃ dq, Hid (ys.getD q 0 = dq) := ⟨_, rfl⟩
                have hdb := (deeps_some HV.out).2.2 q
                have hdl := ((deeps_some HV.out).2.1 q (by omega)).2
                rw [hdq.out] at dc HM hdb hdl
                obtain ⟨mk, hmk⟩ : ∃ mk, Hid (maxK ys (x.kids.take t) = mk) := ⟨_, rfl⟩
                rw [hmk.out] at HM h0 hpos h14 ⊢
                by_cases hgt : mk + 1 < dq + 1
                · have HR := Lib.hid (max_step hgt)
                  go_wp2
                  go_roundw
                  case rel => exact ⟨t + 1, by omega, by go_num, int_eq (by rw [HM.out]; exact HR.out), by trivial⟩
                  case measure => simp [intOf]; omega
                · have HR := Lib.hid (max_stay hgt)
                  go_wp2
                  go_roundw
                  case rel => exact ⟨t + 1, by omega, by go_num, int_eq (by rw [HM.out]; exact HR.out), by trivial⟩
                  case measure => simp [intOf]; omega
              · have hti : ¬ (t : Int) < (x.kids.length : Int) := by omega
                have HT : Hid (maxK ys (x.kids.take t) = maxK ys x.kids) := by show _ = _; rw [List.take_of_length_le (by omega)]
                rw [HT.out] at h0 hpos h14 ⊢
                generalize maxK ys x.kids = d at *
                by_cases hd : 14 ≤ d
                · have HN := Lib.hid (HMD.out hd)
                  have hdi : (14 : Int) < d + 1 := by omega
                  go_wp2_with (at_builtin; refine wp_app1 (F := intF) (P := Tryz.prog) (y := 0) rfl (.tmp 79) (.tmp 81) 34 rfl Tryz.underlying34 hi0 hz0 hz1 hz2 rfl (by decide) rfl (hO.alloc _) w2.heap.size rfl (heap_alloc_new _ _) rfl (by omega) (by omega) (by simp; omega) ?_; intro v' w' hO' hb')
                  go_roundw
                  case rel => exact ⟨j + 1, ys ++ [0], by omega, by go_num, HN.out, hbB.trans (blw_al1 hb' (by omega)), hO'⟩
                  case measure => simp [intOf]; omega
                · have HN := Lib.hid (HMS.out (by omega))
                  have hdi : ¬ (14 : Int) < d + 1 := by omega
                  go_wp2_with (at_builtin; refine wp_app1 (F := intF) (P := Tryz.prog) (y := d + 1) rfl (.tmp 79) (.tmp 81) 34 rfl Tryz.underlying34 hi0 hz0 hz1 hz2 rfl (by decide) rfl (hO.alloc _) w2.heap.size rfl (heap_alloc_new _ _) rfl (by omega) (by omega) (by simp; omega) ?_; intro v' w' hO' hb')
                  go_roundw
                  case rel => exact ⟨j + 1, ys ++ [d + 1], by omega, by go_num, HN.out, hbB.trans (blw_al1 hb' (by omega)), hO'⟩
                  case measure => simp [intOf]; omega
          · have e0 : ¬ (0 : Int) < (j : Int) := by omega
            have HJ0 := Lib.hid hj0
            clear hj0
            go_wp2
            clear e0
            go_loopw [7, 8] (fun d i wr => ∃ t : Nat, t ≤ x.kids.length ∧ i = .int .i64 t ∧ d = .int .i64 (maxK ys (x.kids.take t) + 1) ∧ w2 = wr) (fun _ i _ => x.kids.length - (intOf i).toNat)
            case atStart => exact ⟨0, Nat.zero_le _, rfl, rfl, rfl⟩
            case round =>
              obtain ⟨t, ht, rfl, rfl, rfl⟩ := hrel
              have h0 := maxK_ge0 ys (x.kids.take t)
              have hpos : (0 : Int) < maxK ys (x.kids.take t) + 1 := by omega
              have h14 := maxK_le (ds := ys) (ks := x.kids.take t) (b := 14) (by decide) (deeps_some HV.out).2.2
              by_cases htl : t < x.kids.length
              · have hbk := HBE.out t htl
                have := HJ0.out
                omega
              · have hti : ¬ (t : Int) < (x.kids.length : Int) := by omega
                have HT : Hid (maxK ys (x.kids.take t) = maxK ys x.kids) := by show _ = _; rw [List.take_of_length_le (by omega)]
                rw [HT.out] at h0 hpos h14 ⊢
                generalize maxK ys x.kids = d at *
                by_cases hd : 14 ≤ d
                · have HN := Lib.hid (HMD.out hd)
                  have hdi : (14 : Int) < d + 1 := by omega
                  go_wp2_with (at_builtin; refine wp_app1 (F := intF) (P := Tryz.prog) (y := 0) rfl (.tmp 79) (.tmp 81) 34 rfl Tryz.underlying34 hi0 hz0 hz1 hz2 rfl (by decide) rfl (hO.alloc _) w2.heap.size rfl (heap_alloc_new _ _) rfl (by omega) (by omega) (by simp; omega) ?_; intro v' w' hO' hb')
                  go_roundw
                  case rel => exact ⟨j + 1, ys ++ [0], by omega, by go_num, HN.out, hbB.trans (blw_al1 hb' (by omega)), hO'⟩
                  case measure => simp [intOf]; omega
                · have HN := Lib.hid (HMS.out (by omega))
                  have hdi : ¬ (14 : Int) < d + 1 := by omega
                  go_wp2_with (at_builtin; refine wp_app1 (F := intF) (P := Tryz.prog) (y := d + 1) rfl (.tmp 79) (.tmp 81) 34 rfl Tryz.underlying34 hi0 hz0 hz1 hz2 rfl (by decide) rfl (hO.alloc _) w2.heap.size rfl (heap_alloc_new _ _) rfl (by omega) (by omega) (by simp; omega) ?_; intro v' w' hO' hb')
                  go_roundw
                  case rel => exact ⟨j + 1, ys ++ [d + 1], by omega, by go_num, HN.out, hbB.trans (blw_al1 hb' (by omega)), hO'⟩
                  case measure => simp [intOf]; omega
        · have hnone : deeps xs j = none ∧ 0 < j ∧ ys.getD (j - 1) 0 = 0 := by
            rcases HS.out.val with h | h
            · exact absurd ⟨h, trivial⟩ hv
            · exact h
          have HN := Lib.hid (dst_bad HL.out (deeps_none hnone.1 (j + 1) (by omega)))
          obtain ⟨ob, ooff, rfl, _, _, oc0⟩ := hO.rd.intAt (k := j - 1) (by rw [HL.out]; omega)
          rw [hnone.2.2] at oc0
          have e0 : (0 : Int) < (j : Int) := by omega
          have e1 : (0 : Int) ≤ (j : Int) - 1 := by omega
          have e2 : (j : Int) - 1 < (ys.length : Int) := by rw [HL.out]; omega
          have e3 : ((j : Int) - 1).toNat = j - 1 := by omega
          clear hnone hv d2 hk
          go_wp2
          go_loopw [7, 8] (fun d i wr => d = .int .i64 0 ∧ i = .int .i64 0 ∧ w2 = wr) (fun _ _ _ => 0)
          case atStart => exact ⟨rfl, rfl, rfl⟩
          case round =>
            obtain ⟨rfl, rfl, rfl⟩ := hrel
            go_wp2_with (at_builtin; refine wp_app1 (F := intF) (P := Tryz.prog) (y := 0) rfl (.tmp 79) (.tmp 81) 34 rfl Tryz.underlying34 hi0 hz0 hz1 hz2 rfl (by decide) rfl (hO.alloc _) w2.heap.size rfl (heap_alloc_new _ _) rfl (by omega) (by omega) (by simp; omega) ?_; intro v' w' hO' hb')
            go_roundw
            case rel => exact ⟨j + 1, ys ++ [0], by omega, by go_num, HN.out, hbB.trans (blw_al1 hb' (by omega)), hO'⟩
            case measure => simp [intOf]; omega
    · have hji : ¬ (j : Int) ≤ (m : Int) := by omega
      obtain rfl : j = m + 1 := by omega
      go_wp2
      go_ret
      have e := HB.out
      subst e
      exact ⟨_, rfl, ys, HS.out, hb, hO⟩
set_option maxHeartbeats 1000000 in
set_option maxRecDepth 100000 in
theorem deepOf_spec (xs : List Node) (v : Value) (lo hi : Nat) (k : Int) (w : World) (hr : Rd nodeS lo hi w v xs) (hh : hi ≤ w.heap.size) (hs : ∀ x ∈ xs, x.text.size ≤ 4611686018427387904) (hl : xs.length ≤ 1048576) :
    Calls Tryz.prog 15 #[v, .int .i64 k] w fun e w' => e = .returned (.int .i64 (deepOf xs k)) ∧ Below w.heap.size w w' := by
  obtain ⟨a, c, rfl⟩ := hr.sl
  obtain ⟨_, h2, h3⟩ := hr.lenEq
  by_cases hin : 0 ≤ k ∧ k < xs.length
  · have hN := Lib.hid (l01In_yes k 0 ((xs.length : Int) - 1) w hin.1 (by omega))
    obtain ⟨m, rfl⟩ : ∃ m : Nat, k = (m : Int) := ⟨k.toNat, by omega⟩
    have hml : m < xs.length := by omega
    have hmi : (m : Int) < (xs.length : Int) := by omega
    have hmz : (0 : Int) ≤ (m : Int) := by omega
    clear hin
    go_enter Tryz.func15, Tryz.ntmps15
    go_wp2_with fail
    refine hN.out.mono ?_
    rintro e w' ⟨rfl, hw⟩
    subst hw
    go_wp2_with fail
    refine (l05Deeps_any xs _ lo hi m _ hr hh hs hl hml).mono ?_
    rintro e w2 ⟨u, rfl, ys, hS, hb2, hO⟩
    obtain ⟨oa, oc, rfl⟩ := hO.rd.sl
    obtain ⟨ob, ooff, rfl, _, _, oc0⟩ := hO.rd.intAt (k := m) (by rw [hS.len]; omega)
    have HF : Hid (deepOf xs (m : Int) = ys.getD m 0) := by
      rcases hS.val with h | h
      · exact deepOf_some hml h
      · rw [Nat.add_sub_cancel] at h; show _ = _; rw [h.2.2]; exact deepOf_none hml h.1
    have hyl : (m : Int) < (ys.length : Int) := by rw [hS.len]; omega
    rw [← HF.out] at oc0
    go_wp2
    go_ret
    exact ⟨rfl, hb2⟩
  · have hN := Lib.hid (l01In_no k 0 ((xs.length : Int) - 1) w (by omega))
    have HF := Lib.hid (deepOf_out hin)
    go_enter Tryz.func15, Tryz.ntmps15
    go_wp2_with fail
    refine hN.out.mono ?_
    rintro e w' ⟨rfl, rfl⟩
    go_wp2
    go_ret
    exact ⟨ret_int HF.out.symm, Below.refl _ _⟩
end Go.Proofs.YtoloplpmjcgbdaaGreatDoor
