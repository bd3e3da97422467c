/- l18Table of the reference: the same table. -/
import Derived.Test.YthfeochekadhcaaCommonI
namespace Go.Proofs.Ythfeochekadhcaa
open Go.RowKit

set_option maxHeartbeats 2000000 in
set_option maxRecDepth 100000 in
theorem l18Table_any {ls ms : List ByteArray} {v u : Value} {lo hi lo' hi' : Nat} {w : World} (hr : Rd strF.shape lo hi w v ls) (hh : hi ≤ w.heap.size) (hr' : Rd strF.shape lo' hi' w u ms) (hh' : hi' ≤ w.heap.size) (hl : ls.length ≤ 1048576) (hm : ms.length ≤ 1048576) :
    Calls Try.prog 90 #[v, u] w (TabOut w.heap.size w (tab ls ms)) := by
  obtain ⟨a, c, rfl, h2, h3, h4, h5⟩ := hr.strF
  obtain ⟨a', c', rfl, h2', h3', h4', h5'⟩ := hr'.strF
  unfold maxLen at h3 h3'
  obtain ⟨i0, hi0, hz0, hz1, hz2⟩ := info_parts Try.infoRow
  obtain ⟨i1, hi1, hy0, hy1, hy2⟩ := info_parts Try.infoNum
  obtain ⟨B, HB⟩ : ∃ B, Hid (B = w.heap.size) := ⟨_, rfl⟩
  have hBw : B ≤ w.heap.size := Nat.le_of_eq HB.out
  have hBw' : w.heap.size ≤ B := Nat.le_of_eq HB.out.symm
  go_enter Try.func90, Try.ntmps90
  go_wp2
  go_loopw [5, 6] (fun t i wr => ∃ (k : Nat) (ps : List (List Int × SV)), k ≤ ls.length + 1 ∧ i = .int .i64 k ∧ Hid (ps.map (·.1) = List.replicate k (List.replicate (ms.length + 1) (0 : Int))) ∧ ps.length ≤ k ∧ k ≤ ps.length ∧ Below B w wr ∧ FOwn tabF id 46 3 B wr.heap.size wr t ps) (fun _ i _ => ls.length + 1 - (intOf i).toNat)
  case atStart => exact ⟨0, [], Nat.zero_le _, rfl, rfl, Nat.le_refl _, Nat.le_refl _, (Below.refl _ _).alloc hBw _, ⟨Own.empty tabF 46 B w hBw, fun _ h => absurd h (Nat.not_lt_zero _), fun _ _ h => absurd h (Nat.not_lt_zero _)⟩⟩
  case round =>
    obtain ⟨k, ps, hk, rfl, HM, hk1, hk2, hb, hF⟩ := hrel
    have hsz := hb.size
    by_cases hlt : k < ls.length + 1
    · have n1 : (k : Int) ≤ (ls.length : Int) := by omega
      go_wp2_with (at_make; refine wpList_make_full _ rfl _ _ 46 rfl B 3 i1 _ 1 Try.underlying46 hi1 hy0 hy1 _ _ _ _ (ms.length + 1) rfl rfl (by simp) (by simp) ?b4 ?b5 ?b6 ?_)
      case b4 => rw [hy2]; omega
      case b5 => unfold maxLen; omega
      case b6 => omega
      intro w2 hown hg
      have hb2 : Below wr.heap.size wr w2 := (Below.refl _ _).grown hg (Nat.le_refl _) (fun k hk => by cases hk)
      have hI : Own intF 3 wr.heap.size w2.heap.size w2 (.slice (some ⟨wr.heap.size, 0, none⟩) (ms.length + 1) (ms.length + 1)) (List.replicate (ms.length + 1) (0 : Int)) := by
        have h := made_cells intF (by decide) (0 : Int) #[.int .i64 0] rfl (ms.length + 1)
        rw [show (ms.length + 1) * intF.size = ms.length + 1 from Nat.mul_one _] at h
        have h2 := (Own.of_row (F := intF) hown (by simp) h (Nat.le_refl _))
        refine ⟨?_, h2.2⟩
        refine ⟨h2.1.1, ?_⟩
        rcases h2.1.2 with ⟨e, _⟩ | ⟨g, cap, cur, e, _, r⟩
        · cases e
        · refine .inr ⟨g, cap, cur, e, ?_, r⟩
          injection e with e1
          injection e1 with e1
          injection e1 with e1
          omega
      clear hown hg
      have hF2 := hF.below hb2 (Nat.le_refl _)
      have hsz2 := hb2.size
      go_wp2_with (at_builtin; refine wp_app1g (F := tabF) (P := Try.prog) (y := ((List.replicate (ms.length + 1) (0 : Int)), ((some ⟨wr.heap.size, 0, none⟩, ms.length + 1, ms.length + 1) : SV))) rfl (.tmp 16) (.tmp 21) 106 rfl Try.underlying106 hi0 hz0 hz1 hz2 rfl (by decide) rfl (hF2.outer.alloc _) w2.heap.size rfl (heap_alloc_new _ _) rfl (by omega) (by omega) (by simp; omega) ?_; intro v' w' hO' hb' hg')
      have hS := (hF2.alloc _).snoc (by decide) (hI.alloc _) (by omega) (Nat.le_trans hb2.size (Nat.le_trans (by simp) hg'.size)) (Nat.le_trans (by simp) hg'.size) (fun g hg => by
        have : wr.heap.size = g := by simpa [SV.v, Value.ownBlock] using hg
        omega) hO' hg'
      clear hF hF2 hI hO'
      go_roundw
      case rel => exact ⟨k + 1, _, by omega, by go_num, map_snoc_rep HM.out, (by simp; omega), (by simp; omega), hb.trans ((hb2.mono (by omega)).trans (blw_al1 hb' (by omega))), hS⟩
      case measure => simp [intOf]; omega
    · have HL : Hid (ps.length = ls.length + 1) := by unfold Hid; omega
      have hkd : decide (k ≤ ls.length) = false := decide_eq_false (by omega)
      have hF' := hF
      obtain ⟨ta, tc, rfl, t3, t4, t5⟩ := hF.outer.form
      obtain ⟨G, rfl, tG1, tG2⟩ := t5 (by omega)
      have HM : Hid (ps.map (·.1) = mtab ls ms ls.length (ms.length + 1)) := by
        have e := HM.out
        rw [show k = ls.length + 1 by omega, ← mtab_zero] at e
        exact e
      have HLen : ps.length = ls.length + 1 := HL.out
      rw [HLen] at hF t3 ⊢
      clear HLen hF' t5 t4 hk1 hk2
      go_wp2
      go_loopw [7] (fun i w2 => ∃ (z : Nat) (ps : List (List Int × SV)), z ≤ ls.length ∧ i = .int .i64 ((z : Int) - 1) ∧ Hid (ps.length = ls.length + 1) ∧ Hid (ps.map (·.1) = mtab ls ms z (ms.length + 1)) ∧ Below B w w2 ∧ FOwn tabF id 46 3 B w2.heap.size w2 (.slice (some ⟨G, 0, none⟩) (ls.length + 1) tc) ps) (fun i _ => (intOf i + 1).toNat)
      case atStart => exact ⟨ls.length, ps, Nat.le_refl _, rfl, HL, HM, hb, hF⟩
      case round =>
        clear HL HM hF hb hsz
        obtain ⟨z, ps, hz, rfl, HL, HM, hb, hF⟩ := hrel
        by_cases hz0 : 0 < z
        · obtain ⟨i, rfl⟩ : ∃ i, z = i + 1 := ⟨z - 1, by omega⟩
          have hil : i < ls.length := by omega
          have e1 : ((i + 1 : Nat) : Int) - 1 = (i : Int) := by omega
          rw [e1]
          clear e1
          have HM2 : Hid (ps.map (·.1) = mtab ls ms (i + 1) ms.length) := by unfold Hid; rw [HM.out, mtab_last]
          clear HM
          obtain ⟨b, off, rfl, hlo, hhi, c0⟩ := h5 i hil
          go_wp2
          go_loopw [8, 51, 77] (fun j s1 s2 w3 => ∃ (y : Nat) (ps : List (List Int × SV)), y ≤ ms.length ∧ j = .int .i64 ((y : Int) - 1) ∧ Hid (ps.length = ls.length + 1) ∧ Hid (ps.map (·.1) = mtab ls ms (i + 1) y) ∧ Below B w w3 ∧ FOwn tabF id 46 3 B w3.heap.size w3 (.slice (some ⟨G, 0, none⟩) (ls.length + 1) tc) ps) (fun j _ _ _ => (intOf j + 1).toNat)
          case atStart => exact ⟨ms.length, ps, Nat.le_refl _, rfl, HL, HM2, hb, hF⟩
          case round =>
            clear HL HM2 hF hb
            obtain ⟨y, ps, hy, rfl, HL, HM, hb, hF⟩ := hrel
            by_cases hy0 : 0 < y
            · obtain ⟨j, rfl⟩ : ∃ j, y = j + 1 := ⟨y - 1, by omega⟩
              have hjl : j < ms.length := by omega
              have e1 : ((j + 1 : Nat) : Int) - 1 = (j : Int) := by omega
              rw [e1]
              clear e1
              obtain ⟨b2, off2, rfl, hlo2, hhi2, q0⟩ := h5' j hjl
              obtain ⟨g, c1, g', c2, u0, t1, t2, t3, t4, t5, t6, t7, t8, t9⟩ := tab_facts hF HL.out.symm HL.out HM.out hil hjl
              have T9 := Lib.hid t9
              clear t9 hF
              have d0 := (hb.cell (p := ⟨b, _, none⟩) (by show b < _; omega)).trans c0
              have d1 := (hb.cell (p := ⟨b2, _, none⟩) (by show b2 < _; omega)).trans q0
              have hsz := hb.size
              have m1 := lc_le ls ms (i + 1) (j + 1)
              have m2 := lc_le ls ms (i + 1) j
              have m3 := lc_le ls ms i (j + 1)
              have n1 : (i : Int) < (ls.length : Int) := by omega
              have n2 : (j : Int) < (ms.length : Int) := by omega
              have n3 : (i : Int) < (ls.length : Int) + 1 := by omega
              have n4 : (j : Int) < (ms.length : Int) + 1 := by omega
              have n5 : (i : Int) + 1 < (ls.length : Int) + 1 := by omega
              have n6 : (j : Int) + 1 < (ms.length : Int) + 1 := by omega
              have n7 : (0 : Int) ≤ (i : Int) + 1 := by omega
              have n8 : (0 : Int) ≤ (j : Int) + 1 := by omega
              by_cases hx : ls[i] = ms[j]
              · have HE := Lib.hid (lc_eq ls ms hil hjl hx)
                have ht := str_yes hx
                clear hx q0
                generalize ls[i] = x at *
                generalize ms[j] = x' at *
                go_wp2_with fail
                go_quiet (fail)
                go_wp2
                generalize hw : wr.drewN nq = w4
                replace t1 := cell_dn hw t1
                replace t2 := cell_dn hw t2
                replace t3 := cell_dn hw t3
                replace t4 := cell_dn hw t4
                replace t5 := cell_dn hw t5
                replace t6 := cell_dn hw t6
                replace t7 := frozen_dn hw t7
                have hb4 := blw_dn hw hb
                have HW := Lib.hid hw
                clear hw d0 d1 hb
                have e1 : IntKind.i64.wrap ((i : Int) + 1) = (i : Int) + 1 := IntWalk.i64_in _ (by omega)
                have e2 : ((i : Int) + 1).toNat = i + 1 := by omega
                have e3 : IntKind.i64.wrap ((j : Int) + 1) = (j : Int) + 1 := IntWalk.i64_in _ (by omega)
                have e4 : ((j : Int) + 1).toNat = j + 1 := by omega
                have e5 : IntKind.i64.wrap ((lc ls ms (i + 1) (j + 1) : Int) + 1) = (lc ls ms (i + 1) (j + 1) : Int) + 1 := IntWalk.i64_in _ (by omega)
                go_still_tail 16, (by kernel_rfl)
                clear e1 e2 e3 e4 e5
                change wpList _ _ _ _ _ w4.drew
                go_wp2
                go_roundw
                case rel =>
                  obtain ⟨ps', f1, f2, f3⟩ := T9.out
                  have hw := HW.out
                  subst hw
                  rw [HE.out] at f1
                  have f4 := fown_end (n := nq) (V := (lc ls ms (i + 1) (j + 1) : Int) + 1) f1 (by simp)
                  exact ⟨j, ps', by omega, rfl, f2, f3, (hb4.setCell (p := ⟨g, j, none⟩) t8 _).drew, f4⟩
                case measure => simp [intOf]
              · have HE := Lib.hid (lc_ne ls ms hil hjl hx)
                have ht := str_no hx
                clear hx q0
                generalize ls[i] = x at *
                generalize ms[j] = x' at *
                go_wp2_with fail
                go_quiet (fail)
                go_wp2
                generalize hw : wr.drewN nq = w4
                replace t1 := cell_dn hw t1
                replace t2 := cell_dn hw t2
                replace t3 := cell_dn hw t3
                replace t4 := cell_dn hw t4
                replace t5 := cell_dn hw t5
                replace t6 := cell_dn hw t6
                replace t7 := frozen_dn hw t7
                have hb4 := blw_dn hw hb
                have HW := Lib.hid hw
                clear hw d0 d1 hb
                by_cases hc : lc ls ms i (j + 1) ≤ lc ls ms (i + 1) j
                · have hge := hc
                  have HV : Hid (lc ls ms i j = lc ls ms (i + 1) j) := by unfold Hid; rw [HE.out]; omega
                  have e1 : IntKind.i64.wrap ((i : Int) + 1) = (i : Int) + 1 := IntWalk.i64_in _ (by omega)
                  have e2 : ((i : Int) + 1).toNat = i + 1 := by omega
                  have e3 : IntKind.i64.wrap ((j : Int) + 1) = (j : Int) + 1 := IntWalk.i64_in _ (by omega)
                  have e4 : ((j : Int) + 1).toNat = j + 1 := by omega
                  go_quiet (fail)
                  clear e1 e2 e3 e4
                  go_wp2
                  generalize hw2 : w4.drewN nq = w5
                  replace t1 := cell_dn hw2 t1
                  replace t2 := cell_dn hw2 t2
                  replace t3 := cell_dn hw2 t3
                  replace t4 := cell_dn hw2 t4
                  replace t5 := cell_dn hw2 t5
                  replace t6 := cell_dn hw2 t6
                  replace t7 := frozen_dn hw2 t7
                  have hb5 := blw_dn hw2 hb4
                  have HW2 := Lib.hid hw2
                  clear hw2 hb4
                  have e1 : IntKind.i64.wrap ((i : Int) + 1) = (i : Int) + 1 := IntWalk.i64_in _ (by omega)
                  have e2 : ((i : Int) + 1).toNat = i + 1 := by omega
                  have e3 : IntKind.i64.wrap ((j : Int) + 1) = (j : Int) + 1 := IntWalk.i64_in _ (by omega)
                  have e4 : ((j : Int) + 1).toNat = j + 1 := by omega
                  go_still_tail 14, (by kernel_rfl)
                  clear e1 e2 e3 e4
                  change wpList _ _ _ _ _ w5.drew
                  go_wp2
                  go_roundw
                  case rel =>
                    obtain ⟨ps', f1, f2, f3⟩ := T9.out
                    have hw := HW.out
                    subst hw
                    rw [HV.out] at f1
                    have f4 := fown_end2 HW2.out f1
                    exact ⟨j, ps', by omega, rfl, f2, f3, (hb5.setCell (p := ⟨g, j, none⟩) t8 _).drew, f4⟩
                  case measure => simp [intOf]
                · have hge := hc
                  have HV : Hid (lc ls ms i j = lc ls ms i (j + 1)) := by unfold Hid; rw [HE.out]; omega
                  have e1 : IntKind.i64.wrap ((i : Int) + 1) = (i : Int) + 1 := IntWalk.i64_in _ (by omega)
                  have e2 : ((i : Int) + 1).toNat = i + 1 := by omega
                  have e3 : IntKind.i64.wrap ((j : Int) + 1) = (j : Int) + 1 := IntWalk.i64_in _ (by omega)
                  have e4 : ((j : Int) + 1).toNat = j + 1 := by omega
                  go_quiet (fail)
                  clear e1 e2 e3 e4
                  go_wp2
                  generalize hw2 : w4.drewN nq = w5
                  replace t1 := cell_dn hw2 t1
                  replace t2 := cell_dn hw2 t2
                  replace t3 := cell_dn hw2 t3
                  replace t4 := cell_dn hw2 t4
                  replace t5 := cell_dn hw2 t5
                  replace t6 := cell_dn hw2 t6
                  replace t7 := frozen_dn hw2 t7
                  have hb5 := blw_dn hw2 hb4
                  have HW2 := Lib.hid hw2
                  clear hw2 hb4
                  have e1 : IntKind.i64.wrap ((i : Int) + 1) = (i : Int) + 1 := IntWalk.i64_in _ (by omega)
                  have e2 : ((i : Int) + 1).toNat = i + 1 := by omega
                  have e3 : IntKind.i64.wrap ((j : Int) + 1) = (j : Int) + 1 := IntWalk.i64_in _ (by omega)
                  have e4 : ((j : Int) + 1).toNat = j + 1 := by omega
                  go_still_tail 14, (by kernel_rfl)
                  clear e1 e2 e3 e4
                  change wpList _ _ _ _ _ w5.drew
                  go_wp2
                  go_roundw
                  case rel =>
                    obtain ⟨ps', f1, f2, f3⟩ := T9.out
                    have hw := HW.out
                    subst hw
                    rw [HV.out] at f1
                    have f4 := fown_end2 HW2.out f1
                    exact ⟨j, ps', by omega, rfl, f2, f3, (hb5.setCell (p := ⟨g, j, none⟩) t8 _).drew, f4⟩
                  case measure => simp [intOf]
            · obtain rfl : y = 0 := by omega
              have HM3 : Hid (ps.map (·.1) = mtab ls ms i (ms.length + 1)) := by unfold Hid; rw [HM.out, mtab_down]
              clear HM
              go_wp2
              go_roundw
              case rel => exact ⟨i, ps, by omega, rfl, HL, HM3, hb, hF⟩
              case measure => simp [intOf]
        · obtain rfl : z = 0 := by omega
          go_wp2
          go_ret
          have e := HB.out
          subst e
          have h := hF.rdTab
          rw [HM.out, mtab_all] at h
          exact ⟨_, rfl, hb, h⟩
end Go.Proofs.Ythfeochekadhcaa
