/- commonFrom of the program: the table. -/
import Derived.Test.YthfeochekadhcaaNest
import Derived.Test.YthfeochekadhcaaLcs
import Derived.Test.YthfeochekadhcaaHString
import Derived.Test.YthfeochekadhcaaHInt
namespace Go.Proofs.Ythfeochekadhcaa
open Go.RowKit

theorem Try.infoRow : (Try.prog.info? 46).map (fun i => (i.zero, i.size, i.bytes)) = some (some (.slice none 0 0), 1, 24) := by kernel_rfl
theorem Try.infoNum : (Try.prog.info? 3).map (fun i => (i.zero, i.size, i.bytes)) = some (some (.int .i64 0), 1, 8) := by kernel_rfl
def TabOut (B : Nat) (w : World) (M : List (List Int)) (e : Ending) (w' : World) : Prop := ∃ t, e = .returned t ∧ Below B w w' ∧ Rd tabS B w'.heap.size w' t M

theorem tab_facts {lo hi : Nat} {w : World} {ls ms : List ByteArray} {G n c z y : Nat} {ps : List (List Int × SV)} (h : FOwn tabF id 46 3 lo hi w (.slice (some ⟨G, 0, none⟩) n c) ps) (hn : n = ps.length) (HL : ps.length = ls.length + 1) (HM : ps.map (·.1) = mtab ls ms (z + 1) (y + 1)) (hz : z < ls.length) (hy : y < ms.length) :
    ∃ g c1 g' c2 u, w.cell? ⟨G, z, none⟩ = some (.slice (some ⟨g, 0, none⟩) (ms.length + 1) c1) ∧ w.cell? ⟨G, z + 1, none⟩ = some (.slice (some ⟨g', 0, none⟩) (ms.length + 1) c2) ∧
      w.cell? ⟨g, y, none⟩ = some u ∧ w.cell? ⟨g, y + 1, none⟩ = some (.int .i64 (lc ls ms z (y + 1))) ∧ w.cell? ⟨g', y, none⟩ = some (.int .i64 (lc ls ms (z + 1) y)) ∧ w.cell? ⟨g', y + 1, none⟩ = some (.int .i64 (lc ls ms (z + 1) (y + 1))) ∧
      w.frozen? ⟨g, y, none⟩ = false ∧ lo ≤ g ∧
      ∃ ps', FOwn tabF id 46 3 lo hi (w.setCell ⟨g, y, none⟩ (.int .i64 (lc ls ms z y))) (.slice (some ⟨G, 0, none⟩) n c) ps' ∧ ps'.length = ls.length + 1 ∧ ps'.map (·.1) = mtab ls ms (z + 1) y := by
  have hz1 : z < ps.length := by omega
  have hz2 : z + 1 < ps.length := by omega
  have r1 : ps[z].1 = mrow ls ms (z + 1) (y + 1) z := by
    have e : (ps.map (·.1))[z]'(by simpa using hz1) = ps[z].1 := by simp
    rw [← e]
    simp only [HM]
    exact mtab_at ls ms _
  have r2 : ps[z + 1].1 = mrow ls ms (z + 1) (y + 1) (z + 1) := by
    have e : (ps.map (·.1))[z + 1]'(by simpa using hz2) = ps[z + 1].1 := by simp
    rw [← e]
    simp only [HM]
    exact mtab_at ls ms _
  have l1 : ps[z].1.length = ms.length + 1 := by rw [r1, mrow_len]
  have l2 : ps[z + 1].1.length = ms.length + 1 := by rw [r2, mrow_len]
  obtain ⟨g, c1, e1, b1, b2, k1, f1⟩ := h.row hz1 (by show 0 < ps[z].1.length; omega)
  obtain ⟨g', c2, e2, b1', b2', k2, f2⟩ := h.row hz2 (by show 0 < ps[z + 1].1.length; omega)
  have o1 := h.outer.cell (k := z) (j := 0) hn hz1 (by decide)
  have o2 := h.outer.cell (k := z + 1) (j := 0) hn hz2 (by decide)
  rw [show z * tabF.size + 0 = z from Nat.mul_one z] at o1
  rw [show (z + 1) * tabF.size + 0 = z + 1 from Nat.mul_one (z + 1)] at o2
  have o1' : w.cell? ⟨G, z, none⟩ = some ps[z].2.v := o1
  have o2' : w.cell? ⟨G, z + 1, none⟩ = some ps[z + 1].2.v := o2
  have e1' : ps[z].2 = (some ⟨g, 0, none⟩, ps[z].1.length, c1) := e1
  have e2' : ps[z + 1].2 = (some ⟨g', 0, none⟩, ps[z + 1].1.length, c2) := e2
  rw [e1', l1] at o1'
  rw [e2', l2] at o2'
  have val : ∀ p j (hp : p < ps.length) (hj : j < ps[p].1.length) (r : ps[p].1 = mrow ls ms (z + 1) (y + 1) p), ps[p].1[j] = if z + 1 ≤ p ∨ (p + 1 = z + 1 ∧ y + 1 ≤ j) then (lc ls ms p j : Int) else 0 := by
    intro p j hp hj r
    simp only [r]
    exact mrow_at ls ms _
  refine ⟨g, c1, g', c2, _, o1', o2', k1 y (by show y < ps[z].1.length; omega), ?_, ?_, ?_, f1 _, b1, ?_⟩
  · rw [k1 (y + 1) (by show y + 1 < ps[z].1.length; omega)]
    show some (Value.int .i64 ps[z].1[y + 1]) = _
    rw [val z (y + 1) hz1 (by omega) r1, if_pos (.inr ⟨rfl, Nat.le_refl _⟩)]
  · rw [k2 y (by show y < ps[z + 1].1.length; omega)]
    show some (Value.int .i64 ps[z + 1].1[y]) = _
    rw [val (z + 1) y hz2 (by omega) r2, if_pos (.inl (Nat.le_refl _))]
  · rw [k2 (y + 1) (by show y + 1 < ps[z + 1].1.length; omega)]
    show some (Value.int .i64 ps[z + 1].1[y + 1]) = _
    rw [val (z + 1) (y + 1) hz2 (by omega) r2, if_pos (.inl (Nat.le_refl _))]
  · have hst := h.store (by decide) hz1 (x' := ps[z].1.set y (lc ls ms z y : Int)) e1 (by show y < ps[z].1.length; omega) (lc ls ms z y : Int) rfl rfl
    refine ⟨_, hst, by rw [List.length_set]; exact HL, ?_⟩
    rw [List.map_set, HM]
    show (mtab ls ms (z + 1) (y + 1)).set z (ps[z].1.set y (lc ls ms z y : Int)) = _
    rw [r1]
    exact mtab_step ls ms z y

theorem fown_end {T TI lo n : Nat} {wr : World} {v : Value} {ps : List (List Int × SV)} {p : Addr} {V L : Int} (f : FOwn tabF id T TI lo wr.heap.size (wr.setCell p (.int .i64 L)) v ps) (hV : V = L) :
    FOwn tabF id T TI lo ((wr.drewN n).setCell p (.int .i64 V)).drew.heap.size ((wr.drewN n).setCell p (.int .i64 V)).drew v ps := by
  subst hV
  refine FOwn.wide (hi := wr.heap.size) (f.same (fun _ _ _ => rfl)) (Nat.le_refl _) ?_
  show wr.heap.size ≤ (wr.setCell p (.int .i64 V)).heap.size
  simp [World.setCell]
theorem fown_end2 {T TI lo n m : Nat} {wr w5 : World} {v : Value} {ps : List (List Int × SV)} {p : Addr} {L : Int} (hw : (wr.drewN n).drewN m = w5) (f : FOwn tabF id T TI lo wr.heap.size (wr.setCell p (.int .i64 L)) v ps) :
    FOwn tabF id T TI lo (w5.setCell p (.int .i64 L)).drew.heap.size (w5.setCell p (.int .i64 L)).drew v ps := by
  subst hw
  refine FOwn.wide (hi := wr.heap.size) (f.same (fun _ _ _ => rfl)) (Nat.le_refl _) ?_
  show wr.heap.size ≤ (wr.setCell p (.int .i64 L)).heap.size
  simp [World.setCell]
set_option maxHeartbeats 2000000 in
set_option maxRecDepth 100000 in
theorem commonFrom_any {ls ms : List ByteArray} {v u : Value} {lo hi lo' hi' : Nat} {w : World} (hr : Rd strF.shape lo hi w v ls) (hh : hi ≤ w.heap.size) (hr' : Rd strF.shape lo' hi' w u ms) (hh' : hi' ≤ w.heap.size) (hl : ls.length ≤ 1048576) (hm : ms.length ≤ 1048576) :
    Calls Try.prog 84 #[v, u] w (TabOut w.heap.size w (tab ls ms)) := by
  obtain ⟨a, c, rfl, h2, h3, h4, h5⟩ := hr.strF
  obtain ⟨a', c', rfl, h2', h3', h4', h5'⟩ := hr'.strF
  unfold maxLen at h3 h3'
  obtain ⟨i0, hi0, hz0, hz1, hz2⟩ := info_parts Try.infoRow
  obtain ⟨i1, hi1, hy0, hy1, hy2⟩ := info_parts Try.infoNum
  obtain ⟨B, HB⟩ : ∃ B, Hid (B = w.heap.size) := ⟨_, rfl⟩
  have hBw : B ≤ w.heap.size := Nat.le_of_eq HB.out
  have hBw' : w.heap.size ≤ B := Nat.le_of_eq HB.out.symm
  go_enter Try.func84, Try.ntmps84
  go_wp2_with (at_make; refine wpList_make_full _ rfl _ _ 106 rfl B 46 i0 _ 1 Try.underlying106 hi0 hz0 hz1 _ _ _ _ (ls.length + 1) rfl rfl (by simp) (by simp) ?b1 ?b2 ?b3 ?_)
  case b1 => rw [hz2]; omega
  case b2 => unfold maxLen; omega
  case b3 => exact hBw
  intro w1 hown hg
  have hb1 : Below B w w1 := (Below.refl _ _).grown hg hBw (fun k hk => by cases hk)
  have hO : FOwn tabF id 46 3 B w1.heap.size w1 (.slice (some ⟨w.heap.size, 0, none⟩) (ls.length + 1) (ls.length + 1)) (List.replicate (ls.length + 1) ([], ((none, 0, 0) : SV))) := by
    refine ⟨Own.of_row hown (by simp) ?_ (Nat.le_refl _), ?_, ?_⟩
    · have h := made_cells tabF (by decide) (([], (none, 0, 0)) : List Int × SV) #[.slice none 0 0] rfl (ls.length + 1)
      rw [show (ls.length + 1) * tabF.size = ls.length + 1 from Nat.mul_one _] at h
      exact h
    · intro i hi
      rw [List.getElem_replicate]
      exact Own.nil _ _ _ _ _
    · intro i j hi hj _ g hg
      rw [List.getElem_replicate] at hg
      simp [SV.v, Value.ownBlock] at hg
  clear hown hg
  go_wp2
  go_loopw [15] (fun i wr => ∃ (k : Nat) (ps : List (List Int × SV)), k ≤ ls.length + 1 ∧ i = .int .i64 k ∧ Hid (ps.length = ls.length + 1) ∧ Hid ((ps.map (·.1)).take k = (List.replicate (ls.length + 1) (List.replicate (ms.length + 1) (0 : Int))).take k) ∧ Below B w wr ∧ FOwn tabF id 46 3 B wr.heap.size wr (.slice (some ⟨w.heap.size, 0, none⟩) (ls.length + 1) (ls.length + 1)) ps) (fun i _ => ls.length + 1 - (intOf i).toNat)
  case atStart => exact ⟨0, _, Nat.zero_le _, rfl, by simp [Hid], by simp [Hid], hb1, hO⟩
  case round =>
    obtain ⟨k, ps, hk, rfl, HL, HT, hb, hF⟩ := hrel
    clear hO hb1
    have hsz := hb.size
    by_cases hlt : k < ls.length + 1
    · have hkp : k < ps.length := by have := HL.out; omega
      go_wp2_with (at_make; refine wpList_make_full _ rfl _ _ 46 rfl B 3 i1 _ 1 Try.underlying46 hi1 hy0 hy1 _ _ _ _ (ms.length + 1) rfl rfl (by simp) (by simp) ?b4 ?b5 ?b6 ?_)
      case b4 => rw [hy2]; omega
      case b5 => unfold maxLen; omega
      case b6 => omega
      intro w2 hown hg
      have hb2 : Below wr.heap.size wr w2 := (Below.refl _ _).grown hg (Nat.le_refl _) (fun k hk => by cases hk)
      have hI : Own intF 3 wr.heap.size w2.heap.size w2 (.slice (some ⟨wr.heap.size, 0, none⟩) (ms.length + 1) (ms.length + 1)) (List.replicate (ms.length + 1) (0 : Int)) := by
        have h := made_cells intF (by decide) (0 : Int) #[.int .i64 0] rfl (ms.length + 1)
        rw [show (ms.length + 1) * intF.size = ms.length + 1 from Nat.mul_one _] at h
        have h2 := (Own.of_row (F := intF) hown (by simp) h (Nat.le_refl _))
        refine ⟨?_, h2.2⟩
        refine ⟨h2.1.1, ?_⟩
        rcases h2.1.2 with ⟨e, _⟩ | ⟨g, cap, cur, e, _, r⟩
        · cases e
        · refine .inr ⟨g, cap, cur, e, ?_, r⟩
          injection e with e1
          injection e1 with e1
          injection e1 with e1
          omega
      clear hown hg
      have hF2 := hF.below hb2 (Nat.le_refl _)
      obtain ⟨u0, f0⟩ : ∃ u, w2.cell? ⟨w.heap.size, k, none⟩ = some u := ⟨_, (congrArg (fun z => w2.cell? ⟨w.heap.size, z, none⟩) (Nat.mul_one k).symm).trans ((hF2.outer.cell (j := 0) HL.out.symm hkp (by decide)).trans rfl)⟩
      have g0 : w2.frozen? ⟨w.heap.size, k, none⟩ = false := hF2.outer.frozen HL.out.symm _
      have hP := hF2.plant (x' := List.replicate (ms.length + 1) (0 : Int)) (s := (some ⟨wr.heap.size, 0, none⟩, ms.length + 1, ms.length + 1)) (j := 0) (by decide) HL.out.symm hkp (by decide) hI (by omega) hb2.size (fun g hg => by
        have : wr.heap.size = g := by simpa [SV.v, Value.ownBlock] using hg
        omega) rfl
      rw [show k * tabF.size + 0 = k from Nat.mul_one k] at hP
      clear hF hF2 hI
      go_wp2
      go_roundw
      case rel => exact ⟨k + 1, _, by omega, by go_num, (by unfold Hid; rw [List.length_set]; exact HL.out), map_set_take (by simpa using hlt) (by simpa using HL.out) HT.out (by simp), (hb.trans (hb2.mono (by omega))).setCell (p := ⟨w.heap.size, k, none⟩) (by show B ≤ w.heap.size; omega) _, hP.wide (Nat.le_refl _) (by simp [World.setCell])⟩
      case measure => simp [intOf]; omega
    · have HK : Hid (k = ls.length + 1) := by unfold Hid; omega
      have HM : Hid (ps.map (·.1) = mtab ls ms ls.length (ms.length + 1)) := by
        have e := HT.out
        rw [HK.out, List.take_of_length_le (by rw [List.length_map, HL.out]; exact Nat.le_refl _), List.take_of_length_le (by simp), ← mtab_zero] at e
        exact e
      go_wp2
      go_loopw [7] (fun i w2 => ∃ (z : Nat) (ps : List (List Int × SV)), z ≤ ls.length ∧ i = .int .i64 ((z : Int) - 1) ∧ Hid (ps.length = ls.length + 1) ∧ Hid (ps.map (·.1) = mtab ls ms z (ms.length + 1)) ∧ Below B w w2 ∧ FOwn tabF id 46 3 B w2.heap.size w2 (.slice (some ⟨w.heap.size, 0, none⟩) (ls.length + 1) (ls.length + 1)) ps) (fun i _ => (intOf i + 1).toNat)
      case atStart => exact ⟨ls.length, ps, Nat.le_refl _, rfl, HL, HM, hb, hF⟩
      case round =>
        clear HL HT HM hF hb hsz
        obtain ⟨z, ps, hz, rfl, HL, HM, hb, hF⟩ := hrel
        by_cases hz0 : 0 < z
        · obtain ⟨i, rfl⟩ : ∃ i, z = i + 1 := ⟨z - 1, by omega⟩
          have hil : i < ls.length := by omega
          have e1 : ((i + 1 : Nat) : Int) - 1 = (i : Int) := by omega
          rw [e1]
          clear e1
          have HM2 : Hid (ps.map (·.1) = mtab ls ms (i + 1) ms.length) := by unfold Hid; rw [HM.out, mtab_last]
          clear HM
          obtain ⟨b, off, rfl, hlo, hhi, c0⟩ := h5 i hil
          go_wp2
          go_loopw [8] (fun j w3 => ∃ (y : Nat) (ps : List (List Int × SV)), y ≤ ms.length ∧ j = .int .i64 ((y : Int) - 1) ∧ Hid (ps.length = ls.length + 1) ∧ Hid (ps.map (·.1) = mtab ls ms (i + 1) y) ∧ Below B w w3 ∧ FOwn tabF id 46 3 B w3.heap.size w3 (.slice (some ⟨w.heap.size, 0, none⟩) (ls.length + 1) (ls.length + 1)) ps) (fun j _ => (intOf j + 1).toNat)
          case atStart => exact ⟨ms.length, ps, Nat.le_refl _, rfl, HL, HM2, hb, hF⟩
          case round =>
            clear HL HM2 hF hb
            obtain ⟨y, ps, hy, rfl, HL, HM, hb, hF⟩ := hrel
            by_cases hy0 : 0 < y
            · obtain ⟨j, rfl⟩ : ∃ j, y = j + 1 := ⟨y - 1, by omega⟩
              have hjl : j < ms.length := by omega
              have e1 : ((j + 1 : Nat) : Int) - 1 = (j : Int) := by omega
              rw [e1]
              clear e1
              obtain ⟨b2, off2, rfl, hlo2, hhi2, q0⟩ := h5' j hjl
              obtain ⟨g, c1, g', c2, u0, t1, t2, t3, t4, t5, t6, t7, t8, t9⟩ := tab_facts hF HL.out.symm HL.out HM.out hil hjl
              have T9 := Lib.hid t9
              clear t9 hF
              have d0 := (hb.cell (p := ⟨b, _, none⟩) (by show b < _; omega)).trans c0
              have d1 := (hb.cell (p := ⟨b2, _, none⟩) (by show b2 < _; omega)).trans q0
              have hsz := hb.size
              have m1 := lc_le ls ms (i + 1) (j + 1)
              have m2 := lc_le ls ms (i + 1) j
              have m3 := lc_le ls ms i (j + 1)
              have n1 : (i : Int) < (ls.length : Int) := by omega
              have n2 : (j : Int) < (ms.length : Int) := by omega
              have n3 : (i : Int) < (ls.length : Int) + 1 := by omega
              have n4 : (j : Int) < (ms.length : Int) + 1 := by omega
              have n5 : (i : Int) + 1 < (ls.length : Int) + 1 := by omega
              have n6 : (j : Int) + 1 < (ms.length : Int) + 1 := by omega
              have n7 : (0 : Int) ≤ (i : Int) + 1 := by omega
              have n8 : (0 : Int) ≤ (j : Int) + 1 := by omega
              by_cases hx : ls[i] = ms[j]
              · have HE := Lib.hid (lc_eq ls ms hil hjl hx)
                have ht := str_yes hx
                clear hx q0
                generalize ls[i] = x at *
                generalize ms[j] = x' at *
                go_wp2_with fail
                go_quiet (fail)
                go_wp2
                generalize hw : wr.drewN nq = w4
                replace t1 := cell_dn hw t1
                replace t2 := cell_dn hw t2
                replace t3 := cell_dn hw t3
                replace t4 := cell_dn hw t4
                replace t5 := cell_dn hw t5
                replace t6 := cell_dn hw t6
                replace t7 := frozen_dn hw t7
                have hb4 := blw_dn hw hb
                have HW := Lib.hid hw
                clear hw d0 d1 hb
                have e1 : IntKind.i64.wrap ((i : Int) + 1) = (i : Int) + 1 := IntWalk.i64_in _ (by omega)
                have e2 : ((i : Int) + 1).toNat = i + 1 := by omega
                have e3 : IntKind.i64.wrap ((j : Int) + 1) = (j : Int) + 1 := IntWalk.i64_in _ (by omega)
                have e4 : ((j : Int) + 1).toNat = j + 1 := by omega
                have e5 : IntKind.i64.wrap ((lc ls ms (i + 1) (j + 1) : Int) + 1) = (lc ls ms (i + 1) (j + 1) : Int) + 1 := IntWalk.i64_in _ (by omega)
                go_still_tail 16, (by kernel_rfl)
                clear e1 e2 e3 e4 e5
                change wpList _ _ _ _ _ w4.drew
                go_wp2
                go_roundw
                case rel =>
                  obtain ⟨ps', f1, f2, f3⟩ := T9.out
                  refine ⟨j, ps', by omega, rfl, f2, f3, (hb4.setCell (p := ⟨g, j, none⟩) t8 _).drew, ?_⟩
                  have hw := HW.out
                  subst hw
                  rw [HE.out] at f1
                  exact fown_end f1 (by simp)
                case measure => simp [intOf]
              · have HE := Lib.hid (lc_ne ls ms hil hjl hx)
                have ht := str_no hx
                clear hx q0
                generalize ls[i] = x at *
                generalize ms[j] = x' at *
                go_wp2_with fail
                go_quiet (fail)
                go_wp2
                generalize hw : wr.drewN nq = w4
                replace t1 := cell_dn hw t1
                replace t2 := cell_dn hw t2
                replace t3 := cell_dn hw t3
                replace t4 := cell_dn hw t4
                replace t5 := cell_dn hw t5
                replace t6 := cell_dn hw t6
                replace t7 := frozen_dn hw t7
                have hb4 := blw_dn hw hb
                have HW := Lib.hid hw
                clear hw d0 d1 hb
                have e1 : IntKind.i64.wrap ((i : Int) + 1) = (i : Int) + 1 := IntWalk.i64_in _ (by omega)
                have e2 : ((i : Int) + 1).toNat = i + 1 := by omega
                have e3 : IntKind.i64.wrap ((j : Int) + 1) = (j : Int) + 1 := IntWalk.i64_in _ (by omega)
                have e4 : ((j : Int) + 1).toNat = j + 1 := by omega
                have e5 : IntKind.i64.wrap ((lc ls ms (i + 1) (j + 1) : Int) + 1) = (lc ls ms (i + 1) (j + 1) : Int) + 1 := IntWalk.i64_in _ (by omega)
                go_still_tail 23, (by kernel_rfl)
                clear e1 e2 e3 e4 e5
                change wpList _ _ _ _ _ w4.drew
                go_wp2
                go_roundw
                case rel =>
                  obtain ⟨ps', f1, f2, f3⟩ := T9.out
                  refine ⟨j, ps', by omega, rfl, f2, f3, (hb4.setCell (p := ⟨g, j, none⟩) t8 _).drew, ?_⟩
                  have hw := HW.out
                  subst hw
                  rw [HE.out] at f1
                  exact fown_end f1 (by split <;> omega)
                case measure => simp [intOf]
            · obtain rfl : y = 0 := by omega
              have HM3 : Hid (ps.map (·.1) = mtab ls ms i (ms.length + 1)) := by unfold Hid; rw [HM.out, mtab_down]
              clear HM
              go_wp2
              go_roundw
              case rel => exact ⟨i, ps, by omega, rfl, HL, HM3, hb, hF⟩
              case measure => simp [intOf]
        · obtain rfl : z = 0 := by omega
          go_wp2
          go_ret
          have e := HB.out
          subst e
          have h := hF.rdTab
          rw [HM.out, mtab_all] at h
          exact ⟨_, rfl, hb, h⟩
end Go.Proofs.Ythfeochekadhcaa
