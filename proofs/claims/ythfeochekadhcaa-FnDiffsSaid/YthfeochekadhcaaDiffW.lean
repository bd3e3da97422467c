/- The walks of CommonOf and DiffOf, of the program and of the reference. -/
import Derived.Test.YthfeochekadhcaaDiffOf
namespace Go.Proofs.Ythfeochekadhcaa
open Go.RowKit

set_option maxHeartbeats 400000 in
theorem areFew_yes {ls ms : List ByteArray} {v u : Value} {lo hi lo' hi' : Nat} {w : World} (hr : Rd strF.shape lo hi w v ls) (hr' : Rd strF.shape lo' hi' w u ms) (h1 : ls.length ≤ 200) (h2 : ms.length ≤ 200) :
    Calls Try.prog 83 #[v, u] w fun e w' => e = .returned (.bool true) ∧ w = w' := by
  obtain ⟨a, c, rfl, g2, g3, g4, g5⟩ := hr.strF
  obtain ⟨a', c', rfl, g2', g3', g4', g5'⟩ := hr'.strF
  unfold maxLen at g3 g3'
  go_enter Try.func83, Try.ntmps83
  go_wp2
  go_ret
  exact ⟨ret_bool (by simp <;> omega), rfl⟩
set_option maxHeartbeats 400000 in
theorem areFew_no {ls ms : List ByteArray} {v u : Value} {lo hi lo' hi' : Nat} {w : World} (hr : Rd strF.shape lo hi w v ls) (hr' : Rd strF.shape lo' hi' w u ms) (h : ¬ (ls.length ≤ 200 ∧ ms.length ≤ 200)) :
    Calls Try.prog 83 #[v, u] w fun e w' => e = .returned (.bool false) ∧ w = w' := by
  obtain ⟨a, c, rfl, g2, g3, g4, g5⟩ := hr.strF
  obtain ⟨a', c', rfl, g2', g3', g4', g5'⟩ := hr'.strF
  unfold maxLen at g3 g3'
  by_cases h1 : ls.length ≤ 200
  · have h2 : ¬ ms.length ≤ 200 := fun h2 => h ⟨h1, h2⟩
    clear h
    go_enter Try.func83, Try.ntmps83
    go_wp2
    go_ret
    exact ⟨ret_bool (by simp <;> omega), rfl⟩
  · clear h
    go_enter Try.func83, Try.ntmps83
    go_wp2
    go_ret
    exact ⟨ret_bool (by simp <;> omega), rfl⟩
set_option maxHeartbeats 400000 in
theorem l18Many_yes {ls ms : List ByteArray} {v u : Value} {lo hi lo' hi' : Nat} {w : World} (hr : Rd strF.shape lo hi w v ls) (hr' : Rd strF.shape lo' hi' w u ms) (h1 : ls.length ≤ 200) (h2 : ms.length ≤ 200) :
    Calls Try.prog 89 #[v, u] w fun e w' => e = .returned (.bool false) ∧ w = w' := by
  obtain ⟨a, c, rfl, g2, g3, g4, g5⟩ := hr.strF
  obtain ⟨a', c', rfl, g2', g3', g4', g5'⟩ := hr'.strF
  unfold maxLen at g3 g3'
  go_enter Try.func89, Try.ntmps89
  go_wp2
  go_ret
  exact ⟨ret_bool (by simp <;> omega), rfl⟩
set_option maxHeartbeats 400000 in
theorem l18Many_no {ls ms : List ByteArray} {v u : Value} {lo hi lo' hi' : Nat} {w : World} (hr : Rd strF.shape lo hi w v ls) (hr' : Rd strF.shape lo' hi' w u ms) (h : ¬ (ls.length ≤ 200 ∧ ms.length ≤ 200)) :
    Calls Try.prog 89 #[v, u] w fun e w' => e = .returned (.bool true) ∧ w = w' := by
  obtain ⟨a, c, rfl, g2, g3, g4, g5⟩ := hr.strF
  obtain ⟨a', c', rfl, g2', g3', g4', g5'⟩ := hr'.strF
  unfold maxLen at g3 g3'
  by_cases h1 : ls.length ≤ 200
  · have h2 : ¬ ms.length ≤ 200 := fun h2 => h ⟨h1, h2⟩
    clear h
    go_enter Try.func89, Try.ntmps89
    go_wp2
    go_ret
    exact ⟨ret_bool (by simp <;> omega), rfl⟩
  · clear h
    go_enter Try.func89, Try.ntmps89
    go_wp2
    go_ret
    exact ⟨ret_bool (by simp <;> omega), rfl⟩
set_option maxHeartbeats 1000000 in
set_option maxRecDepth 100000 in
theorem commonOf_impl {ls ms : List ByteArray} {v u : Value} {lo hi lo' hi' : Nat} {w : World} (hr : Rd strF.shape lo hi w v ls) (hh : hi ≤ w.heap.size) (hr' : Rd strF.shape lo' hi' w u ms) (hh' : hi' ≤ w.heap.size) :
    Calls Try.prog 42 #[v, u] w fun e w' => e = .returned (.int .i64 (comOf ls ms)) ∧ Below w.heap.size w w' := by
  by_cases hf : ls.length ≤ 200 ∧ ms.length ≤ 200
  · have HC := Lib.hid (show comOf ls ms = lc ls ms 0 0 by rw [comOf, if_pos hf]; rfl)
    go_enter Try.func42, Try.ntmps42
    go_wp2_with fail
    refine (areFew_yes hr hr' hf.1 hf.2).mono ?_
    rintro e w1 ⟨rfl, rfl⟩
    go_wp2_with fail
    refine (commonFrom_any hr hh hr' hh' (by omega) (by omega)).mono ?_
    rintro e w1 ⟨t, rfl, hb, ht⟩
    obtain ⟨G, O, c, rfl, _, _, t1, t2, t3⟩ := tab_cells ht
    obtain ⟨g, o, c', _, _, t4, t5, t6, t7⟩ := t3 0 (Nat.zero_le _)
    have t8 := t7 0 (Nat.zero_le _)
    have t4' : w1.cell? ⟨G, O, none⟩ = some (.slice (some ⟨g, o, none⟩) (ms.length + 1) c') := t4
    have t8' : w1.cell? ⟨g, o, none⟩ = some (.int .i64 (lc ls ms 0 0)) := t8
    clear t3 t4 t7 t8 hr hr' ht
    go_wp2
    go_ret
    exact ⟨ret_int (by rw [HC.out]), hb⟩
  · have HC := Lib.hid (show comOf ls ms = 0 by rw [comOf, if_neg hf])
    go_enter Try.func42, Try.ntmps42
    go_wp2_with fail
    refine (areFew_no hr hr' hf).mono ?_
    rintro e w1 ⟨rfl, rfl⟩
    go_wp2
    go_ret
    exact ⟨ret_int (by rw [HC.out]; rfl), Below.refl _ _⟩
set_option maxHeartbeats 1000000 in
set_option maxRecDepth 100000 in
theorem commonOf_spec {ls ms : List ByteArray} {v u : Value} {lo hi lo' hi' : Nat} {w : World} (hr : Rd strF.shape lo hi w v ls) (hh : hi ≤ w.heap.size) (hr' : Rd strF.shape lo' hi' w u ms) (hh' : hi' ≤ w.heap.size) :
    Calls Try.prog 51 #[v, u] w fun e w' => e = .returned (.int .i64 (comOf ls ms)) ∧ Below w.heap.size w w' := by
  by_cases hf : ls.length ≤ 200 ∧ ms.length ≤ 200
  · have HC := Lib.hid (show comOf ls ms = lc ls ms 0 0 by rw [comOf, if_pos hf]; rfl)
    go_enter Try.func51, Try.ntmps51
    go_wp2_with fail
    refine (l18Many_yes hr hr' hf.1 hf.2).mono ?_
    rintro e w1 ⟨rfl, rfl⟩
    go_wp2_with fail
    refine (l18Table_any hr hh hr' hh' (by omega) (by omega)).mono ?_
    rintro e w1 ⟨t, rfl, hb, ht⟩
    obtain ⟨G, O, c, rfl, _, _, t1, t2, t3⟩ := tab_cells ht
    obtain ⟨g, o, c', _, _, t4, t5, t6, t7⟩ := t3 0 (Nat.zero_le _)
    have t8 := t7 0 (Nat.zero_le _)
    have t4' : w1.cell? ⟨G, O, none⟩ = some (.slice (some ⟨g, o, none⟩) (ms.length + 1) c') := t4
    have t8' : w1.cell? ⟨g, o, none⟩ = some (.int .i64 (lc ls ms 0 0)) := t8
    clear t3 t4 t7 t8 hr hr' ht
    go_wp2
    go_ret
    exact ⟨ret_int (by rw [HC.out]), hb⟩
  · have HC := Lib.hid (show comOf ls ms = 0 by rw [comOf, if_neg hf])
    go_enter Try.func51, Try.ntmps51
    go_wp2_with fail
    refine (l18Many_no hr hr' hf).mono ?_
    rintro e w1 ⟨rfl, rfl⟩
    go_wp2
    go_ret
    exact ⟨ret_int (by rw [HC.out]; rfl), Below.refl _ _⟩
set_option maxHeartbeats 4000000 in
set_option maxRecDepth 100000 in
theorem diffOf_impl {ls ms : List ByteArray} {v u : Value} {lo hi lo' hi' : Nat} {w : World} (hr : Rd strF.shape lo hi w v ls) (hh : hi ≤ w.heap.size) (hr' : Rd strF.shape lo' hi' w u ms) (hh' : hi' ≤ w.heap.size) :
    Calls Try.prog 39 #[v, u] w fun e w' => ∃ r, e = .returned r ∧ Below w.heap.size w w' ∧ Own editF 91 w.heap.size w'.heap.size w' r (difOf ls ms) := by
  obtain ⟨i0, hi0, hz0, hz1, hz2⟩ := info_parts Try.infoEdit
  obtain ⟨B, HB⟩ : ∃ B, Hid (B = w.heap.size) := ⟨_, rfl⟩
  have hBw : B ≤ w.heap.size := Nat.le_of_eq HB.out
  have hBw' : w.heap.size ≤ B := Nat.le_of_eq HB.out.symm
  by_cases hf : ls.length ≤ 200 ∧ ms.length ≤ 200
  · have HC := Lib.hid (show difOf ls ms = dif ls ms by rw [difOf, if_pos hf])
    obtain ⟨hl, hm⟩ := hf
    go_enter Try.func39, Try.ntmps39
    go_wp2_with fail
    refine (areFew_yes hr hr' hl hm).mono ?_
    rintro e w1 ⟨rfl, rfl⟩
    go_wp2_with fail
    refine (commonFrom_any hr hh hr' hh' (by omega) (by omega)).mono ?_
    rintro e w1 ⟨t, rfl, hb1, ht⟩
    have hs1 := hb1.size
    have hB1 : Below B w w1 := hb1.mono hBw
    have hra := hr.below hb1 hh
    have hrb := hr'.below hb1 hh'
    obtain ⟨C, HD⟩ : ∃ C, Hid (C = w1.heap.size) := ⟨_, rfl⟩
    have hCw : C ≤ w1.heap.size := Nat.le_of_eq HD.out
    have hCw' : w1.heap.size ≤ C := Nat.le_of_eq HD.out.symm
    have hO0 : OutE editF 91 B C w1 (.slice none 0 0) [] := .inl (Own.nil _ _ _ _ _)
    obtain ⟨G, O, c, rfl, _, tG, t1, t2, t3⟩ := tab_cells ht
    obtain ⟨a, ca, rfl, a2, a3, a4, a5⟩ := hra.strF
    obtain ⟨b, cb, rfl, b2, b3, b4, b5⟩ := hrb.strF
    unfold maxLen at a3 b3 t2
    clear ht hr hr'
    go_wp2
    go_loopw [6, 7, 8] (fun out i j wr => ∃ (p q : Nat) (ys : List Edit), p ≤ ls.length ∧ i = .int .i64 p ∧ q ≤ ms.length ∧ j = .int .i64 q ∧ ys.length ≤ p + q ∧ Hid (dif ls ms = ys ++ dif (ls.drop p) (ms.drop q)) ∧ Below C w1 wr ∧ OutE editF 91 B C wr out ys) (fun _ i j _ => ls.length + ms.length - ((intOf i).toNat + (intOf j).toNat))
    case atStart => exact ⟨0, 0, [], Nat.zero_le _, rfl, Nat.zero_le _, rfl, Nat.zero_le _, rfl, Below.refl _ _, hO0⟩
    case round =>
      obtain ⟨p, q, ys, hp, rfl, hq, rfl, hyl, HP, hb, hO⟩ := hrel
      have hsz := hb.size
      have hyl2 : ys.length ≤ 400 := by omega
      by_cases hp1 : p < ls.length
      · obtain ⟨ba, oa, rfl, _, ahi, a6⟩ := a5 p hp1
        have da := (hb.cell (p := ⟨ba, _, none⟩) (by show ba < _; omega)).trans a6
        have HA := Lib.hid (drop_at hp1)
        have n1 : (p : Int) < (ls.length : Int) := by omega
        have n2 : (p : Int) + 1 < (ls.length : Int) + 1 := by omega
        have n3 : (p : Int) < (ls.length : Int) + 1 := by omega
        have n4 : (0 : Int) ≤ (p : Int) + 1 := by omega
        have k1 : decide ((p : Int) < (ls.length : Int)) = true := decide_eq_true n1
        have k1' : decide (p < ls.length) = true := decide_eq_true hp1
        by_cases hq1 : q < ms.length
        · obtain ⟨bb, ob, rfl, _, bhi, b6⟩ := b5 q hq1
          have db := (hb.cell (p := ⟨bb, _, none⟩) (by show bb < _; omega)).trans b6
          have HE := Lib.hid (drop_at hq1)
          have m1 : (q : Int) < (ms.length : Int) := by omega
          have m2 : (q : Int) + 1 < (ms.length : Int) + 1 := by omega
          have m3 : (q : Int) < (ms.length : Int) + 1 := by omega
          have m4 : (0 : Int) ≤ (q : Int) + 1 := by omega
          have k2 : decide ((q : Int) < (ms.length : Int)) = true := decide_eq_true m1
          have k2' : decide (q < ms.length) = true := decide_eq_true hq1
          have k3 : ((q : Int) == (ms.length : Int)) = false := beq_eq_false_iff_ne.2 (by omega)
          have k3' : (q == ms.length) = false := beq_eq_false_iff_ne.2 (by omega)
          have k3'' : decide (q = ms.length) = false := decide_eq_false (by omega)
          have k4 : decide ((ms.length : Int) ≤ (q : Int)) = false := decide_eq_false (by omega)
          have k4' : decide (ms.length ≤ q) = false := decide_eq_false (by omega)
          obtain ⟨g1, o1, e1, _, h1hi, r1, r2, r3, r4⟩ := t3 p (by omega)
          obtain ⟨g2, o2, e2, _, h2hi, s1, s2, s3, s4⟩ := t3 (p + 1) (by omega)
          have x1 := (hb.cell (p := ⟨G, _, none⟩) (by show G < _; omega)).trans r1
          have x2 := (hb.cell (p := ⟨G, _, none⟩) (by show G < _; omega)).trans s1
          have x3 := (hb.cell (p := ⟨g1, _, none⟩) (by show g1 < _; omega)).trans (r4 (q + 1) (by omega))
          have x4 := (hb.cell (p := ⟨g2, _, none⟩) (by show g2 < _; omega)).trans (s4 q (by omega))
          unfold maxLen at r3 s3
          clear a6 b6 r1 r4 s1 s4
          have HQ := Lib.hid (dif_both ls[p] (ls.drop (p + 1)) ms[q] (ms.drop (q + 1)))
          have HR1 := Lib.hid (show lcs (ls[p] :: ls.drop (p + 1)) (ms.drop (q + 1)) = lc ls ms p (q + 1) by rw [← drop_at hp1]; rfl)
          have HR2 := Lib.hid (show lcs (ls.drop (p + 1)) (ms[q] :: ms.drop (q + 1)) = lc ls ms (p + 1) q by rw [← drop_at hq1]; rfl)
          generalize ls[p] = x at *
          generalize ms[q] = y at *
          by_cases hx : x = y
          · have ht := str_yes hx
            have HX : Hid (dif (ls.drop p) (ms.drop q) = ⟨1, x⟩ :: dif (ls.drop (p + 1)) (ms.drop (q + 1))) := by unfold Hid; rw [HA.out, HE.out, HQ.out, if_pos hx]
            clear hx
            go_wp2_with fail
            go_quiet (fail)
            go_wp2_with (at_builtin; refine wp_app1e (F := editF) (P := Try.prog) (y := ⟨1, x⟩) rfl (.tmp 58) (.tmp 64) 35 rfl Try.underlying35 hi0 hz0 hz1 hz2 rfl (by decide) rfl (hO.keep (w' := (wr.drewN nq).alloc _) ((blw_drewN (Below.refl _ _) nq).alloc (Nat.le_refl _) _) (by omega)) wr.heap.size rfl (heap_alloc_new _ _) rfl (by omega) (by omega) (by simp; omega) ?_; intro v' w' hO' hb')
            go_roundw
            case rel => exact ⟨p + 1, q + 1, ys ++ [⟨1, x⟩], by omega, by go_num, by omega, by go_num, (by simp; omega), (by unfold Hid; rw [HP.out, HX.out]; simp), hb.trans (((blw_drewN (Below.refl _ _) nq).alloc (by simp; omega) _).trans hb'), hO'⟩
            case measure => simp [intOf]; omega
          · have ht := str_no hx
            by_cases hc : lc ls ms p (q + 1) ≤ lc ls ms (p + 1) q
            · have HX : Hid (dif (ls.drop p) (ms.drop q) = ⟨2, x⟩ :: dif (ls.drop (p + 1)) (ms.drop q)) := by unfold Hid; rw [HA.out, HE.out, HQ.out, if_neg hx, HR1.out, HR2.out, if_pos hc]
              clear hx
              go_wp2_with fail
              go_quiet (fail)
              go_wp2_with fail
              generalize hw : wr.drewN nq = w4
              replace da := cell_dn hw da
              replace x1 := cell_dn hw x1
              replace x2 := cell_dn hw x2
              replace x3 := cell_dn hw x3
              replace x4 := cell_dn hw x4
              have hb4 := blw_dn hw hb
              have hO4 := hO.keep (w' := w4) (blw_dn hw (Below.refl _ _)) (by omega)
              have hs4 := hb4.size
              clear hw hb hO hsz db
              have e1 : IntKind.i64.wrap ((p : Int) + 1) = (p : Int) + 1 := IntWalk.i64_in _ (by omega)
              have e2 : ((p : Int) + 1).toNat = p + 1 := by omega
              have e3 : IntKind.i64.wrap ((q : Int) + 1) = (q : Int) + 1 := IntWalk.i64_in _ (by omega)
              have e4 : ((q : Int) + 1).toNat = q + 1 := by omega
              go_quiet (fail)
              clear e1 e2 e3 e4
              go_wp2_with (at_builtin; refine wp_app1e (F := editF) (P := Try.prog) (y := ⟨2, x⟩) rfl (.tmp 100) (.tmp 106) 35 rfl Try.underlying35 hi0 hz0 hz1 hz2 rfl (by decide) rfl (hO4.keep (w' := (w4.drewN nq).alloc _) ((blw_drewN (Below.refl _ _) nq).alloc (Nat.le_refl _) _) (by omega)) w4.heap.size rfl (heap_alloc_new _ _) rfl (by omega) (by omega) (by simp; omega) ?_; intro v' w' hO' hb')
              go_roundw
              case rel => exact ⟨p + 1, q, ys ++ [⟨2, x⟩], by omega, by go_num, by omega, rfl, (by simp; omega), (by unfold Hid; rw [HP.out, HX.out]; simp), hb4.trans (((blw_drewN (Below.refl _ _) nq).alloc (by simp; omega) _).trans hb'), hO'⟩
              case measure => simp [intOf]; omega
            · have HX : Hid (dif (ls.drop p) (ms.drop q) = ⟨3, y⟩ :: dif (ls.drop p) (ms.drop (q + 1))) := by unfold Hid; rw [HA.out, HE.out, HQ.out, if_neg hx, HR1.out, HR2.out, if_neg hc]
              clear hx
              go_wp2_with fail
              go_quiet (fail)
              go_wp2_with fail
              generalize hw : wr.drewN nq = w4
              replace db := cell_dn hw db
              replace x1 := cell_dn hw x1
              replace x2 := cell_dn hw x2
              replace x3 := cell_dn hw x3
              replace x4 := cell_dn hw x4
              have hb4 := blw_dn hw hb
              have hO4 := hO.keep (w' := w4) (blw_dn hw (Below.refl _ _)) (by omega)
              have hs4 := hb4.size
              clear hw hb hO hsz da
              have e1 : IntKind.i64.wrap ((p : Int) + 1) = (p : Int) + 1 := IntWalk.i64_in _ (by omega)
              have e2 : ((p : Int) + 1).toNat = p + 1 := by omega
              have e3 : IntKind.i64.wrap ((q : Int) + 1) = (q : Int) + 1 := IntWalk.i64_in _ (by omega)
              have e4 : ((q : Int) + 1).toNat = q + 1 := by omega
              go_quiet (fail)
              clear e1 e2 e3 e4
              go_wp2_with (at_builtin; refine wp_app1e (F := editF) (P := Try.prog) (y := ⟨3, y⟩) rfl (.tmp 26) (.tmp 32) 35 rfl Try.underlying35 hi0 hz0 hz1 hz2 rfl (by decide) rfl (hO4.keep (w' := (w4.drewN nq).alloc _) ((blw_drewN (Below.refl _ _) nq).alloc (Nat.le_refl _) _) (by omega)) w4.heap.size rfl (heap_alloc_new _ _) rfl (by omega) (by omega) (by simp; omega) ?_; intro v' w' hO' hb')
              go_roundw
              case rel => exact ⟨p, q + 1, ys ++ [⟨3, y⟩], by omega, rfl, by omega, by go_num, (by simp; omega), (by unfold Hid; rw [HP.out, HX.out]; simp), hb4.trans (((blw_drewN (Below.refl _ _) nq).alloc (by simp; omega) _).trans hb'), hO'⟩
              case measure => simp [intOf]; omega
        · have HE : Hid (ms.drop q = []) := List.drop_eq_nil_of_le (by omega)
          have k2 : decide ((q : Int) < (ms.length : Int)) = false := decide_eq_false (by omega)
          have k2' : decide (q < ms.length) = false := decide_eq_false hq1
          have k3 : ((q : Int) == (ms.length : Int)) = true := beq_iff_eq.2 (by omega)
          have k3' : (q == ms.length) = true := beq_iff_eq.2 (by omega)
          have k3'' : decide (q = ms.length) = true := decide_eq_true (by omega)
          have k4 : decide ((ms.length : Int) ≤ (q : Int)) = true := decide_eq_true (by omega)
          have k4' : decide (ms.length ≤ q) = true := decide_eq_true (by omega)
          clear a6
          have HQ := Lib.hid (dif_left ls[p] (ls.drop (p + 1)))
          have HX : Hid (dif (ls.drop p) (ms.drop q) = ⟨2, ls[p]⟩ :: dif (ls.drop (p + 1)) (ms.drop q)) := by unfold Hid; rw [HA.out, HE.out, HQ.out]
          generalize ls[p] = x at *
          go_wp2_with fail
          go_quiet (fail)
          go_wp2_with fail
          generalize hw : wr.drewN nq = w4
          replace da := cell_dn hw da
          have hb4 := blw_dn hw hb
          have hO4 := hO.keep (w' := w4) (blw_dn hw (Below.refl _ _)) (by omega)
          have hs4 := hb4.size
          clear hw hb hO hsz
          go_quiet (fail)
          go_wp2_with (at_builtin; refine wp_app1e (F := editF) (P := Try.prog) (y := ⟨2, x⟩) rfl (.tmp 100) (.tmp 106) 35 rfl Try.underlying35 hi0 hz0 hz1 hz2 rfl (by decide) rfl (hO4.keep (w' := (w4.drewN nq).alloc _) ((blw_drewN (Below.refl _ _) nq).alloc (Nat.le_refl _) _) (by omega)) w4.heap.size rfl (heap_alloc_new _ _) rfl (by omega) (by omega) (by simp; omega) ?_; intro v' w' hO' hb')
          go_roundw
          case rel => exact ⟨p + 1, q, ys ++ [⟨2, x⟩], by omega, by go_num, by omega, rfl, (by simp; omega), (by unfold Hid; rw [HP.out, HX.out]; simp), hb4.trans (((blw_drewN (Below.refl _ _) nq).alloc (by simp; omega) _).trans hb'), hO'⟩
          case measure => simp [intOf]; omega
      ·
        have k1 : decide ((p : Int) < (ls.length : Int)) = false := decide_eq_false (by omega)
        have k1' : decide (p < ls.length) = false := decide_eq_false hp1
        by_cases hq1 : q < ms.length
        · obtain ⟨bb, ob, rfl, _, bhi, b6⟩ := b5 q hq1
          have da := (hb.cell (p := ⟨bb, _, none⟩) (by show bb < _; omega)).trans b6
          have HE := Lib.hid (drop_at hq1)
          have HA : Hid (ls.drop p = []) := List.drop_eq_nil_of_le (by omega)
          have m1 : (q : Int) < (ms.length : Int) := by omega
          have m2 : (q : Int) + 1 < (ms.length : Int) + 1 := by omega
          have m3 : (q : Int) < (ms.length : Int) + 1 := by omega
          have m4 : (0 : Int) ≤ (q : Int) + 1 := by omega
          have k2 : decide ((q : Int) < (ms.length : Int)) = true := decide_eq_true m1
          have k2' : decide (q < ms.length) = true := decide_eq_true hq1
          have k3 : ((q : Int) == (ms.length : Int)) = false := beq_eq_false_iff_ne.2 (by omega)
          have k3' : (q == ms.length) = false := beq_eq_false_iff_ne.2 (by omega)
          have k3'' : decide (q = ms.length) = false := decide_eq_false (by omega)
          have k4 : decide ((ms.length : Int) ≤ (q : Int)) = false := decide_eq_false (by omega)
          have k4' : decide (ms.length ≤ q) = false := decide_eq_false (by omega)
          clear b6
          have HQ := Lib.hid (dif_right ms[q] (ms.drop (q + 1)))
          have HX : Hid (dif (ls.drop p) (ms.drop q) = ⟨3, ms[q]⟩ :: dif (ls.drop p) (ms.drop (q + 1))) := by unfold Hid; rw [HA.out, HE.out, HQ.out]
          generalize ms[q] = x at *
          go_wp2_with fail
          go_quiet (fail)
          go_wp2_with fail
          generalize hw : wr.drewN nq = w4
          replace da := cell_dn hw da
          have hb4 := blw_dn hw hb
          have hO4 := hO.keep (w' := w4) (blw_dn hw (Below.refl _ _)) (by omega)
          have hs4 := hb4.size
          clear hw hb hO hsz
          go_quiet (fail)
          go_wp2_with (at_builtin; refine wp_app1e (F := editF) (P := Try.prog) (y := ⟨3, x⟩) rfl (.tmp 26) (.tmp 32) 35 rfl Try.underlying35 hi0 hz0 hz1 hz2 rfl (by decide) rfl (hO4.keep (w' := (w4.drewN nq).alloc _) ((blw_drewN (Below.refl _ _) nq).alloc (Nat.le_refl _) _) (by omega)) w4.heap.size rfl (heap_alloc_new _ _) rfl (by omega) (by omega) (by simp; omega) ?_; intro v' w' hO' hb')
          go_roundw
          case rel => exact ⟨p, q + 1, ys ++ [⟨3, x⟩], by omega, rfl, by omega, by go_num, (by simp; omega), (by unfold Hid; rw [HP.out, HX.out]; simp), hb4.trans (((blw_drewN (Below.refl _ _) nq).alloc (by simp; omega) _).trans hb'), hO'⟩
          case measure => simp [intOf]; omega
        · have HE : Hid (ms.drop q = []) := List.drop_eq_nil_of_le (by omega)
          have HA : Hid (ls.drop p = []) := List.drop_eq_nil_of_le (by omega)
          have HF : Hid (dif ls ms = ys) := by unfold Hid; rw [HP.out, HE.out, HA.out, dif_nil, List.append_nil]
          have k2 : decide ((q : Int) < (ms.length : Int)) = false := decide_eq_false (by omega)
          have k2' : decide (q < ms.length) = false := decide_eq_false hq1
          have hfin : Below B w wr := hB1.trans (hb.mono (by omega))
          have hown := hO.own (by omega) (by omega)
          go_wp2
          go_ret
          rw [HB.out] at hfin hown
          exact ⟨_, rfl, hfin, by rw [HC.out, HF.out]; exact hown⟩
  · have HC := Lib.hid (show difOf ls ms = [] by rw [difOf, if_neg hf])
    go_enter Try.func39, Try.ntmps39
    go_wp2_with fail
    refine (areFew_no hr hr' hf).mono ?_
    rintro e w1 ⟨rfl, rfl⟩
    go_wp2
    go_ret
    exact ⟨_, rfl, Below.refl _ _, by rw [HC.out]; exact Own.nil _ _ _ _ _⟩
set_option maxHeartbeats 4000000 in
set_option maxRecDepth 100000 in
theorem diffOf_spec {ls ms : List ByteArray} {v u : Value} {lo hi lo' hi' : Nat} {w : World} (hr : Rd strF.shape lo hi w v ls) (hh : hi ≤ w.heap.size) (hr' : Rd strF.shape lo' hi' w u ms) (hh' : hi' ≤ w.heap.size) :
    Calls Try.prog 49 #[v, u] w fun e w' => ∃ r, e = .returned r ∧ Below w.heap.size w w' ∧ Own editF 91 w.heap.size w'.heap.size w' r (difOf ls ms) := by
  obtain ⟨i0, hi0, hz0, hz1, hz2⟩ := info_parts Try.infoEdit
  obtain ⟨B, HB⟩ : ∃ B, Hid (B = w.heap.size) := ⟨_, rfl⟩
  have hBw : B ≤ w.heap.size := Nat.le_of_eq HB.out
  have hBw' : w.heap.size ≤ B := Nat.le_of_eq HB.out.symm
  by_cases hf : ls.length ≤ 200 ∧ ms.length ≤ 200
  · have HC := Lib.hid (show difOf ls ms = dif ls ms by rw [difOf, if_pos hf])
    obtain ⟨hl, hm⟩ := hf
    go_enter Try.func49, Try.ntmps49
    go_wp2_with fail
    have hba : Below w.heap.size w (w.alloc (.cells #[] 91)) := (Below.refl _ _).alloc (Nat.le_refl _) _
    have hbs := hba.size
    replace hr := hr.below hba hh
    replace hr' := hr'.below hba hh'
    have hh1 := Nat.le_trans hh hbs
    have hh2 := Nat.le_trans hh' hbs
    refine (l18Many_yes hr hr' hl hm).mono ?_
    rintro e w1 ⟨rfl, rfl⟩
    go_wp2_with fail
    refine (l18Table_any hr hh1 hr' hh2 (by omega) (by omega)).mono ?_
    rintro e w1 ⟨t, rfl, hb1, ht⟩
    have hs1 := hb1.size
    have hB1 : Below B w w1 := (hba.mono hBw).trans (hb1.mono (Nat.le_trans hBw hbs))
    have hra := hr.below hb1 hh1
    have hrb := hr'.below hb1 hh2
    obtain ⟨C, HD⟩ : ∃ C, Hid (C = w1.heap.size) := ⟨_, rfl⟩
    have hCw : C ≤ w1.heap.size := Nat.le_of_eq HD.out
    have hCw' : w1.heap.size ≤ C := Nat.le_of_eq HD.out.symm
    have hO0 : OutE editF 91 B C w1 (.slice (some ⟨w.heap.size, 0, none⟩) 0 0) [] := .inr ⟨rfl, ⟨_, rfl⟩, ((Own.empty editF 91 B w hBw).below hb1 (Nat.le_refl _)).wide (Nat.le_refl _) (by omega)⟩
    obtain ⟨G, O, c, rfl, _, tG, t1, t2, t3⟩ := tab_cells ht
    obtain ⟨a, ca, rfl, a2, a3, a4, a5⟩ := hra.strF
    obtain ⟨b, cb, rfl, b2, b3, b4, b5⟩ := hrb.strF
    unfold maxLen at a3 b3 t2
    clear ht hr hr'
    go_wp2
    go_loopw [5, 7, 8] (fun out i j wr => ∃ (p q : Nat) (ys : List Edit), p ≤ ls.length ∧ i = .int .i64 p ∧ q ≤ ms.length ∧ j = .int .i64 q ∧ ys.length ≤ p + q ∧ Hid (dif ls ms = ys ++ dif (ls.drop p) (ms.drop q)) ∧ Below C w1 wr ∧ OutE editF 91 B C wr out ys) (fun _ i j _ => ls.length + ms.length - ((intOf i).toNat + (intOf j).toNat))
    case atStart => exact ⟨0, 0, [], Nat.zero_le _, rfl, Nat.zero_le _, rfl, Nat.zero_le _, rfl, Below.refl _ _, hO0⟩
    case round =>
      obtain ⟨p, q, ys, hp, rfl, hq, rfl, hyl, HP, hb, hO⟩ := hrel
      have hsz := hb.size
      have hyl2 : ys.length ≤ 400 := by omega
      by_cases hp1 : p < ls.length
      · obtain ⟨ba, oa, rfl, _, ahi, a6⟩ := a5 p hp1
        have da := (hb.cell (p := ⟨ba, _, none⟩) (by show ba < _; omega)).trans a6
        have HA := Lib.hid (drop_at hp1)
        have n1 : (p : Int) < (ls.length : Int) := by omega
        have n2 : (p : Int) + 1 < (ls.length : Int) + 1 := by omega
        have n3 : (p : Int) < (ls.length : Int) + 1 := by omega
        have n4 : (0 : Int) ≤ (p : Int) + 1 := by omega
        have k1 : decide ((p : Int) < (ls.length : Int)) = true := decide_eq_true n1
        have k1' : decide (p < ls.length) = true := decide_eq_true hp1
        by_cases hq1 : q < ms.length
        · obtain ⟨bb, ob, rfl, _, bhi, b6⟩ := b5 q hq1
          have db := (hb.cell (p := ⟨bb, _, none⟩) (by show bb < _; omega)).trans b6
          have HE := Lib.hid (drop_at hq1)
          have m1 : (q : Int) < (ms.length : Int) := by omega
          have m2 : (q : Int) + 1 < (ms.length : Int) + 1 := by omega
          have m3 : (q : Int) < (ms.length : Int) + 1 := by omega
          have m4 : (0 : Int) ≤ (q : Int) + 1 := by omega
          have k2 : decide ((q : Int) < (ms.length : Int)) = true := decide_eq_true m1
          have k2' : decide (q < ms.length) = true := decide_eq_true hq1
          have k3 : ((q : Int) == (ms.length : Int)) = false := beq_eq_false_iff_ne.2 (by omega)
          have k3' : (q == ms.length) = false := beq_eq_false_iff_ne.2 (by omega)
          have k3'' : decide (q = ms.length) = false := decide_eq_false (by omega)
          have k4 : decide ((ms.length : Int) ≤ (q : Int)) = false := decide_eq_false (by omega)
          have k4' : decide (ms.length ≤ q) = false := decide_eq_false (by omega)
          obtain ⟨g1, o1, e1, _, h1hi, r1, r2, r3, r4⟩ := t3 p (by omega)
          obtain ⟨g2, o2, e2, _, h2hi, s1, s2, s3, s4⟩ := t3 (p + 1) (by omega)
          have x1 := (hb.cell (p := ⟨G, _, none⟩) (by show G < _; omega)).trans r1
          have x2 := (hb.cell (p := ⟨G, _, none⟩) (by show G < _; omega)).trans s1
          have x3 := (hb.cell (p := ⟨g1, _, none⟩) (by show g1 < _; omega)).trans (r4 (q + 1) (by omega))
          have x4 := (hb.cell (p := ⟨g2, _, none⟩) (by show g2 < _; omega)).trans (s4 q (by omega))
          unfold maxLen at r3 s3
          clear a6 b6 r1 r4 s1 s4
          have HQ := Lib.hid (dif_both ls[p] (ls.drop (p + 1)) ms[q] (ms.drop (q + 1)))
          have HR1 := Lib.hid (show lcs (ls[p] :: ls.drop (p + 1)) (ms.drop (q + 1)) = lc ls ms p (q + 1) by rw [← drop_at hp1]; rfl)
          have HR2 := Lib.hid (show lcs (ls.drop (p + 1)) (ms[q] :: ms.drop (q + 1)) = lc ls ms (p + 1) q by rw [← drop_at hq1]; rfl)
          generalize ls[p] = x at *
          generalize ms[q] = y at *
          by_cases hx : x = y
          · have ht := str_yes hx
            have HX : Hid (dif (ls.drop p) (ms.drop q) = ⟨1, x⟩ :: dif (ls.drop (p + 1)) (ms.drop (q + 1))) := by unfold Hid; rw [HA.out, HE.out, HQ.out, if_pos hx]
            clear hx
            go_wp2_with fail
            go_quiet (fail)
            go_wp2_with (at_builtin; refine wp_app1e (F := editF) (P := Try.prog) (y := ⟨1, x⟩) rfl (.tmp 59) (.tmp 65) 35 rfl Try.underlying35 hi0 hz0 hz1 hz2 rfl (by decide) rfl (hO.keep (w' := (wr.drewN nq).alloc _) ((blw_drewN (Below.refl _ _) nq).alloc (Nat.le_refl _) _) (by omega)) wr.heap.size rfl (heap_alloc_new _ _) rfl (by omega) (by omega) (by simp; omega) ?_; intro v' w' hO' hb')
            go_roundw
            case rel => exact ⟨p + 1, q + 1, ys ++ [⟨1, x⟩], by omega, by go_num, by omega, by go_num, (by simp; omega), (by unfold Hid; rw [HP.out, HX.out]; simp), hb.trans (((blw_drewN (Below.refl _ _) nq).alloc (by simp; omega) _).trans hb'), hO'⟩
            case measure => simp [intOf]; omega
          · have ht := str_no hx
            by_cases hc : lc ls ms p (q + 1) ≤ lc ls ms (p + 1) q
            · have HX : Hid (dif (ls.drop p) (ms.drop q) = ⟨2, x⟩ :: dif (ls.drop (p + 1)) (ms.drop q)) := by unfold Hid; rw [HA.out, HE.out, HQ.out, if_neg hx, HR1.out, HR2.out, if_pos hc]
              clear hx
              go_wp2_with fail
              go_quiet (fail)
              go_wp2_with fail
              generalize hw : wr.drewN nq = w4
              replace da := cell_dn hw da
              replace x1 := cell_dn hw x1
              replace x2 := cell_dn hw x2
              replace x3 := cell_dn hw x3
              replace x4 := cell_dn hw x4
              have hb4 := blw_dn hw hb
              have hO4 := hO.keep (w' := w4) (blw_dn hw (Below.refl _ _)) (by omega)
              have hs4 := hb4.size
              clear hw hb hO hsz db
              have e1 : IntKind.i64.wrap ((p : Int) + 1) = (p : Int) + 1 := IntWalk.i64_in _ (by omega)
              have e2 : ((p : Int) + 1).toNat = p + 1 := by omega
              have e3 : IntKind.i64.wrap ((q : Int) + 1) = (q : Int) + 1 := IntWalk.i64_in _ (by omega)
              have e4 : ((q : Int) + 1).toNat = q + 1 := by omega
              go_quiet (fail)
              clear e1 e2 e3 e4
              go_wp2_with (at_builtin; refine wp_app1e (F := editF) (P := Try.prog) (y := ⟨2, x⟩) rfl (.tmp 101) (.tmp 107) 35 rfl Try.underlying35 hi0 hz0 hz1 hz2 rfl (by decide) rfl (hO4.keep (w' := (w4.drewN nq).alloc _) ((blw_drewN (Below.refl _ _) nq).alloc (Nat.le_refl _) _) (by omega)) w4.heap.size rfl (heap_alloc_new _ _) rfl (by omega) (by omega) (by simp; omega) ?_; intro v' w' hO' hb')
              go_roundw
              case rel => exact ⟨p + 1, q, ys ++ [⟨2, x⟩], by omega, by go_num, by omega, rfl, (by simp; omega), (by unfold Hid; rw [HP.out, HX.out]; simp), hb4.trans (((blw_drewN (Below.refl _ _) nq).alloc (by simp; omega) _).trans hb'), hO'⟩
              case measure => simp [intOf]; omega
            · have HX : Hid (dif (ls.drop p) (ms.drop q) = ⟨3, y⟩ :: dif (ls.drop p) (ms.drop (q + 1))) := by unfold Hid; rw [HA.out, HE.out, HQ.out, if_neg hx, HR1.out, HR2.out, if_neg hc]
              clear hx
              go_wp2_with fail
              go_quiet (fail)
              go_wp2_with fail
              generalize hw : wr.drewN nq = w4
              replace db := cell_dn hw db
              replace x1 := cell_dn hw x1
              replace x2 := cell_dn hw x2
              replace x3 := cell_dn hw x3
              replace x4 := cell_dn hw x4
              have hb4 := blw_dn hw hb
              have hO4 := hO.keep (w' := w4) (blw_dn hw (Below.refl _ _)) (by omega)
              have hs4 := hb4.size
              clear hw hb hO hsz da
              have e1 : IntKind.i64.wrap ((p : Int) + 1) = (p : Int) + 1 := IntWalk.i64_in _ (by omega)
              have e2 : ((p : Int) + 1).toNat = p + 1 := by omega
              have e3 : IntKind.i64.wrap ((q : Int) + 1) = (q : Int) + 1 := IntWalk.i64_in _ (by omega)
              have e4 : ((q : Int) + 1).toNat = q + 1 := by omega
              go_quiet (fail)
              clear e1 e2 e3 e4
              go_wp2_with (at_builtin; refine wp_app1e (F := editF) (P := Try.prog) (y := ⟨3, y⟩) rfl (.tmp 27) (.tmp 33) 35 rfl Try.underlying35 hi0 hz0 hz1 hz2 rfl (by decide) rfl (hO4.keep (w' := (w4.drewN nq).alloc _) ((blw_drewN (Below.refl _ _) nq).alloc (Nat.le_refl _) _) (by omega)) w4.heap.size rfl (heap_alloc_new _ _) rfl (by omega) (by omega) (by simp; omega) ?_; intro v' w' hO' hb')
              go_roundw
              case rel => exact ⟨p, q + 1, ys ++ [⟨3, y⟩], by omega, rfl, by omega, by go_num, (by simp; omega), (by unfold Hid; rw [HP.out, HX.out]; simp), hb4.trans (((blw_drewN (Below.refl _ _) nq).alloc (by simp; omega) _).trans hb'), hO'⟩
              case measure => simp [intOf]; omega
        · have HE : Hid (ms.drop q = []) := List.drop_eq_nil_of_le (by omega)
          have k2 : decide ((q : Int) < (ms.length : Int)) = false := decide_eq_false (by omega)
          have k2' : decide (q < ms.length) = false := decide_eq_false hq1
          have k3 : ((q : Int) == (ms.length : Int)) = true := beq_iff_eq.2 (by omega)
          have k3' : (q == ms.length) = true := beq_iff_eq.2 (by omega)
          have k3'' : decide (q = ms.length) = true := decide_eq_true (by omega)
          have k4 : decide ((ms.length : Int) ≤ (q : Int)) = true := decide_eq_true (by omega)
          have k4' : decide (ms.length ≤ q) = true := decide_eq_true (by omega)
          clear a6
          have HQ := Lib.hid (dif_left ls[p] (ls.drop (p + 1)))
          have HX : Hid (dif (ls.drop p) (ms.drop q) = ⟨2, ls[p]⟩ :: dif (ls.drop (p + 1)) (ms.drop q)) := by unfold Hid; rw [HA.out, HE.out, HQ.out]
          generalize ls[p] = x at *
          go_wp2_with fail
          go_quiet (fail)
          go_wp2_with fail
          generalize hw : wr.drewN nq = w4
          replace da := cell_dn hw da
          have hb4 := blw_dn hw hb
          have hO4 := hO.keep (w' := w4) (blw_dn hw (Below.refl _ _)) (by omega)
          have hs4 := hb4.size
          clear hw hb hO hsz
          go_quiet (fail)
          go_wp2_with (at_builtin; refine wp_app1e (F := editF) (P := Try.prog) (y := ⟨2, x⟩) rfl (.tmp 101) (.tmp 107) 35 rfl Try.underlying35 hi0 hz0 hz1 hz2 rfl (by decide) rfl (hO4.keep (w' := (w4.drewN nq).alloc _) ((blw_drewN (Below.refl _ _) nq).alloc (Nat.le_refl _) _) (by omega)) w4.heap.size rfl (heap_alloc_new _ _) rfl (by omega) (by omega) (by simp; omega) ?_; intro v' w' hO' hb')
          go_roundw
          case rel => exact ⟨p + 1, q, ys ++ [⟨2, x⟩], by omega, by go_num, by omega, rfl, (by simp; omega), (by unfold Hid; rw [HP.out, HX.out]; simp), hb4.trans (((blw_drewN (Below.refl _ _) nq).alloc (by simp; omega) _).trans hb'), hO'⟩
          case measure => simp [intOf]; omega
      ·
        have k1 : decide ((p : Int) < (ls.length : Int)) = false := decide_eq_false (by omega)
        have k1' : decide (p < ls.length) = false := decide_eq_false hp1
        by_cases hq1 : q < ms.length
        · obtain ⟨bb, ob, rfl, _, bhi, b6⟩ := b5 q hq1
          have da := (hb.cell (p := ⟨bb, _, none⟩) (by show bb < _; omega)).trans b6
          have HE := Lib.hid (drop_at hq1)
          have HA : Hid (ls.drop p = []) := List.drop_eq_nil_of_le (by omega)
          have m1 : (q : Int) < (ms.length : Int) := by omega
          have m2 : (q : Int) + 1 < (ms.length : Int) + 1 := by omega
          have m3 : (q : Int) < (ms.length : Int) + 1 := by omega
          have m4 : (0 : Int) ≤ (q : Int) + 1 := by omega
          have k2 : decide ((q : Int) < (ms.length : Int)) = true := decide_eq_true m1
          have k2' : decide (q < ms.length) = true := decide_eq_true hq1
          have k3 : ((q : Int) == (ms.length : Int)) = false := beq_eq_false_iff_ne.2 (by omega)
          have k3' : (q == ms.length) = false := beq_eq_false_iff_ne.2 (by omega)
          have k3'' : decide (q = ms.length) = false := decide_eq_false (by omega)
          have k4 : decide ((ms.length : Int) ≤ (q : Int)) = false := decide_eq_false (by omega)
          have k4' : decide (ms.length ≤ q) = false := decide_eq_false (by omega)
          clear b6
          have HQ := Lib.hid (dif_right ms[q] (ms.drop (q + 1)))
          have HX : Hid (dif (ls.drop p) (ms.drop q) = ⟨3, ms[q]⟩ :: dif (ls.drop p) (ms.drop (q + 1))) := by unfold Hid; rw [HA.out, HE.out, HQ.out]
          generalize ms[q] = x at *
          go_wp2_with fail
          go_quiet (fail)
          go_wp2_with fail
          generalize hw : wr.drewN nq = w4
          replace da := cell_dn hw da
          have hb4 := blw_dn hw hb
          have hO4 := hO.keep (w' := w4) (blw_dn hw (Below.refl _ _)) (by omega)
          have hs4 := hb4.size
          clear hw hb hO hsz
          go_quiet (fail)
          go_wp2_with (at_builtin; refine wp_app1e (F := editF) (P := Try.prog) (y := ⟨3, x⟩) rfl (.tmp 27) (.tmp 33) 35 rfl Try.underlying35 hi0 hz0 hz1 hz2 rfl (by decide) rfl (hO4.keep (w' := (w4.drewN nq).alloc _) ((blw_drewN (Below.refl _ _) nq).alloc (Nat.le_refl _) _) (by omega)) w4.heap.size rfl (heap_alloc_new _ _) rfl (by omega) (by omega) (by simp; omega) ?_; intro v' w' hO' hb')
          go_roundw
          case rel => exact ⟨p, q + 1, ys ++ [⟨3, x⟩], by omega, rfl, by omega, by go_num, (by simp; omega), (by unfold Hid; rw [HP.out, HX.out]; simp), hb4.trans (((blw_drewN (Below.refl _ _) nq).alloc (by simp; omega) _).trans hb'), hO'⟩
          case measure => simp [intOf]; omega
        · have HE : Hid (ms.drop q = []) := List.drop_eq_nil_of_le (by omega)
          have HA : Hid (ls.drop p = []) := List.drop_eq_nil_of_le (by omega)
          have HF : Hid (dif ls ms = ys) := by unfold Hid; rw [HP.out, HE.out, HA.out, dif_nil, List.append_nil]
          have k2 : decide ((q : Int) < (ms.length : Int)) = false := decide_eq_false (by omega)
          have k2' : decide (q < ms.length) = false := decide_eq_false hq1
          have hfin : Below B w wr := hB1.trans (hb.mono (by omega))
          have hown := hO.own (by omega) (by omega)
          go_wp2
          go_ret
          rw [HB.out] at hfin hown
          exact ⟨_, rfl, hfin, by rw [HC.out, HF.out]; exact hown⟩
  · have HC := Lib.hid (show difOf ls ms = [] by rw [difOf, if_neg hf])
    go_enter Try.func49, Try.ntmps49
    go_wp2_with fail
    have hba : Below w.heap.size w (w.alloc (.cells #[] 91)) := (Below.refl _ _).alloc (Nat.le_refl _) _
    have hbs := hba.size
    replace hr := hr.below hba hh
    replace hr' := hr'.below hba hh'
    have hh1 := Nat.le_trans hh hbs
    have hh2 := Nat.le_trans hh' hbs
    refine (l18Many_no hr hr' hf).mono ?_
    rintro e w1 ⟨rfl, rfl⟩
    go_wp2
    go_ret
    exact ⟨_, rfl, hba, by rw [HC.out]; exact Own.empty _ _ _ _ (Nat.le_refl _)⟩
end Go.Proofs.Ythfeochekadhcaa
