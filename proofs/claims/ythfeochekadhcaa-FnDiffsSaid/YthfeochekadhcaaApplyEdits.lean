/- ApplyEdits of the program and of the reference: what edits make of lines. -/
import Derived.Test.YthfeochekadhcaaHEdit
import Derived.Test.YthfeochekadhcaaHString
import Derived.Test.YthfeochekadhcaaApp
import Derived.Test.YthfeochekadhcaaRange
namespace Go.Proofs.Ythfeochekadhcaa
open Go.RowKit

/-- what the edits make of the lines; none: they don't fit -/
def apE : List ByteArray → List Edit → Option (List ByteArray)
  | [], [] => some []
  | _ :: _, [] => none
  | r, e :: es =>
    if 1 ≤ e.kind ∧ e.kind ≤ 3 then
      if e.kind = 3 then (apE r es).map (e.line :: ·)
      else match r with
        | [] => none
        | x :: r' => if x = e.line then (if e.kind = 2 then apE r' es else (apE r' es).map (e.line :: ·)) else none
    else none
theorem apE_bad {r : List ByteArray} {e : Edit} {es : List Edit} (h : ¬ (1 ≤ e.kind ∧ e.kind ≤ 3)) : apE r (e :: es) = none := by
  cases r <;> simp [apE, h]
theorem apE_add {r : List ByteArray} {e : Edit} {es : List Edit} (h : e.kind = 3) : apE r (e :: es) = (apE r es).map (e.line :: ·) := by
  cases r <;> simp [apE, h]
theorem apE_end {e : Edit} {es : List Edit} (h : e.kind ≠ 3) : apE [] (e :: es) = none := by
  simp [apE, h]
theorem apE_miss {x : ByteArray} {r : List ByteArray} {e : Edit} {es : List Edit} (h : e.kind ≠ 3) (hx : x ≠ e.line) : apE (x :: r) (e :: es) = none := by
  simp [apE, h, hx]
theorem apE_drop {x : ByteArray} {r : List ByteArray} {e : Edit} {es : List Edit} (h : e.kind = 2) (hx : x = e.line) : apE (x :: r) (e :: es) = apE r es := by
  simp [apE, h, hx]
theorem apE_keep {x : ByteArray} {r : List ByteArray} {e : Edit} {es : List Edit} (h1 : 1 ≤ e.kind ∧ e.kind ≤ 3) (h2 : e.kind ≠ 2) (h3 : e.kind ≠ 3) (hx : x = e.line) : apE (x :: r) (e :: es) = (apE r es).map (e.line :: ·) := by
  simp [apE, h1, h2, h3, hx]
theorem apE_len (r : List ByteArray) (es : List Edit) : ∀ l, apE r es = some l → l.length ≤ es.length := by
  induction es generalizing r with
  | nil => intro l h; cases r <;> simp [apE] at h; subst h; exact Nat.le_refl _
  | cons e es ih =>
    intro l h
    have one : ∀ r' : List ByteArray, (apE r' es).map (e.line :: ·) = some l → l.length ≤ (e :: es).length := fun r' hm => by
      obtain ⟨m, hm1, rfl⟩ := Option.map_eq_some_iff.1 hm
      have := ih r' m hm1
      simp; omega
    by_cases hb : 1 ≤ e.kind ∧ e.kind ≤ 3
    · by_cases h3 : e.kind = 3
      · rw [apE_add h3] at h; exact one _ h
      · cases r with
        | nil => rw [apE_end h3] at h; cases h
        | cons x r =>
          by_cases hx : x = e.line
          · by_cases h2 : e.kind = 2
            · rw [apE_drop h2 hx] at h
              have := ih r l h
              simp; omega
            · rw [apE_keep hb h2 h3 hx] at h; exact one _ h
          · rw [apE_miss h3 hx] at h; cases h
    · rw [apE_bad hb] at h; cases h
theorem apE_lenD (r : List ByteArray) (es : List Edit) : ((apE r es).getD []).length ≤ es.length := by
  cases h : apE r es with
  | none => exact Nat.zero_le _
  | some l => exact apE_len r es l h
/-- the rest, ahead of which out has been made -/
def apO (out : List ByteArray) (r : Option (List ByteArray)) : Option (List ByteArray) := r.map (out ++ ·)
theorem apO_snoc (out : List ByteArray) (s : ByteArray) (r : Option (List ByteArray)) : apO out (r.map (s :: ·)) = apO (out ++ [s]) r := by
  cases r <;> simp [apO]
theorem apO_none (out : List ByteArray) : apO out none = none := rfl
theorem apO_nil (r : Option (List ByteArray)) : apO [] r = r := by cases r <;> simp [apO]
/-- what the call answers -/
def ApAns (B : Nat) (w : World) (r : Option (List ByteArray)) (e : Ending) (w' : World) : Prop :=
  ∃ u, e = .returned (.tuple #[u, .bool r.isSome]) ∧ Below B w w' ∧ Own strF 9 B w'.heap.size w' u (r.getD [])

set_option maxHeartbeats 2000000 in
set_option maxRecDepth 100000 in
theorem applyEdits_impl {ls : List ByteArray} {xs : List Edit} {v u : Value} {lo hi lo' hi' : Nat} {w : World} (hr : Rd strF.shape lo hi w v ls) (hh : hi ≤ w.heap.size) (hr' : Rd editF.shape lo' hi' w u xs) (hh' : hi' ≤ w.heap.size) (hla : ls.length ≤ 1048576) (hl : xs.length ≤ 1048576) :
    Calls Try.prog 40 #[v, u] w (ApAns w.heap.size w (apE ls xs)) := by
  obtain ⟨a, c, rfl, h2, h3, h4, h5⟩ := hr.strF
  obtain ⟨a', c', rfl, h2', h3', h4', h5'⟩ := hr'.editF
  unfold maxLen at h3 h3'
  obtain ⟨i0, hi0, hz0, hz1, hz2⟩ := info_parts Try.infoString
  obtain ⟨B, HB⟩ : ∃ B, Hid (B = w.heap.size) := ⟨_, rfl⟩
  have hBw : B ≤ w.heap.size := Nat.le_of_eq HB.out
  have hBw' : w.heap.size ≤ B := Nat.le_of_eq HB.out.symm
  go_enter Try.func40, Try.ntmps40
  go_wp2
  go_loopw [6, 7, 12] (fun out z i wr => ∃ (k q : Nat) (ys : List ByteArray), k ≤ xs.length ∧ i = .int .i64 k ∧ q ≤ ls.length ∧ z = .int .i64 q ∧ Hid (apE ls xs = apO ys (apE (ls.drop q) (xs.drop k))) ∧ ys.length ≤ k ∧ Below B w wr ∧ Own strF 9 B wr.heap.size wr out ys) (fun out z i _ => xs.length - (intOf i).toNat)
  case atStart => exact ⟨0, 0, [], Nat.zero_le _, rfl, Nat.zero_le _, rfl, (apO_nil _).symm, Nat.le_refl _, Below.refl _ _, Own.nil _ _ _ _ _⟩
  case round =>
    obtain ⟨k, q, ys, hk, rfl, hq, rfl, HP, hyl, hb, hO⟩ := hrel
    have hsz := hb.size
    by_cases hlt : k < xs.length
    · have HD := Lib.hid (drop_at hlt)
      obtain ⟨b, off, rfl, hlo, hhi, c0, c1⟩ := h5' k hlt
      have d0 := (hb.cell (p := ⟨b, _, none⟩) (by show b < _; omega)).trans c0
      have d1 := (hb.cell (p := ⟨b, _, none⟩) (by show b < _; omega)).trans c1
      clear c0 c1
      generalize xs[k] = x at *
      obtain ⟨kd, ln⟩ := x
      simp only at d0 d1
      have hki : (k : Int) < (xs.length : Int) := by omega
      by_cases hg : 1 ≤ kd ∧ kd ≤ 3
      · obtain ⟨hg1, hg2⟩ := hg
        by_cases e3 : kd = 3
        · have HX := Lib.hid (apE_add (r := ls.drop q) (e := ⟨kd, ln⟩) (es := xs.drop (k + 1)) e3)
          have t1 : (kd != 3) = false := by rw [e3]; rfl
          have t2 : (kd != 2) = true := by rw [e3]; rfl
          clear e3
          go_wp2_with (first | (go_at_call 85; refine (inRange_yes _ _ _ _ (by omega) (by omega)).mono ?_; rintro e w' ⟨rfl, rfl⟩) | (at_builtin; refine wp_app1 (F := strF) (P := Try.prog) (y := ln) rfl (.tmp 41) (.tmp 44) 56 rfl Try.underlying56 hi0 hz0 hz1 hz2 rfl (by decide) rfl ((hO.alloc _).alloc _) (wr.heap.size + 1) rfl (heap_alloc2_new _ _ _) rfl (by omega) (by omega) (by simp; omega) ?_; intro v' w' hO' hb'))
          go_roundw
          case rel => exact ⟨k + 1, q, ys ++ [ln], by omega, by go_num, by omega, rfl, (by unfold Hid; rw [HP.out, HD.out, HX.out, apO_snoc]), (by rw [List.length_append]; simp; omega), hb.trans (blw_al2 (hb'.mono (by omega)) (by omega)), hO'⟩
          case measure => simp [intOf]; omega
        · have t1 : (kd != 3) = true := by rw [bne_iff_ne]; exact e3
          by_cases hqa : q < ls.length
          · have HDA := Lib.hid (drop_at hqa)
            obtain ⟨b1, off1, rfl, hlo1, hhi1, c0⟩ := h5 q hqa
            have r0 := (hb.cell (p := ⟨b1, _, none⟩) (by show b1 < _; omega)).trans c0
            have hbl : b1 < wr.heap.size := World.block_lt_of_cell? wr _ r0
            have hbl' : b < wr.heap.size := World.block_lt_of_cell? wr _ d0
            clear c0
            generalize ls[q] = y at *
            have q1 : ((q : Int) == (ls.length : Int)) = false := beq_eq_false_iff_ne.2 (by omega)
            have q2 : (q == ls.length) = false := beq_eq_false_iff_ne.2 (by omega)
            have q3 : decide (q = ls.length) = false := decide_eq_false (by omega)
            have q4 : decide (ls.length ≤ q) = false := decide_eq_false (by omega)
            have q5 : decide ((ls.length : Int) ≤ (q : Int)) = false := decide_eq_false (by omega)
            have q6 : (q : Int) < (ls.length : Int) := by omega
            by_cases hy : y = ln
            · have ht : (y.toList == ln.toList) = true := str_yes hy
              have ht2 : (y.toList != ln.toList) = false := by rw [bne, ht]; rfl
              by_cases e2 : kd = 2
              · have HX := Lib.hid (apE_drop (r := ls.drop (q + 1)) (e := ⟨kd, ln⟩) (es := xs.drop (k + 1)) e2 hy)
                have t2 : (kd != 2) = false := by rw [e2]; rfl
                clear e2 e3 hy
                go_wp2_with (go_at_call 85; refine (inRange_yes _ _ _ _ (by omega) (by omega)).mono ?_; rintro e w' ⟨rfl, rfl⟩)
                go_quiet (fail)
                go_wp2
                go_roundw
                case rel => exact ⟨k + 1, q + 1, ys, by omega, by go_num, by omega, by go_num, (by unfold Hid; rw [HP.out, HD.out, HDA.out, HX.out]), (by omega), blw_drewN (hb.alloc (by omega) _) _, ((hO.alloc _).up).drewN _⟩
                case measure => simp [intOf]; omega
              · have HX := Lib.hid (apE_keep (r := ls.drop (q + 1)) (e := ⟨kd, ln⟩) (es := xs.drop (k + 1)) ⟨hg1, hg2⟩ e2 e3 hy)
                have t2 : (kd != 2) = true := by rw [bne_iff_ne]; exact e2
                clear e2 e3 hy
                go_wp2_with (go_at_call 85; refine (inRange_yes _ _ _ _ (by omega) (by omega)).mono ?_; rintro e w' ⟨rfl, rfl⟩)
                go_quiet (fail)
                go_wp2_with (at_builtin; refine wp_app1 (F := strF) (P := Try.prog) (y := ln) rfl (.tmp 41) (.tmp 44) 56 rfl Try.underlying56 hi0 hz0 hz1 hz2 rfl (by decide) rfl (((hO.alloc _).alloc _).drewN _) (wr.heap.size + 1) rfl (heap_alloc2_new _ _ _) rfl (by omega) (by omega) (by simp; omega) ?_; intro v' w' hO' hb')
                go_roundw
                case rel => exact ⟨k + 1, q + 1, ys ++ [ln], by omega, by go_num, by omega, by go_num, (by unfold Hid; rw [HP.out, HD.out, HDA.out, HX.out, apO_snoc]), (by rw [List.length_append]; simp; omega), ((blw_drewN (hb.alloc (by omega) _) _).alloc (by simp; omega) _).trans (hb'.mono (by omega)), hO'⟩
                case measure => simp [intOf]; omega
            · have ht : (y.toList == ln.toList) = false := str_no hy
              have ht2 : (y.toList != ln.toList) = true := by rw [bne, ht]; rfl
              have HX := Lib.hid (apE_miss (r := ls.drop (q + 1)) (e := ⟨kd, ln⟩) (es := xs.drop (k + 1)) e3 hy)
              clear e3 hy
              go_wp2_with (go_at_call 85; refine (inRange_yes _ _ _ _ (by omega) (by omega)).mono ?_; rintro e w' ⟨rfl, rfl⟩)
              go_quiet (fail)
              go_wp2
              go_ret2
              have e := HB.out
              subst e
              rw [HP.out, HD.out, HDA.out, HX.out, apO_none]
              exact ⟨_, rfl, blw_drewN (hb.alloc (by omega) _) _, Own.nil _ _ _ _ _⟩
          · have HDA := Lib.hid (show ls.drop q = [] from List.drop_eq_nil_of_le (by omega))
            have q1 : ((q : Int) == (ls.length : Int)) = true := beq_iff_eq.2 (by omega)
            have q2 : (q == ls.length) = true := beq_iff_eq.2 (by omega)
            have q3 : decide (q = ls.length) = true := decide_eq_true (by omega)
            have q4 : decide (ls.length ≤ q) = true := decide_eq_true (by omega)
            have q5 : decide ((ls.length : Int) ≤ (q : Int)) = true := decide_eq_true (by omega)
            have HX := Lib.hid (apE_end (e := ⟨kd, ln⟩) (es := xs.drop (k + 1)) e3)
            clear e3
            go_wp2_with (go_at_call 85; refine (inRange_yes _ _ _ _ (by omega) (by omega)).mono ?_; rintro e w' ⟨rfl, rfl⟩)
            go_quiet (fail)
            go_wp2
            go_ret2
            have e := HB.out
            subst e
            rw [HP.out, HD.out, HDA.out, HX.out, apO_none]
            exact ⟨_, rfl, blw_drewN (hb.alloc (by omega) _) _, Own.nil _ _ _ _ _⟩
      · have HX := Lib.hid (apE_bad (r := ls.drop q) (e := ⟨kd, ln⟩) (es := xs.drop (k + 1)) hg)
        have HG := Lib.hid hg
        clear hg
        go_wp2_with (go_at_call 85; refine (inRange_no _ _ _ _ HG.out).mono ?_; rintro e w' ⟨rfl, rfl⟩)
        go_ret2
        have e := HB.out
        subst e
        rw [HP.out, HD.out, HX.out, apO_none]
        exact ⟨_, rfl, hb.alloc (by omega) _, Own.nil _ _ _ _ _⟩
    · have HD := Lib.hid (show xs.drop k = [] from List.drop_eq_nil_of_le (by omega))
      by_cases hqa : q < ls.length
      · have HX := Lib.hid (show apE (ls.drop q) [] = none by rw [drop_at hqa]; rfl)
        go_wp2
        go_ret2
        have e := HB.out
        subst e
        rw [HP.out, HD.out, HX.out, apO_none]
        exact ⟨_, rfl, hb, Own.nil _ _ _ _ _⟩
      · have HX := Lib.hid (show apE (ls.drop q) [] = some [] by rw [List.drop_eq_nil_of_le (by omega)]; rfl)
        go_wp2
        go_ret2
        have e := HB.out
        subst e
        rw [HP.out, HD.out, HX.out]
        refine ⟨_, rfl, hb, ?_⟩
        show Own _ _ _ _ _ _ (ys ++ [])
        rw [List.append_nil]
        exact hO.wide (by omega) (Nat.le_refl _)

set_option maxHeartbeats 2000000 in
set_option maxRecDepth 100000 in
theorem applyEdits_spec {ls : List ByteArray} {xs : List Edit} {v u : Value} {lo hi lo' hi' : Nat} {w : World} (hr : Rd strF.shape lo hi w v ls) (hh : hi ≤ w.heap.size) (hr' : Rd editF.shape lo' hi' w u xs) (hh' : hi' ≤ w.heap.size) (hla : ls.length ≤ 1048576) (hl : xs.length ≤ 1048576) :
    Calls Try.prog 45 #[v, u] w (ApAns w.heap.size w (apE ls xs)) := by
  obtain ⟨a, c, rfl, h2, h3, h4, h5⟩ := hr.strF
  obtain ⟨a', c', rfl, h2', h3', h4', h5'⟩ := hr'.editF
  unfold maxLen at h3 h3'
  obtain ⟨i0, hi0, hz0, hz1, hz2⟩ := info_parts Try.infoString
  obtain ⟨B, HB⟩ : ∃ B, Hid (B = w.heap.size) := ⟨_, rfl⟩
  have hBw : B ≤ w.heap.size := Nat.le_of_eq HB.out
  have hBw' : w.heap.size ≤ B := Nat.le_of_eq HB.out.symm
  go_enter Try.func45, Try.ntmps45
  go_wp2
  go_loopw [7, 8, 9] (fun out z i wr => ∃ (k q : Nat) (ys : List ByteArray), k ≤ xs.length ∧ i = .int .i64 k ∧ q ≤ ls.length ∧ z = .int .i64 q ∧ Hid (apE ls xs = apO ys (apE (ls.drop q) (xs.drop k))) ∧ ys.length ≤ k ∧ Below B w wr ∧ Own strF 9 (B + 1) wr.heap.size wr out ys ∧ Own strF 9 B (B + 1) wr (.slice (some ⟨w.heap.size, 0, none⟩) 0 0) []) (fun out z i _ => xs.length - (intOf i).toNat)
  case atStart => exact ⟨0, 0, [], Nat.zero_le _, rfl, Nat.zero_le _, rfl, (apO_nil _).symm, Nat.le_refl _, ((Below.refl _ _).alloc hBw _).alloc (by simp; omega) _, empty2 strF 9 (by omega), ((Own.empty strF 9 B w hBw).alloc _).wide (Nat.le_refl _) (by simp; omega)⟩
  case round =>
    obtain ⟨k, q, ys, hk, rfl, hq, rfl, HP, hyl, hb, hO, hN⟩ := hrel
    have hsz := hb.size
    have hN3 := (hN.below_heap _ rfl).2.2
    by_cases hlt : k < xs.length
    · have HD := Lib.hid (drop_at hlt)
      obtain ⟨b, off, rfl, hlo, hhi, c0, c1⟩ := h5' k hlt
      have d0 := (hb.cell (p := ⟨b, _, none⟩) (by show b < _; omega)).trans c0
      have d1 := (hb.cell (p := ⟨b, _, none⟩) (by show b < _; omega)).trans c1
      clear c0 c1
      generalize xs[k] = x at *
      obtain ⟨kd, ln⟩ := x
      simp only at d0 d1
      have hki : (k : Int) < (xs.length : Int) := by omega
      by_cases hg : 1 ≤ kd ∧ kd ≤ 3
      · obtain ⟨hg1, hg2⟩ := hg
        by_cases e3 : kd = 3
        · have HX := Lib.hid (apE_add (r := ls.drop q) (e := ⟨kd, ln⟩) (es := xs.drop (k + 1)) e3)
          have t1 : (kd != 3) = false := by rw [e3]; rfl
          have t2 : (kd != 2) = true := by rw [e3]; rfl
          clear e3
          go_wp2_with (first | (go_at_call 88; refine (l01In_yes _ _ _ _ (by omega) (by omega)).mono ?_; rintro e w' ⟨rfl, rfl⟩) | (at_builtin; refine wp_app1 (F := strF) (P := Try.prog) (y := ln) rfl (.tmp 50) (.tmp 53) 56 rfl Try.underlying56 hi0 hz0 hz1 hz2 rfl (by decide) rfl ((hO.alloc _).alloc _) (wr.heap.size + 1) rfl (heap_alloc2_new _ _ _) rfl (by omega) (by omega) (by simp; omega) ?_; intro v' w' hO' hb'))
          go_roundw
          case rel => exact ⟨k + 1, q, ys ++ [ln], by omega, by go_num, by omega, rfl, (by unfold Hid; rw [HP.out, HD.out, HX.out, apO_snoc]), (by rw [List.length_append]; simp; omega), hb.trans (blw_al2 (hb'.mono (by omega)) (by omega)), hO', (((hN.alloc _).alloc _).below hb' (Nat.le_refl _))⟩
          case measure => simp [intOf]; omega
        · have t1 : (kd != 3) = true := by rw [bne_iff_ne]; exact e3
          by_cases hqa : q < ls.length
          · have HDA := Lib.hid (drop_at hqa)
            obtain ⟨b1, off1, rfl, hlo1, hhi1, c0⟩ := h5 q hqa
            have r0 := (hb.cell (p := ⟨b1, _, none⟩) (by show b1 < _; omega)).trans c0
            have hbl : b1 < wr.heap.size := World.block_lt_of_cell? wr _ r0
            have hbl' : b < wr.heap.size := World.block_lt_of_cell? wr _ d0
            clear c0
            generalize ls[q] = y at *
            have q1 : ((q : Int) == (ls.length : Int)) = false := beq_eq_false_iff_ne.2 (by omega)
            have q2 : (q == ls.length) = false := beq_eq_false_iff_ne.2 (by omega)
            have q3 : decide (q = ls.length) = false := decide_eq_false (by omega)
            have q4 : decide (ls.length ≤ q) = false := decide_eq_false (by omega)
            have q5 : decide ((ls.length : Int) ≤ (q : Int)) = false := decide_eq_false (by omega)
            have q6 : (q : Int) < (ls.length : Int) := by omega
            by_cases hy : y = ln
            · have ht : (y.toList == ln.toList) = true := str_yes hy
              have ht2 : (y.toList != ln.toList) = false := by rw [bne, ht]; rfl
              by_cases e2 : kd = 2
              · have HX := Lib.hid (apE_drop (r := ls.drop (q + 1)) (e := ⟨kd, ln⟩) (es := xs.drop (k + 1)) e2 hy)
                have t2 : (kd != 2) = false := by rw [e2]; rfl
                clear e2 e3 hy
                go_wp2_with (go_at_call 88; refine (l01In_yes _ _ _ _ (by omega) (by omega)).mono ?_; rintro e w' ⟨rfl, rfl⟩)
                go_quiet (fail)
                go_wp2
                go_roundw
                case rel => exact ⟨k + 1, q + 1, ys, by omega, by go_num, by omega, by go_num, (by unfold Hid; rw [HP.out, HD.out, HDA.out, HX.out]), (by omega), blw_drewN (hb.alloc (by omega) _) _, ((hO.alloc _).up).drewN _, (hN.alloc _).drewN _⟩
                case measure => simp [intOf]; omega
              · have HX := Lib.hid (apE_keep (r := ls.drop (q + 1)) (e := ⟨kd, ln⟩) (es := xs.drop (k + 1)) ⟨hg1, hg2⟩ e2 e3 hy)
                have t2 : (kd != 2) = true := by rw [bne_iff_ne]; exact e2
                clear e2 e3 hy
                go_wp2_with (go_at_call 88; refine (l01In_yes _ _ _ _ (by omega) (by omega)).mono ?_; rintro e w' ⟨rfl, rfl⟩)
                go_quiet (fail)
                go_wp2_with (at_builtin; refine wp_app1 (F := strF) (P := Try.prog) (y := ln) rfl (.tmp 50) (.tmp 53) 56 rfl Try.underlying56 hi0 hz0 hz1 hz2 rfl (by decide) rfl (((hO.alloc _).alloc _).drewN _) (wr.heap.size + 1) rfl (heap_alloc2_new _ _ _) rfl (by omega) (by omega) (by simp; omega) ?_; intro v' w' hO' hb')
                go_roundw
                case rel => exact ⟨k + 1, q + 1, ys ++ [ln], by omega, by go_num, by omega, by go_num, (by unfold Hid; rw [HP.out, HD.out, HDA.out, HX.out, apO_snoc]), (by rw [List.length_append]; simp; omega), ((blw_drewN (hb.alloc (by omega) _) _).alloc (by simp; omega) _).trans (hb'.mono (by omega)), hO', ((((hN.alloc _).drewN _).alloc _).below hb' (Nat.le_refl _))⟩
                case measure => simp [intOf]; omega
            · have ht : (y.toList == ln.toList) = false := str_no hy
              have ht2 : (y.toList != ln.toList) = true := by rw [bne, ht]; rfl
              have HX := Lib.hid (apE_miss (r := ls.drop (q + 1)) (e := ⟨kd, ln⟩) (es := xs.drop (k + 1)) e3 hy)
              clear e3 hy
              go_wp2_with (go_at_call 88; refine (l01In_yes _ _ _ _ (by omega) (by omega)).mono ?_; rintro e w' ⟨rfl, rfl⟩)
              go_quiet (fail)
              go_wp2
              go_ret2
              have e := HB.out
              subst e
              rw [HP.out, HD.out, HDA.out, HX.out, apO_none]
              exact ⟨_, rfl, blw_drewN (hb.alloc (by omega) _) _, ((hN.alloc _).drewN _).up⟩
          · have HDA := Lib.hid (show ls.drop q = [] from List.drop_eq_nil_of_le (by omega))
            have q1 : ((q : Int) == (ls.length : Int)) = true := beq_iff_eq.2 (by omega)
            have q2 : (q == ls.length) = true := beq_iff_eq.2 (by omega)
            have q3 : decide (q = ls.length) = true := decide_eq_true (by omega)
            have q4 : decide (ls.length ≤ q) = true := decide_eq_true (by omega)
            have q5 : decide ((ls.length : Int) ≤ (q : Int)) = true := decide_eq_true (by omega)
            have HX := Lib.hid (apE_end (e := ⟨kd, ln⟩) (es := xs.drop (k + 1)) e3)
            clear e3
            go_wp2_with (go_at_call 88; refine (l01In_yes _ _ _ _ (by omega) (by omega)).mono ?_; rintro e w' ⟨rfl, rfl⟩)
            go_quiet (fail)
            go_wp2
            go_ret2
            have e := HB.out
            subst e
            rw [HP.out, HD.out, HDA.out, HX.out, apO_none]
            exact ⟨_, rfl, blw_drewN (hb.alloc (by omega) _) _, ((hN.alloc _).drewN _).up⟩
      · have HX := Lib.hid (apE_bad (r := ls.drop q) (e := ⟨kd, ln⟩) (es := xs.drop (k + 1)) hg)
        have HG := Lib.hid hg
        clear hg
        go_wp2_with (go_at_call 88; refine (l01In_no _ _ _ _ HG.out).mono ?_; rintro e w' ⟨rfl, rfl⟩)
        go_ret2
        have e := HB.out
        subst e
        rw [HP.out, HD.out, HX.out, apO_none]
        exact ⟨_, rfl, hb.alloc (by omega) _, (hN.alloc _).up⟩
    · have HD := Lib.hid (show xs.drop k = [] from List.drop_eq_nil_of_le (by omega))
      by_cases hqa : q < ls.length
      · have HX := Lib.hid (show apE (ls.drop q) [] = none by rw [drop_at hqa]; rfl)
        go_wp2
        go_ret2
        have e := HB.out
        subst e
        rw [HP.out, HD.out, HX.out, apO_none]
        exact ⟨_, rfl, hb, hN.up⟩
      · have HX := Lib.hid (show apE (ls.drop q) [] = some [] by rw [List.drop_eq_nil_of_le (by omega)]; rfl)
        go_wp2
        go_ret2
        have e := HB.out
        subst e
        rw [HP.out, HD.out, HX.out]
        refine ⟨_, rfl, hb, ?_⟩
        show Own _ _ _ _ _ _ (ys ++ [])
        rw [List.append_nil]
        exact hO.wide (by omega) (Nat.le_refl _)
end Go.Proofs.Ythfeochekadhcaa
