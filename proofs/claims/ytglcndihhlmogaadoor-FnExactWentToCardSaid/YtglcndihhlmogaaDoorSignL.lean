/- Signs without a spare comma: isSpare, withoutSpare of the program, l07Left of the reference. -/
import Derived.Test.YtglcndihhlmogaaDoorSigns
namespace Go.Proofs.YtglcndihhlmogaaDoor
open Go.RowKit

theorem spare_last {xs : List Sign} {i : Nat} (h : ¬ i + 1 < xs.length) : spareAt xs i = false := by
  unfold spareAt
  rw [List.getElem?_eq_none (show xs.length ≤ i + 1 by omega)]
  split
  · rename_i h2; cases h2
  · rfl
theorem spare_eq {xs : List Sign} {i : Nat} (h : i + 1 < xs.length) : spareAt xs i = ((xs[i].kind == 4) && (xs[i].text.toList == [44]) && ((xs[i + 1].kind == 4) && ((xs[i + 1].text.toList == [41]) || (xs[i + 1].text.toList == [93])))) := by
  unfold spareAt
  rw [List.getElem?_eq_getElem (show i < xs.length by omega), List.getElem?_eq_getElem h]
set_option maxHeartbeats 4000000 in
set_option maxRecDepth 100000 in
theorem isSpare_any {xs : List Sign} {v : Value} {lo hi : Nat} {w : World} (hr : Rd signF.shape lo hi w v xs) (hl : xs.length ≤ 1048576) {i : Nat} (hi' : i < xs.length) :
    Calls Tryd.prog 18 #[v, .int .i64 i] w fun e w' => e = .returned (.bool (spareAt xs i)) ∧ Below w.heap.size w w' := by
  obtain ⟨a, c, rfl, h2, h3, h4, h5⟩ := hr.signF
  unfold maxLen at h3
  have hiz : (0 : Int) ≤ (i : Int) := by omega
  have hii : (i : Int) < (xs.length : Int) := by omega
  by_cases hl1 : i + 1 < xs.length
  · have h1i : (i : Int) + 1 < (xs.length : Int) := by omega
    have h1z : (0 : Int) ≤ (i : Int) + 1 := by omega
    have h1n : ((i : Int) + 1).toNat = i + 1 := by omega
    have HQ := Lib.hid (spare_eq hl1)
    obtain ⟨b, off, rfl, hlo, hhi, c0, c1, c2, c3⟩ := h5 i hi'
    obtain ⟨b', off', e', _, _, y0, y1, y2, y3⟩ := h5 (i + 1) hl1
    injection e' with e'
    injection e' with e1 e2
    subst e1; subst e2
    clear h5 h4
    generalize xs[i + 1] = y at *
    generalize xs[i] = x at *
    obtain ⟨xk, xt, xp, xb⟩ := x
    obtain ⟨yk, yt, yp, yb⟩ := y
    simp only at c0 c1 c2 c3 y0 y1 y2 y3 HQ
    obtain ⟨d1, e1⟩ : ∃ d, (xk == 4) = d := ⟨_, rfl⟩
    obtain ⟨d2, e2⟩ : ∃ d, (xt.toList == [44]) = d := ⟨_, rfl⟩
    obtain ⟨d3, e3⟩ : ∃ d, (yk == 4) = d := ⟨_, rfl⟩
    obtain ⟨d4, e4⟩ : ∃ d, (yt.toList == [41]) = d := ⟨_, rfl⟩
    obtain ⟨d5, e5⟩ : ∃ d, (yt.toList == [93]) = d := ⟨_, rfl⟩
    have n1 : (xk != 4) = !d1 := by simp [bne, e1]
    have n2 : (xt.toList != [44]) = !d2 := by simp [bne, e2]
    rw [e1, e2, e3, e4, e5] at HQ
    cases d1 with
    | false =>
      have HF := Lib.hid (show spareAt xs i = false from HQ.out)
      clear HQ
      go_enter Tryd.func18, Tryd.ntmps18
      go_wp2
      go_ret
      exact ⟨ret_bool HF.out.symm, Below.refl _ _⟩
    | true =>
      cases d2 with
      | false =>
        have HF := Lib.hid (show spareAt xs i = false from HQ.out)
        clear HQ
        go_enter Tryd.func18, Tryd.ntmps18
        go_wp2
        go_ret
        exact ⟨ret_bool HF.out.symm, Below.refl _ _⟩
      | true =>
        cases d3 <;> cases d4 <;> cases d5 <;>
          (have HF := Lib.hid HQ.out
           clear HQ
           go_enter Tryd.func18, Tryd.ntmps18
           go_wp2
           go_ret
           exact ⟨ret_bool HF.out.symm, (Below.refl _ _).alloc (Nat.le_refl _) _⟩)
  · have h1i : ¬ (i : Int) + 1 < (xs.length : Int) := by omega
    have HQ := Lib.hid (spare_last hl1)
    go_enter Tryd.func18, Tryd.ntmps18
    go_wp2
    go_ret
    exact ⟨ret_bool HQ.out.symm, Below.refl _ _⟩
set_option maxHeartbeats 4000000 in
set_option maxRecDepth 100000 in
theorem left_impl {xs : List Sign} {v : Value} {lo hi : Nat} {w : World} (hr : Rd signF.shape lo hi w v xs) (hh : hi ≤ w.heap.size) (hl : xs.length ≤ 1048576) :
    Calls Tryd.prog 15 #[v] w fun e w' => ∃ u, e = .returned u ∧ Below w.heap.size w w' ∧ Own signF 34 w.heap.size w'.heap.size w' u (leftL xs) := by
  obtain ⟨a, c, rfl, h2, h3, h4, h5⟩ := hr.signF
  unfold maxLen at h3
  obtain ⟨i0, hi0, hz0, hz1, hz2⟩ := info_parts Tryd.infoSign
  obtain ⟨B, HB⟩ : ∃ B, Hid (B = w.heap.size) := ⟨_, rfl⟩
  have hBw : B ≤ w.heap.size := Nat.le_of_eq HB.out
  have hBw' : w.heap.size ≤ B := Nat.le_of_eq HB.out.symm
  go_enter Tryd.func15, Tryd.ntmps15
  go_wp2
  go_loopw [3, 8] (fun out i wr => ∃ k : Nat, k ≤ xs.length ∧ i = .int .i64 k ∧ Below B w wr ∧ Own signF 34 B wr.heap.size wr out (leftTo xs k)) (fun _ i _ => xs.length - (intOf i).toNat)
  case atStart => exact ⟨0, Nat.zero_le _, rfl, Below.refl _ _, Own.nil _ _ _ _ _⟩
  case round =>
    obtain ⟨k, hk, rfl, hb, hO⟩ := hrel
    have hsz := hb.size
    by_cases hlt : k < xs.length
    · have hki : (k : Int) < (xs.length : Int) := by omega
      have hkz : (0 : Int) ≤ (k : Int) := by omega
      have HR := Lib.hid ((hr.below hb (by omega)).wide (Nat.le_refl _) (Nat.le_refl _))
      obtain ⟨b, off, rfl, hlo, hhi, c0, c1, c2, c3⟩ := h5 k hlt
      have d0 := (hb.cell (p := ⟨b, _, none⟩) (by show b < _; omega)).trans c0
      have d1 := (hb.cell (p := ⟨b, _, none⟩) (by show b < _; omega)).trans c1
      have d2 := (hb.cell (p := ⟨b, _, none⟩) (by show b < _; omega)).trans c2
      have d3 := (hb.cell (p := ⟨b, _, none⟩) (by show b < _; omega)).trans c3
      have HY := Lib.hid (leftTo_yes hlt)
      have HN := Lib.hid (leftTo_no hlt)
      have hml := leftTo_len xs k
      have HX : Hid (∀ (u : Obj), Calls Tryd.prog 18 #[.slice (some ⟨b, off, none⟩) xs.length c, .int .i64 k] (wr.alloc u) fun e w' => e = .returned (.bool (spareAt xs k)) ∧ Below (wr.alloc u).heap.size (wr.alloc u) w') := fun u => isSpare_any (HR.out.below ((Below.refl _ _).alloc (Nat.le_refl _) u) (by omega)) hl hlt
      clear c0 c1 c2 c3 h5
      generalize hx : xs[k] = x at *
      clear hx
      obtain ⟨xk, xt, xp, xb⟩ := x
      simp only at d0 d1 d2 d3
      go_wp2_with fail
      refine (HX.out _).mono ?_
      rintro e w2 ⟨rfl, hb2⟩
      have hb3 := blw_al1 (hb2.mono (by simp) : Below wr.heap.size _ w2) (Nat.le_refl _)
      have hs2 := hb2.size
      cases g : spareAt xs k with
      | true =>
        have HF := Lib.hid (HY.out g)
        clear HY HN
        go_wp2
        go_roundw
        case rel => exact ⟨k + 1, by omega, by go_num, hb.trans (hb3.mono (by omega)), by rw [HF.out]; exact (hO.below hb3 (Nat.le_refl _)).up⟩
        case measure => simp [intOf]; omega
      | false =>
        have HF := Lib.hid (HN.out g)
        have hh2 : w2.heap[wr.heap.size]? = some (.cells #[.int .i64 xk, .string xt, .int .i64 xp, .bool xb] 34) := (hb2.block wr.heap.size (by simp)).trans (heap_alloc_new wr _)
        have c0 : w2.cell? ⟨wr.heap.size, 0, none⟩ = some (.int .i64 xk) := cell_heap hh2 rfl
        have c1 : w2.cell? ⟨wr.heap.size, 1, none⟩ = some (.string xt) := cell_heap hh2 rfl
        have c2 : w2.cell? ⟨wr.heap.size, 2, none⟩ = some (.int .i64 xp) := cell_heap hh2 rfl
        have c3 : w2.cell? ⟨wr.heap.size, 3, none⟩ = some (.bool xb) := cell_heap hh2 rfl
        have hO2 := (hO.below hb3 (Nat.le_refl _)).up
        have hs3 := hb3.size
        clear HY HN hh2
        go_wp2_with (at_builtin; refine wp_app1 (F := signF) (P := Tryd.prog) (y := ⟨xk, xt, xp, xb⟩) rfl (.tmp 17) (.tmp 19) 29 rfl Tryd.underlying29 hi0 hz0 hz1 hz2 rfl (by decide) rfl (hO2.alloc _) w2.heap.size rfl (heap_alloc_new _ _) rfl (by omega) (by omega) (by simp; omega) ?_; intro v' w' hO' hb')
        go_roundw
        case rel => exact ⟨k + 1, by omega, by go_num, (hb.trans (hb3.mono (by omega))).trans (blw_al1 hb' (by omega)), (by rw [HF.out]; exact hO')⟩
        case measure => simp [intOf]; omega
    · have hki : ¬ (k : Int) < (xs.length : Int) := by omega
      have HK := Lib.hid (show leftTo xs k = leftL xs by rw [leftL, show k = xs.length by omega])
      go_wp2
      go_ret
      rw [HK.out] at hO
      have e := HB.out
      subst e
      exact ⟨_, rfl, hb, hO⟩
set_option maxHeartbeats 4000000 in
set_option maxRecDepth 100000 in
theorem left_spec {xs : List Sign} {v : Value} {lo hi : Nat} {w : World} (hr : Rd signF.shape lo hi w v xs) (hh : hi ≤ w.heap.size) (hl : xs.length ≤ 1048576) :
    Calls Tryd.prog 13 #[v] w fun e w' => ∃ u, e = .returned u ∧ Below w.heap.size w w' ∧ Own signF 34 w.heap.size w'.heap.size w' u (leftL xs) := by
  obtain ⟨a, c, rfl, h2, h3, h4, h5⟩ := hr.signF
  unfold maxLen at h3
  obtain ⟨i0, hi0, hz0, hz1, hz2⟩ := info_parts Tryd.infoSign
  obtain ⟨B, HB⟩ : ∃ B, Hid (B = w.heap.size) := ⟨_, rfl⟩
  have hBw : B ≤ w.heap.size := Nat.le_of_eq HB.out
  have hBw' : w.heap.size ≤ B := Nat.le_of_eq HB.out.symm
  go_enter Tryd.func13, Tryd.ntmps13
  go_wp2
  go_loopw [3, 4] (fun out i wr => ∃ k : Nat, k ≤ xs.length ∧ i = .int .i64 k ∧ Below B w wr ∧ Own signF 34 B wr.heap.size wr out (leftTo xs k)) (fun _ i _ => xs.length - (intOf i).toNat)
  case atStart => exact ⟨0, Nat.zero_le _, rfl, (Below.refl _ _).alloc hBw _, Own.empty _ _ _ _ hBw⟩
  case round =>
    obtain ⟨k, hk, rfl, hb, hO⟩ := hrel
    have hsz := hb.size
    by_cases hlt : k < xs.length
    · have hki : (k : Int) < (xs.length : Int) := by omega
      have hkz : (0 : Int) ≤ (k : Int) := by omega
      have h1z : (0 : Int) ≤ (k : Int) + 1 := by omega
      have h1n : ((k : Int) + 1).toNat = k + 1 := by omega
      obtain ⟨b, off, rfl, hlo, hhi, c0, c1, c2, c3⟩ := h5 k hlt
      have d0 := (hb.cell (p := ⟨b, _, none⟩) (by show b < _; omega)).trans c0
      have d1 := (hb.cell (p := ⟨b, _, none⟩) (by show b < _; omega)).trans c1
      have d2 := (hb.cell (p := ⟨b, _, none⟩) (by show b < _; omega)).trans c2
      have d3 := (hb.cell (p := ⟨b, _, none⟩) (by show b < _; omega)).trans c3
      have HY := Lib.hid (leftTo_yes hlt)
      have HN := Lib.hid (leftTo_no hlt)
      have hml := leftTo_len xs k
      have HM := Lib.hid (fun h => spare_last (xs := xs) (i := k) h)
      have HQ := Lib.hid (fun h => spare_eq (xs := xs) (i := k) h)
      have H1 : Hid (∀ (h : k + 1 < xs.length), wr.cell? ⟨b, off + (k + 1) * 4, none⟩ = some (.int .i64 xs[k + 1].kind) ∧ wr.cell? ⟨b, off + (k + 1) * 4 + 1, none⟩ = some (.string xs[k + 1].text)) := fun h => by
        obtain ⟨b', off', e', _, _, y0, y1, y2, y3⟩ := h5 (k + 1) h
        injection e' with e'
        injection e' with e1 e2
        subst e1; subst e2
        exact ⟨(hb.cell (p := ⟨b, _, none⟩) (by show b < _; omega)).trans y0, (hb.cell (p := ⟨b, _, none⟩) (by show b < _; omega)).trans y1⟩
      clear c0 c1 c2 c3 h5
      generalize hx : xs[k] = x at *
      have hx' := Lib.hid hx
      clear hx
      obtain ⟨xk, xt, xp, xb⟩ := x
      simp only at d0 d1 d2 d3
      by_cases hl1 : k + 1 < xs.length
      · have h1i : (k : Int) + 1 < (xs.length : Int) := by omega
        obtain ⟨y0, y1⟩ := H1.out hl1
        have HQ' := Lib.hid (HQ.out hl1)
        rw [hx'.out] at HQ'
        clear HQ H1 HM
        generalize xs[k + 1] = y at *
        obtain ⟨yk, yt, yp, yb⟩ := y
        simp only at y0 y1 HQ'
        obtain ⟨d1', e1⟩ : ∃ d, (xk == 4) = d := ⟨_, rfl⟩
        obtain ⟨d2', e2⟩ : ∃ d, (xt.toList == [44]) = d := ⟨_, rfl⟩
        obtain ⟨d3', e3⟩ : ∃ d, (yk == 4) = d := ⟨_, rfl⟩
        obtain ⟨d4', e4⟩ : ∃ d, (yt.toList == [41]) = d := ⟨_, rfl⟩
        obtain ⟨d5', e5⟩ : ∃ d, (yt.toList == [93]) = d := ⟨_, rfl⟩
        rw [e1, e2, e3, e4, e5] at HQ'
        cases d1' <;> cases d2' <;> cases d3' <;> cases d4' <;> cases d5' <;>
          first
            | (have HF := Lib.hid (HY.out (show spareAt xs k = true from HQ'.out))
               clear HY HN HQ'
               go_wp2
               go_roundw
               case rel => exact ⟨k + 1, by omega, by go_num, hb, by rw [HF.out]; exact hO⟩
               case measure => simp [intOf]; omega)
            | (have HF := Lib.hid (HN.out (show spareAt xs k = false from HQ'.out))
               clear HY HN HQ'
               go_wp2_with (at_builtin; refine wp_app1 (F := signF) (P := Tryd.prog) (y := ⟨xk, xt, xp, xb⟩) rfl (.tmp 60) (.tmp 65) 29 rfl Tryd.underlying29 hi0 hz0 hz1 hz2 rfl (by decide) rfl (hO.alloc _) wr.heap.size rfl (heap_alloc_new _ _) rfl (by omega) (by omega) (by simp; omega) ?_; intro v' w' hO' hb')
               go_roundw
               case rel => exact ⟨k + 1, by omega, by go_num, hb.trans (blw_al1 hb' (by omega)), (by rw [HF.out]; exact hO')⟩
               case measure => simp [intOf]; omega)
      · have h1i : ¬ (k : Int) + 1 < (xs.length : Int) := by omega
        have HF := Lib.hid (HN.out (HM.out hl1))
        clear HY HN HQ H1 HM
        obtain ⟨d1', e1⟩ : ∃ d, (xk == 4) = d := ⟨_, rfl⟩
        obtain ⟨d2', e2⟩ : ∃ d, (xt.toList == [44]) = d := ⟨_, rfl⟩
        cases d1' <;> cases d2' <;>
          (go_wp2_with (at_builtin; refine wp_app1 (F := signF) (P := Tryd.prog) (y := ⟨xk, xt, xp, xb⟩) rfl (.tmp 60) (.tmp 65) 29 rfl Tryd.underlying29 hi0 hz0 hz1 hz2 rfl (by decide) rfl (hO.alloc _) wr.heap.size rfl (heap_alloc_new _ _) rfl (by omega) (by omega) (by simp; omega) ?_; intro v' w' hO' hb')
           go_roundw
           case rel => exact ⟨k + 1, by omega, by go_num, hb.trans (blw_al1 hb' (by omega)), (by rw [HF.out]; exact hO')⟩
           case measure => simp [intOf]; omega)
    · have hki : ¬ (k : Int) < (xs.length : Int) := by omega
      have HK := Lib.hid (show leftTo xs k = leftL xs by rw [leftL, show k = xs.length by omega])
      go_wp2
      go_ret
      rw [HK.out] at hO
      have e := HB.out
      subst e
      exact ⟨_, rfl, hb, hO⟩
end Go.Proofs.YtglcndihhlmogaaDoor
