/- PlacesOf and WentTo of the program and of the reference. -/
import Derived.Test.YtglcndihhlmogaaDoorSignL
import Derived.Test.YtglcndihhlmogaaDoorHInt
namespace Go.Proofs.YtglcndihhlmogaaDoor
open Go.RowKit

theorem Tryd.infoInt1 : (Tryd.prog.info? 3).map (fun i => (i.zero, i.size, i.bytes)) = some (some (.int .i64 0), 1, 8) := by kernel_rfl
theorem places_none {t : ByteArray} (h : signsL t = []) : placesL t = [] := by unfold placesL leftL; rw [h]; rfl
set_option maxHeartbeats 4000000 in
set_option maxRecDepth 100000 in
theorem placesOf_impl (t : ByteArray) (w : World) (hs : t.size ≤ 1073741824) :
    Calls Tryd.prog 8 #[.string t] w fun e w' => ∃ u, e = .returned u ∧ Below w.heap.size w w' ∧ Own intF 3 w.heap.size w'.heap.size w' u (placesL t) := by
  obtain ⟨i0, hi0, hz0, hz1, hz2⟩ := info_parts Tryd.infoInt1
  obtain ⟨B, HB⟩ : ∃ B, Hid (B = w.heap.size) := ⟨_, rfl⟩
  have hBw : B ≤ w.heap.size := Nat.le_of_eq HB.out
  have hBw' : w.heap.size ≤ B := Nat.le_of_eq HB.out.symm
  have hlen := signsL_len t
  have HNO := Lib.hid (places_none (t := t))
  have HP : Hid (placesL t = (leftL (signsL t)).map fun x => x.pos) := rfl
  have hlen2 : (leftL (signsL t)).length ≤ 3000 := Nat.le_trans (leftTo_len _ _) hlen
  go_enter Tryd.func8, Tryd.ntmps8
  go_wp2_with fail
  refine (signsOf_impl t _ hs).mono ?_
  rintro e w1 ⟨⟨u, q, ok, rfl, hO, hno⟩, hb1⟩
  have hs1 := hb1.size
  have hno' := Lib.hid hno
  clear hno
  cases ok with
  | false =>
    have HF := Lib.hid (HNO.out (hno'.out rfl))
    go_wp2
    go_ret
    refine ⟨_, rfl, hb1, ?_⟩
    rw [HF.out]
    exact Own.nil _ _ _ _ _
  | true =>
    have hrd := hO.rd
    obtain ⟨ls, hls⟩ : ∃ ls, Hid (leftL (signsL t) = ls) := ⟨_, rfl⟩
    go_wp2_with fail
    refine (left_impl hrd (Nat.le_refl _) (by omega)).mono ?_
    rintro e w2 ⟨u2, rfl, hb2, hO2⟩
    have hs2 := hb2.size
    rw [hls.out] at hO2 HP hlen2
    obtain ⟨a, c, rfl, h2, h3, h4, h5⟩ := hO2.rd.signF
    unfold maxLen at h3
    have hb12 := hb1.trans (hb2.mono hs1)
    clear hO2 hrd hO
    go_wp2
    go_loopw [6, 20] (fun out i wr => ∃ k : Nat, k ≤ ls.length ∧ i = .int .i64 k ∧ Below w2.heap.size w2 wr ∧ Own intF 3 w2.heap.size wr.heap.size wr out ((ls.take k).map fun x => x.pos)) (fun _ i _ => ls.length - (intOf i).toNat)
    case atStart => exact ⟨0, Nat.zero_le _, rfl, Below.refl _ _, Own.nil _ _ _ _ _⟩
    case round =>
      obtain ⟨k, hk, rfl, hb, hO⟩ := hrel
      have hsz := hb.size
      by_cases hlt : k < ls.length
      · have hki : (k : Int) < (ls.length : Int) := by omega
        have hkz : (0 : Int) ≤ (k : Int) := by omega
        obtain ⟨b, off, rfl, hlo, hhi, c0, c1, c2, c3⟩ := h5 k hlt
        have d0 := (hb.cell (p := ⟨b, _, none⟩) (by show b < _; omega)).trans c0
        have d1 := (hb.cell (p := ⟨b, _, none⟩) (by show b < _; omega)).trans c1
        have d2 := (hb.cell (p := ⟨b, _, none⟩) (by show b < _; omega)).trans c2
        have d3 := (hb.cell (p := ⟨b, _, none⟩) (by show b < _; omega)).trans c3
        have HS := Lib.hid (map_take_succ (fun x : Sign => x.pos) hlt)
        have hml : ((ls.take k).map fun x => x.pos).length ≤ 3000 := by rw [List.length_map]; exact Nat.le_trans (List.length_take_le _ _) (by omega)
        clear c0 c1 c2 c3
        generalize ls[k] = x at *
        obtain ⟨xk, xt, xp, xb⟩ := x
        simp only at d0 d1 d2 d3 HS
        go_wp2_with (at_builtin; refine wp_app1 (F := intF) (P := Tryd.prog) (y := xp) rfl (.tmp 24) (.tmp 27) 24 rfl Tryd.underlying24 hi0 hz0 hz1 hz2 rfl (by decide) rfl ((hO.alloc _).alloc _) (wr.heap.size + 1) rfl (heap_alloc2_new _ _ _) rfl (by omega) (by omega) (by simp; omega) ?_; intro v' w' hO' hb')
        go_roundw
        case rel => exact ⟨k + 1, by omega, by go_num, hb.trans (blw_al2 hb' (by omega)), by rw [HS.out]; exact hO'⟩
        case measure => simp [intOf]; omega
      · have hki : ¬ (k : Int) < (ls.length : Int) := by omega
        have HK := Lib.hid (show ls.take k = ls from List.take_of_length_le (by omega))
        go_wp2
        go_ret
        rw [HK.out, ← HP.out] at hO
        have e := HB.out
        subst e
        exact ⟨_, rfl, hb12.trans (hb.mono (by omega)), hO.wide (by omega) (Nat.le_refl _)⟩
set_option maxHeartbeats 4000000 in
set_option maxRecDepth 100000 in
theorem placesOf_spec (t : ByteArray) (w : World) (hs : t.size ≤ 1073741824) :
    Calls Tryd.prog 7 #[.string t] w fun e w' => ∃ u, e = .returned u ∧ Below w.heap.size w w' ∧ Own intF 3 w.heap.size w'.heap.size w' u (placesL t) := by
  obtain ⟨i0, hi0, hz0, hz1, hz2⟩ := info_parts Tryd.infoInt1
  obtain ⟨B, HB⟩ : ∃ B, Hid (B = w.heap.size) := ⟨_, rfl⟩
  have hBw : B ≤ w.heap.size := Nat.le_of_eq HB.out
  have hBw' : w.heap.size ≤ B := Nat.le_of_eq HB.out.symm
  have hlen := signsL_len t
  have HP : Hid (placesL t = (leftL (signsL t)).map fun x => x.pos) := rfl
  have hlen2 : (leftL (signsL t)).length ≤ 3000 := Nat.le_trans (leftTo_len _ _) hlen
  have HE : Hid (Below B w (w.alloc (.cells #[] 3)) ∧ Own intF 3 B (w.alloc (.cells #[] 3)).heap.size (w.alloc (.cells #[] 3)) (.slice (some ⟨w.heap.size, 0, none⟩) 0 0) []) := ⟨(Below.refl _ _).alloc hBw _, Own.empty _ _ _ _ hBw⟩
  have hsz0 : (w.alloc (.cells #[] 3)).heap.size = w.heap.size + 1 := by simp
  go_enter Tryd.func7, Tryd.ntmps7
  go_wp2_with fail
  generalize w.alloc (.cells #[] 3) = w0 at *
  refine (signsOf_spec t _ hs).mono ?_
  rintro e w1 ⟨⟨u, q, ok, rfl, hO, hno⟩, hb1⟩
  have hs1 := hb1.size
  clear hno
  have hrd := hO.rd
  obtain ⟨ls, hls⟩ : ∃ ls, Hid (leftL (signsL t) = ls) := ⟨_, rfl⟩
  go_wp2_with fail
  refine (left_spec hrd (Nat.le_refl _) (by omega)).mono ?_
  rintro e w2 ⟨u2, rfl, hb2, hO2⟩
  have hs2 := hb2.size
  rw [hls.out] at hO2 HP hlen2
  obtain ⟨a, c, rfl, h2, h3, h4, h5⟩ := hO2.rd.signF
  unfold maxLen at h3
  have hb12 := (HE.out.1.trans (hb1.mono (by omega))).trans (hb2.mono (by omega))
  have hE2 := Lib.hid ((HE.out.2.below hb1 (Nat.le_refl _)).below hb2 (by omega))
  clear hO2 hrd hO
  go_wp2
  go_loopw [3, 7] (fun out i wr => ∃ k : Nat, k ≤ ls.length ∧ i = .int .i64 k ∧ Below w2.heap.size w2 wr ∧ OutE intF 3 B w2.heap.size wr out ((ls.take k).map fun x => x.pos)) (fun _ i _ => ls.length - (intOf i).toNat)
  case atStart => exact ⟨0, Nat.zero_le _, rfl, Below.refl _ _, .inr ⟨rfl, ⟨_, rfl⟩, hE2.out.wide (Nat.le_refl _) (by omega)⟩⟩
  case round =>
    obtain ⟨k, hk, rfl, hb, hO⟩ := hrel
    have hsz := hb.size
    by_cases hlt : k < ls.length
    · have hki : (k : Int) < (ls.length : Int) := by omega
      have hkz : (0 : Int) ≤ (k : Int) := by omega
      obtain ⟨b, off, rfl, hlo, hhi, c0, c1, c2, c3⟩ := h5 k hlt
      have d2 := (hb.cell (p := ⟨b, _, none⟩) (by show b < _; omega)).trans c2
      have HS := Lib.hid (map_take_succ (fun x : Sign => x.pos) hlt)
      have hml : ((ls.take k).map fun x => x.pos).length ≤ 3000 := by rw [List.length_map]; exact Nat.le_trans (List.length_take_le _ _) (by omega)
      clear c0 c1 c2 c3
      generalize ls[k] = x at *
      obtain ⟨xk, xt, xp, xb⟩ := x
      simp only at d2 HS
      have hO2 := hO.keep (w' := wr.alloc (.cells #[.int .i64 xp] 3)) ((Below.refl _ _).alloc (Nat.le_refl _) _) hsz
      obtain ⟨a', c', rfl, g3, g4, g5⟩ := (hO.own (by omega) hsz).form
      unfold maxLen at g4
      go_wp2_with (at_builtin; refine wp_app1e (C := w2.heap.size) (F := intF) (P := Tryd.prog) (y := xp) rfl (.tmp 23) (.tmp 29) 24 rfl Tryd.underlying24 hi0 hz0 hz1 hz2 rfl (by decide) rfl hO2 wr.heap.size rfl (heap_alloc_new _ _) rfl (by omega) (by omega) (by simp; omega) ?_; intro v' w' hO' hb')
      go_roundw
      case rel => exact ⟨k + 1, by omega, by go_num, hb.trans (blw_al1 hb' hsz), by rw [HS.out]; exact hO'⟩
      case measure => simp [intOf]; omega
    · have hki : ¬ (k : Int) < (ls.length : Int) := by omega
      have HK := Lib.hid (show ls.take k = ls from List.take_of_length_le (by omega))
      go_wp2
      go_ret
      rw [HK.out, ← HP.out] at hO
      have hO2 := hO.own (by omega) hsz
      have e := HB.out
      subst e
      exact ⟨_, rfl, hb12.trans (hb.mono (by omega)), hO2⟩
theorem getD_at {xs : List Int} {k : Nat} (h : k < xs.length) : xs.getD k 0 = xs[k] := by rw [List.getD_eq_getElem?_getD, List.getElem?_eq_getElem h]; rfl
set_option maxHeartbeats 4000000 in
set_option maxRecDepth 100000 in
theorem wentTo_impl (s t : ByteArray) (z : Int) (w : World) (hs : s.size ≤ 1073741824) (ht : t.size ≤ 1073741824) :
    Calls Tryd.prog 6 #[.string s, .string t, .int .i64 z] w fun e w' => e = .returned (.int .i64 (wentTo s t z)) ∧ Below w.heap.size w w' := by
  have HW : Hid (wentTo s t z = if (placesL s).length = (placesL t).length then wentL (placesL s) (placesL t) z (placesL s).length else -1) := rfl
  have hlx := placesL_len s
  have hly := placesL_len t
  obtain ⟨xs, hxs⟩ : ∃ xs, Hid (placesL s = xs) := ⟨_, rfl⟩
  obtain ⟨ys, hys⟩ : ∃ ys, Hid (placesL t = ys) := ⟨_, rfl⟩
  rw [hxs.out, hys.out] at HW
  rw [hxs.out] at hlx
  rw [hys.out] at hly
  go_enter Tryd.func6, Tryd.ntmps6
  go_wp2_with fail
  refine (placesOf_impl s _ hs).mono ?_
  rintro e w1 ⟨u1, rfl, hb1, hO1⟩
  have hs1 := hb1.size
  rw [hxs.out] at hO1
  obtain ⟨a1, c1, rfl, _, hc1, _, hr1⟩ := hO1.rd.intF
  go_wp2_with fail
  refine (placesOf_impl t _ ht).mono ?_
  rintro e w2 ⟨u2, rfl, hb2, hO2⟩
  have hs2 := hb2.size
  rw [hys.out] at hO2
  obtain ⟨a2, c2, rfl, _, hc2, _, hr2⟩ := hO2.rd.intF
  unfold maxLen at hc1 hc2
  have hb12 := hb1.trans (hb2.mono hs1)
  clear hO1 hO2
  by_cases hn : xs.length = ys.length
  · have hnn : ((xs.length : Int) != (ys.length : Int)) = false := by rw [hn]; simp
    have HN := Lib.hid hn
    rw [if_pos hn] at HW
    clear hn
    go_wp2
    go_loop [9] (fun i => ∃ (k : Nat) (y : Int), k ≤ xs.length ∧ i = .int .i64 y ∧ y = (k : Int) - 1 ∧ Hid (wentL xs ys z xs.length = wentL xs ys z k)) (fun i => (intOf i + 1).toNat)
    case atStart => exact ⟨xs.length, _, Nat.le_refl _, rfl, rfl, rfl⟩
    case round =>
      obtain ⟨k, y, hk, rfl, hy, HA⟩ := hrel
      cases k with
      | zero =>
        have hyz : ¬ (0 : Int) ≤ y := by omega
        have HF := Lib.hid (HW.out.trans HA.out)
        go_wp2
        go_ret
        exact ⟨ret_int (by rw [HF.out]; rfl), hb12⟩
      | succ j =>
        obtain rfl : y = (j : Int) := by omega
        have hj1 : j < xs.length := by omega
        have hj2 : j < ys.length := by have := HN.out; omega
        have hji : (j : Int) < (xs.length : Int) := by omega
        have hjy : (j : Int) < (ys.length : Int) := by omega
        have hjz : (0 : Int) ≤ (j : Int) := by omega
        obtain ⟨b, off, rfl, hlo, hhi, x0⟩ := hr1 j hj1
        obtain ⟨b', off', rfl, hlo', hhi', y0⟩ := hr2 j hj2
        have d0 := (hb2.cell (p := ⟨b, _, none⟩) (by show b < _; omega)).trans x0
        have HY := Lib.hid (fun h => went_yes (ys := ys) (a := z) hj1 h)
        have HNO := Lib.hid (fun h => went_no (ys := ys) (a := z) hj1 h)
        rw [getD_at hj1, getD_at hj2] at HY
        rw [getD_at hj1] at HNO
        clear x0 hy
        generalize xs[j] = x at *
        generalize ys[j] = y at *
        by_cases hxz : x ≤ z
        · have HF := Lib.hid ((HW.out.trans HA.out).trans (HY.out hxz))
          clear HY HNO
          go_wp2
          go_ret
          exact ⟨ret_int HF.out.symm, hb12⟩
        · have HF := Lib.hid (HNO.out hxz)
          clear HY HNO
          go_wp2
          go_round
          case rel => exact ⟨j, _, by omega, rfl, by omega, HA.out.trans HF.out⟩
          case measure => simp [intOf]
  · have hnn : ((xs.length : Int) != (ys.length : Int)) = true := by simp [bne]; omega
    rw [if_neg hn] at HW
    clear hn
    go_wp2
    go_ret
    exact ⟨ret_int HW.out.symm, hb12⟩
set_option maxHeartbeats 4000000 in
set_option maxRecDepth 100000 in
theorem wentTo_spec (s t : ByteArray) (z : Int) (w : World) (hs : s.size ≤ 1073741824) (ht : t.size ≤ 1073741824) :
    Calls Tryd.prog 5 #[.string s, .string t, .int .i64 z] w fun e w' => e = .returned (.int .i64 (wentTo s t z)) ∧ Below w.heap.size w w' := by
  have HW : Hid (wentTo s t z = if (placesL s).length = (placesL t).length then wentL (placesL s) (placesL t) z (placesL s).length else -1) := rfl
  have hlx := placesL_len s
  have hly := placesL_len t
  obtain ⟨xs, hxs⟩ : ∃ xs, Hid (placesL s = xs) := ⟨_, rfl⟩
  obtain ⟨ys, hys⟩ : ∃ ys, Hid (placesL t = ys) := ⟨_, rfl⟩
  rw [hxs.out, hys.out] at HW
  rw [hxs.out] at hlx
  rw [hys.out] at hly
  go_enter Tryd.func5, Tryd.ntmps5
  go_wp2_with fail
  refine (placesOf_spec s _ hs).mono ?_
  rintro e w1 ⟨u1, rfl, hb1, hO1⟩
  have hs1 := hb1.size
  rw [hxs.out] at hO1
  obtain ⟨a1, c1, rfl, _, hc1, _, hr1⟩ := hO1.rd.intF
  go_wp2_with fail
  refine (placesOf_spec t _ ht).mono ?_
  rintro e w2 ⟨u2, rfl, hb2, hO2⟩
  have hs2 := hb2.size
  rw [hys.out] at hO2
  obtain ⟨a2, c2, rfl, _, hc2, _, hr2⟩ := hO2.rd.intF
  unfold maxLen at hc1 hc2
  have hb12 := hb1.trans (hb2.mono hs1)
  clear hO1 hO2
  by_cases hn : xs.length = ys.length
  · have hnn : ((xs.length : Int) == (ys.length : Int)) = true := by rw [hn]; simp
    have HN := Lib.hid hn
    rw [if_pos hn] at HW
    clear hn
    go_wp2
    go_loop [9, 10] (fun o i => ∃ k : Nat, k ≤ xs.length ∧ i = .int .i64 k ∧ o = .int .i64 (wentL xs ys z k)) (fun _ i => xs.length - (intOf i).toNat)
    case atStart => exact ⟨0, Nat.zero_le _, rfl, rfl⟩
    case round =>
      obtain ⟨j, hk, rfl, rfl⟩ := hrel
      by_cases hj1 : j < xs.length
      · have hj2 : j < ys.length := by have := HN.out; omega
        have hji : (j : Int) < (xs.length : Int) := by omega
        have hjy : (j : Int) < (ys.length : Int) := by omega
        have hjz : (0 : Int) ≤ (j : Int) := by omega
        obtain ⟨b, off, rfl, hlo, hhi, x0⟩ := hr1 j hj1
        obtain ⟨b', off', rfl, hlo', hhi', y0⟩ := hr2 j hj2
        have d0 := (hb2.cell (p := ⟨b, _, none⟩) (by show b < _; omega)).trans x0
        have HY := Lib.hid (fun h => went_yes (ys := ys) (a := z) hj1 h)
        have HNO := Lib.hid (fun h => went_no (ys := ys) (a := z) hj1 h)
        rw [getD_at hj1, getD_at hj2] at HY
        rw [getD_at hj1] at HNO
        clear x0
        generalize xs[j] = x at *
        generalize ys[j] = y at *
        by_cases hxz : x ≤ z
        · have HF := Lib.hid (HY.out hxz)
          clear HY HNO
          go_wp2
          go_round
          case rel => exact ⟨j + 1, by omega, by go_num, by rw [HF.out]⟩
          case measure => simp [intOf]; omega
        · have HF := Lib.hid (HNO.out hxz)
          clear HY HNO
          go_wp2
          go_round
          case rel => exact ⟨j + 1, by omega, by go_num, by rw [HF.out]⟩
          case measure => simp [intOf]; omega
      · have hji : ¬ (j : Int) < (xs.length : Int) := by omega
        obtain rfl : j = xs.length := by omega
        go_wp2
        go_ret
        exact ⟨ret_int HW.out.symm, hb12⟩
  · have hnn : ((xs.length : Int) == (ys.length : Int)) = false := beq_eq_false_iff_ne.2 (by omega)
    rw [if_neg hn] at HW
    clear hn
    go_wp2
    go_loop [9, 10] (fun o i => i = .int .i64 0 ∧ o = .int .i64 (-1)) (fun _ _ => 0)
    case atStart => exact ⟨rfl, rfl⟩
    case round =>
      obtain ⟨rfl, rfl⟩ := hrel
      by_cases hx : 0 < xs.length
      · have hx' : (0 : Int) < (xs.length : Int) := by omega
        clear hx
        go_wp2
        go_ret
        exact ⟨ret_int HW.out.symm, hb12⟩
      · have hx' : ¬ (0 : Int) < (xs.length : Int) := by omega
        clear hx
        go_wp2
        go_ret
        exact ⟨ret_int HW.out.symm, hb12⟩
end Go.Proofs.YtglcndihhlmogaaDoor
