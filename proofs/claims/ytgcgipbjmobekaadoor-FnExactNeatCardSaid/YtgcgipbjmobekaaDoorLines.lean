/- LinesOf, WidestOf, Fitting of the program and of the reference. -/
import Derived.Test.YtgcgipbjmobekaaDoorLinesP
import Derived.Test.YtgcgipbjmobekaaDoorWordsOf
namespace Go.Proofs.YtgcgipbjmobekaaDoor
open Go.RowKit

theorem Rd.front {α : Type} {S : Shape α} {lo hi n c : Nat} {w : World} {a : Option Addr} {xs ys : List α} (h : Rd S lo hi w (.slice a n c) (xs ++ ys)) : Rd S lo hi w (.slice a xs.length c) xs := by
  obtain ⟨a', c', e, h2, h3, h4, h5⟩ := h
  injection e with e1 e2 e3
  subst e1; subst e3
  refine ⟨a, c, rfl, by rw [List.length_append] at h2; omega, h3, h4, fun k hk => ?_⟩
  obtain ⟨b, off, cs, k1, k2, k3, k4, k5⟩ := h5 k (by rw [List.length_append]; omega)
  rw [List.getElem_append_left hk] at k4
  exact ⟨b, off, cs, k1, k2, k3, k4, k5⟩
set_option maxHeartbeats 1000000 in
set_option maxRecDepth 100000 in
theorem linesOf_impl (s : ByteArray) (m : Int) (w : World) (hs : s.size ≤ 1073741824) (hm : w.cell? ⟨0, 0, none⟩ = some (.int .i64 m)) :
    Calls Tryd.prog 50 #[.string s] w fun e w' => ∃ u, e = .returned u ∧ Below w.heap.size w w' ∧ Rd strF.shape w.heap.size w'.heap.size w' u (linesB s) := by
  have hle := pieces_le 10 s
  obtain ⟨init, last, h1, h2⟩ := lines_pieces s
  have HL := Lib.hid (pieces_len 10 s)
  have H2 := Lib.hid h2
  clear h2
  go_enter Tryd.func50, Tryd.ntmps50
  go_wp2_with fail
  refine (Tryd.strings_Split s ⟨#[10]⟩ m w (by omega) hm (Nat.le_refl 1)).mono ?_
  rintro e w1 ⟨he, hw⟩
  have hr : Rd strF.shape w.heap.size w1.heap.size w1 (.slice (some ⟨w.heap.size, 0, none⟩) (pieces 10 s).length (pieces 10 s).length) (pieces 10 s) := by
    rw [hw]
    exact (rd_row (pieces 10 s) (by unfold maxLen; omega)).wide (Nat.le_refl _) (by simp)
  have hb1 : Below w.heap.size w w1 := by rw [hw]; exact (Below.refl _ _).alloc (Nat.le_refl _) _
  have hk : (pieces 10 s).length = init.length + 1 := by rw [h1]; simp
  have HK := Lib.hid (show Lib.countB s ⟨#[10]⟩ = init.length by have := HL.out; omega)
  have hle2 : init.length ≤ 1073741824 := by omega
  have hc : w1.cell? ⟨w.heap.size, init.length, none⟩ = some (.string last) := by
    obtain ⟨a, c, e0, _, _, _, h5⟩ := hr.strF
    obtain ⟨b, off, e, _, _, c0⟩ := h5 init.length (by rw [hk]; omega)
    injection e0 with e1
    rw [← e1] at e
    injection e with e
    injection e with e4 e5
    subst e4; subst e5
    rw [Nat.zero_add] at c0
    rw [c0]
    simp [h1]
  rw [h1] at hr
  rw [HK.out] at he
  subst he
  have hr1 := hr.front
  rw [show (init ++ [last]).length = init.length + 1 by simp] at hr hr1
  clear hw hk HL hle
  by_cases hx : last = ⟨#[]⟩
  · have h0 := emp_yes hx
    have HF := Lib.hid (H2.out.trans (if_pos hx))
    clear hx H2 h1 HK
    go_wp2
    go_ret
    exact ⟨_, rfl, hb1, by rw [HF.out]; exact hr1⟩
  · have h0 := emp_no hx
    have HF := Lib.hid (H2.out.trans (if_neg hx))
    clear hx H2 h1 HK
    go_wp2
    go_ret
    exact ⟨_, rfl, hb1, by rw [HF.out]; exact hr⟩
theorem u8_ten {b : UInt8} : ((b.toNat : Int) = 10) ↔ b = 10 := by
  constructor
  · intro h
    have : b.toNat = 10 := by omega
    exact UInt8.toNat_inj.1 (by rw [this]; rfl)
  · rintro rfl; rfl
set_option maxHeartbeats 1000000 in
set_option maxRecDepth 100000 in
theorem linesOf_spec (s : ByteArray) (w : World) (hs : s.size ≤ 1073741824) :
    Calls Tryd.prog 46 #[.string s] w fun e w' => ∃ u, e = .returned u ∧ Below w.heap.size w w' ∧ Own strF 9 w.heap.size w'.heap.size w' u (linesB s) := by
  obtain ⟨i0, hi0, hz0, hz1, hz2⟩ := info_parts Tryd.infoStr1
  obtain ⟨B, HB⟩ : ∃ B, Hid (B = w.heap.size) := ⟨_, rfl⟩
  have hBw : B ≤ w.heap.size := Nat.le_of_eq HB.out
  have hBw' : w.heap.size ≤ B := Nat.le_of_eq HB.out.symm
  go_enter Tryd.func46, Tryd.ntmps46
  go_wp2
  go_loopw [3, 4, 5] (fun out b i wr => ∃ (k j : Nat) (ys : List (List UInt8)), k ≤ s.size ∧ i = .int .i64 k ∧ b = .int .i64 j ∧ j ≤ k ∧ ys.length ≤ k ∧ Below B w wr ∧ Own strF 9 B wr.heap.size wr out (ys.map mkB) ∧
      Hid (ln [] s.data.toList = ys ++ ln ((s.data.toList.drop j).take (k - j)) (s.data.toList.drop k))) (fun _ _ i _ => s.size - (intOf i).toNat)
  case atStart => exact ⟨0, 0, [], Nat.zero_le _, rfl, rfl, Nat.le_refl _, by simp, (Below.refl _ _).alloc hBw _, Own.empty _ _ _ _ hBw, rfl⟩
  case round =>
    obtain ⟨k, j, ys, hk, rfl, rfl, hj, hyl, hb, hO, HW⟩ := hrel
    have hsz := hb.size
    have hml : (ys.map mkB).length = ys.length := by simp
    by_cases hlt : k < s.size
    · have hki : (k : Int) < (s.size : Int) := by omega
      have HD := Lib.hid (drop_byte s k hlt)
      have HT := Lib.hid (take_byte s j k hlt hj)
      have HP := Lib.hid (mk_piece s j k)
      by_cases hc : s[k] = 10
      · have hci : (s[k].toNat : Int) = 10 := u8_ten.2 hc
        have hcb : ((s[k].toNat : Int) == 10) = true := by rw [hci]; rfl
        have HW2 : Hid (ln [] s.data.toList = ys ++ ((s.data.toList.drop j).take (k - j) :: ln [] (s.data.toList.drop (k + 1)))) := by
          have e1 := HW.out; have e2 := HD.out
          rw [hc] at e2
          rw [e2, ln_end] at e1
          exact e1
        have hj0 : (0 : Int) ≤ (j : Int) := by omega
        clear HW HD HT hc hci
        go_wp2_with (at_builtin; refine wp_app1 (F := strF) (P := Tryd.prog) (y := s.extract j k) rfl (.tmp 17) (.tmp 22) 24 rfl Tryd.underlying24 hi0 hz0 hz1 hz2 rfl (by decide) rfl (hO.alloc _) wr.heap.size rfl (heap_alloc_new _ _) rfl (by omega) (by omega) (by simp; omega) ?_; intro v' w' hO' hb')
        go_roundw
        case rel => exact ⟨k + 1, k + 1, ys ++ [(s.data.toList.drop j).take (k - j)], by omega, by go_num, by go_num, by omega, by simp; omega, hb.trans (blw_al1 hb' (by omega)), (by rw [List.map_append, List.map_singleton, HP.out]; exact hO'), by unfold Hid; rw [HW2.out, List.append_assoc, Nat.sub_self]; rfl⟩
        case measure => simp [intOf]; omega
      · have hci : ¬ (s[k].toNat : Int) = 10 := fun h => hc (u8_ten.1 h)
        have hcb : ((s[k].toNat : Int) == 10) = false := beq_eq_false_iff_ne.2 hci
        have HW2 : Hid (ln [] s.data.toList = ys ++ ln ((s.data.toList.drop j).take (k + 1 - j)) (s.data.toList.drop (k + 1))) := by
          have e1 := HW.out; have e2 := HD.out
          rw [e2, ln_other _ _ hc, ← HT.out] at e1
          exact e1
        clear HW HD HT hc hci HP
        go_wp2
        go_roundw
        case rel => exact ⟨k + 1, j, ys, by omega, by go_num, rfl, by omega, by omega, hb, hO.up, HW2⟩
        case measure => simp [intOf]; omega
    · have hki : ¬ (k : Int) < (s.size : Int) := by omega
      have hkk : k = s.size := by omega
      have HW2 : Hid (ln [] s.data.toList = ys ++ flushW ((s.data.toList.drop j).take (s.size - j))) := by
        have e1 := HW.out
        rw [hkk, List.drop_eq_nil_of_le (show s.data.toList.length ≤ s.size by rw [← size_list]; omega)] at e1
        exact e1
      clear HW
      have hj2 : j ≤ s.size := by omega
      by_cases hjl : j < s.size
      · have hji : (j : Int) < (s.size : Int) := by omega
        have HF := Lib.hid (flush_pos (piece_pos s j s.size hjl (Nat.le_refl _)))
        have HP := Lib.hid (mk_piece s j s.size)
        have hj0 : (0 : Int) ≤ (j : Int) := by omega
        clear hkk
        go_wp2_with (at_builtin; refine wp_app1 (F := strF) (P := Tryd.prog) (y := s.extract j s.size) rfl (.tmp 30) (.tmp 34) 24 rfl Tryd.underlying24 hi0 hz0 hz1 hz2 rfl (by decide) rfl (hO.alloc _) wr.heap.size rfl (heap_alloc_new _ _) rfl (by omega) (by omega) (by simp; omega) ?_; intro v' w' hO' hb')
        go_ret
        have e := HB.out
        subst e
        refine ⟨_, rfl, hb.trans (blw_al1 hb' (by omega)), ?_⟩
        unfold linesB
        rw [HW2.out, HF.out, List.map_append, List.map_singleton]
        have e2 : mkb ((s.data.toList.drop j).take (s.size - j)) = s.extract j s.size := HP.out
        rw [e2]
        exact hO'
      · have hji : ¬ (j : Int) < (s.size : Int) := by omega
        have HF := Lib.hid (show flushW ((s.data.toList.drop j).take (s.size - j)) = [] by rw [show s.size - j = 0 by omega]; rfl)
        clear hkk
        go_wp2
        go_ret
        have e := HB.out
        subst e
        refine ⟨_, rfl, hb, ?_⟩
        unfold linesB
        rw [HW2.out, HF.out, List.append_nil]
        exact hO.up
set_option maxHeartbeats 1000000 in
set_option maxRecDepth 100000 in
theorem widestOf_impl (s : ByteArray) (m : Int) (w : World) (hs : s.size ≤ 1073741824) (hm : w.cell? ⟨0, 0, none⟩ = some (.int .i64 m)) :
    Calls Tryd.prog 44 #[.string s] w fun e w' => e = .returned (.int .i64 (widest (linesB s) : Nat)) ∧ Below w.heap.size w w' := by
  have hll := linesB_len s
  have hlw := widest_le (linesB s) s.size (line_le s)
  have hls := line_le s
  go_enter Tryd.func44, Tryd.ntmps44
  go_wp2_with fail
  refine (linesOf_impl s m w hs hm).mono ?_
  rintro e w1 ⟨u, rfl, hb1, hr⟩
  obtain ⟨a, c, rfl, h2, h3, h4, h5⟩ := hr.strF
  unfold maxLen at h3
  generalize hls0 : linesB s = ls at *
  have HQ := Lib.hid hls0
  clear hls0
  go_wp2
  go_loopw [3, 9] (fun n i wr => ∃ k : Nat, k ≤ ls.length ∧ i = .int .i64 k ∧ n = .int .i64 (widest (ls.take k) : Nat) ∧ w1 = wr) (fun _ i _ => ls.length - (intOf i).toNat)
  case atStart => exact ⟨0, Nat.zero_le _, rfl, by simp [widest], rfl⟩
  case round =>
    obtain ⟨k, hk, rfl, rfl, rfl⟩ := hrel
    by_cases hlt : k < ls.length
    · obtain ⟨b, off, rfl, hlo, hhi, c0⟩ := h5 k hlt
      have HS := Lib.hid (widest_succ ls k hlt)
      have hwk := hlw k hk
      have hxk := hls _ (List.getElem_mem hlt)
      have hki : (k : Int) < (ls.length : Int) := by omega
      have hkz : (0 : Int) ≤ (k : Int) := by omega
      clear h5 hlw hls
      generalize ls[k] = x at *
      generalize widest (ls.take k) = q at *
      go_wp2
      go_roundw
      case rel => exact ⟨k + 1, by omega, by go_num, by rw [HS.out]; exact int_eq (by omega), by trivial⟩
      case measure => simp [intOf]; omega
    · have hki : ¬ (k : Int) < (ls.length : Int) := by omega
      have HK := Lib.hid (show ls.take k = ls from List.take_of_length_le (by omega))
      go_wp2
      go_ret
      exact ⟨ret_int (by rw [HQ.out, HK.out]), hb1⟩
set_option maxHeartbeats 1000000 in
set_option maxRecDepth 100000 in
theorem widestOf_spec (s : ByteArray) (w : World) (hs : s.size ≤ 1073741824) :
    Calls Tryd.prog 43 #[.string s] w fun e w' => e = .returned (.int .i64 (widest (linesB s) : Nat)) ∧ Below w.heap.size w w' := by
  have hll := linesB_len s
  have hlw := widest_le (linesB s) s.size (line_le s)
  have hls := line_le s
  go_enter Tryd.func43, Tryd.ntmps43
  go_wp2_with fail
  refine (linesOf_spec s w hs).mono ?_
  rintro e w1 ⟨u, rfl, hb1, hO⟩
  obtain ⟨a, c, rfl, h2, h3, h4, h5⟩ := hO.rd.strF
  unfold maxLen at h3
  clear hO
  generalize hls0 : linesB s = ls at *
  have HQ := Lib.hid hls0
  clear hls0
  go_wp2
  go_loopw [3, 5] (fun n i wr => ∃ k : Nat, k ≤ ls.length ∧ i = .int .i64 k ∧ n = .int .i64 (widest (ls.take k) : Nat) ∧ w1 = wr) (fun _ i _ => ls.length - (intOf i).toNat)
  case atStart => exact ⟨0, Nat.zero_le _, rfl, by simp [widest], rfl⟩
  case round =>
    obtain ⟨k, hk, rfl, rfl, rfl⟩ := hrel
    by_cases hlt : k < ls.length
    · obtain ⟨b, off, rfl, hlo, hhi, c0⟩ := h5 k hlt
      have HS := Lib.hid (widest_succ ls k hlt)
      have hwk := hlw k hk
      have hxk := hls _ (List.getElem_mem hlt)
      have hki : (k : Int) < (ls.length : Int) := by omega
      have hkz : (0 : Int) ≤ (k : Int) := by omega
      clear h5 hlw hls
      generalize ls[k] = x at *
      generalize widest (ls.take k) = q at *
      by_cases hgt : (q : Int) < (x.size : Int)
      · have HM := Lib.hid (show max q x.size = x.size by omega)
        go_wp2
        go_roundw
        case rel => exact ⟨k + 1, by omega, by go_num, by rw [HS.out, HM.out], by trivial⟩
        case measure => simp [intOf]; omega
      · have HM := Lib.hid (show max q x.size = q by omega)
        have hgd : decide ((q : Int) < (x.size : Int)) = false := decide_eq_false hgt
        go_wp2
        go_roundw
        case rel => exact ⟨k + 1, by omega, by go_num, by rw [HS.out, HM.out], by trivial⟩
        case measure => simp [intOf]; omega
    · have hki : ¬ (k : Int) < (ls.length : Int) := by omega
      have HK := Lib.hid (show ls.take k = ls from List.take_of_length_le (by omega))
      go_wp2
      go_ret
      exact ⟨ret_int (by rw [HQ.out, HK.out]), hb1⟩
def fits (s : ByteArray) (width : Int) : Bool := decide ((widest (linesB s) : Int) ≤ width)
set_option maxHeartbeats 1000000 in
theorem fitting_impl (s : ByteArray) (width m : Int) (w : World) (hs : s.size ≤ 1073741824) (hm : w.cell? ⟨0, 0, none⟩ = some (.int .i64 m)) :
    Calls Tryd.prog 20 #[.string s, .int .i64 width] w fun e w' => e = .returned (.bool (fits s width)) ∧ Below w.heap.size w w' := by
  unfold fits
  go_enter Tryd.func20, Tryd.ntmps20
  go_wp2_with fail
  refine (widestOf_impl s m w hs hm).mono ?_
  rintro e w1 ⟨rfl, hb1⟩
  go_wp2
  go_ret
  exact ⟨rfl, hb1⟩
set_option maxHeartbeats 1000000 in
theorem fitting_spec (s : ByteArray) (width : Int) (w : World) (hs : s.size ≤ 1073741824) :
    Calls Tryd.prog 19 #[.string s, .int .i64 width] w fun e w' => e = .returned (.bool (fits s width)) ∧ Below w.heap.size w w' := by
  unfold fits
  go_enter Tryd.func19, Tryd.ntmps19
  go_wp2_with fail
  refine (widestOf_spec s w hs).mono ?_
  rintro e w1 ⟨rfl, hb1⟩
  go_wp2
  go_ret
  exact ⟨rfl, hb1⟩
end Go.Proofs.YtgcgipbjmobekaaDoor
