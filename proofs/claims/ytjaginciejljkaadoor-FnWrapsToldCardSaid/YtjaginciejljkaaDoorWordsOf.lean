/- WordsOf of the program. -/
import Derived.Test.YtjaginciejljkaaDoorSplitP
import Derived.Test.YtjaginciejljkaaDoorWordsS
import Derived.Test.YtjaginciejljkaaDoorShelf
namespace Go.Proofs.YtjaginciejljkaaDoor
open Go.RowKit

/-- a row of strings that a call has just laid -/
theorem rd_row {w : World} {T : TypeId} (xs : List ByteArray) (h : xs.length ≤ maxLen) : Rd strF.shape w.heap.size (w.heap.size + 1) (w.alloc (.cells (xs.map Value.string).toArray T)) (.slice (some ⟨w.heap.size, 0, none⟩) xs.length xs.length) xs := by
  refine ⟨some ⟨w.heap.size, 0, none⟩, xs.length, rfl, Nat.le_refl _, h, (fun e => by cases e), fun k hk => ⟨w.heap.size, 0, [.string xs[k]], rfl, Nat.le_refl _, by omega, rfl, fun j u hu => ?_⟩⟩
  obtain rfl : j = 0 := by
    have := (List.getElem?_eq_some_iff.1 hu).1
    simpa using this
  obtain rfl : Value.string xs[k] = u := by simpa using hu
  show World.cell? _ ⟨w.heap.size, 0 + k * 1 + 0, none⟩ = _
  rw [World.cell?_alloc_at _ _ _ _ rfl]
  simp [hk]
theorem keepm {w w' : World} {p : Addr} {u : Value} (h : w.cell? p = some u) (hb : Below w.heap.size w w') : w'.cell? p = some u := (hb.cell (World.block_lt_of_cell? w p h)).trans h
set_option maxHeartbeats 1000000 in
set_option maxRecDepth 100000 in
theorem wordsOf_impl (s : ByteArray) (m : Int) (w : World) (hs : s.size ≤ 1073741824) (hm : w.cell? ⟨0, 0, none⟩ = some (.int .i64 m)) :
    Calls Tryd.prog 10 #[.string s] w fun e w' => ∃ u, e = .returned u ∧ Below w.heap.size w w' ∧ Own strF 9 w.heap.size w'.heap.size w' u (wordsB s) := by
  obtain ⟨i0, hi0, hz0, hz1, hz2⟩ := info_parts Tryd.infoStr1
  obtain ⟨B, HB⟩ : ∃ B, Hid (B = w.heap.size) := ⟨_, rfl⟩
  have hBw : B ≤ w.heap.size := Nat.le_of_eq HB.out
  have hBw' : w.heap.size ≤ B := Nat.le_of_eq HB.out.symm
  have hle := pieces_le 32 s
  have HW := Lib.hid (words_pieces s)
  have HL := Lib.hid (pieces_len 32 s)
  go_enter Tryd.func10, Tryd.ntmps10
  go_wp2_with fail
  refine (Tryd.strings_Split s ⟨#[32]⟩ m w (by omega) hm (Nat.le_refl 1)).mono ?_
  rintro e w1 ⟨he, hw⟩
  have hr : Rd strF.shape w.heap.size (w.heap.size + 1) w1 (.slice (some ⟨w.heap.size, 0, none⟩) (pieces 32 s).length (pieces 32 s).length) (pieces 32 s) := by
    rw [hw]
    exact rd_row (pieces 32 s) (by unfold maxLen; omega)
  have hb1 : Below B w w1 := by rw [hw]; exact (Below.refl _ _).alloc hBw _
  have hs1 : w.heap.size < w1.heap.size := by rw [hw]; simp
  rw [← HL.out] at he
  subst he
  clear hw
  have hlen := hr.len_le
  obtain ⟨a, c, e0, h2, h3, h4, h5⟩ := hr.strF
  obtain ⟨e1, e2, e3⟩ : some ⟨w.heap.size, 0, none⟩ = a ∧ (pieces 32 s).length = (pieces 32 s).length ∧ (pieces 32 s).length = c := by injection e0 with e1 e2 e3; exact ⟨e1, e2, e3⟩
  subst e1
  clear e0 e2 e3
  generalize pieces 32 s = ps at *
  go_wp2
  go_loopw [3, 9] (fun out i wr => ∃ k : Nat, k ≤ ps.length ∧ i = .int .i64 k ∧ Below w1.heap.size w1 wr ∧ OutE strF 9 B w1.heap.size wr out ((ps.take k).filter full)) (fun _ i _ => ps.length - (intOf i).toNat)
  case atStart => exact ⟨0, Nat.zero_le _, rfl, Below.refl _ _, .inl (Own.nil _ _ _ _ _)⟩
  case round =>
    obtain ⟨k, hk, rfl, hb, hO⟩ := hrel
    have hsz := hb.size
    by_cases hlt : k < ps.length
    · obtain ⟨b, off, e, hlo, hhi, c0⟩ := h5 k hlt
      injection e with e
      injection e with e4 e5
      subst e4; subst e5
      have d0 := (hb.cell (p := ⟨w.heap.size, _, none⟩) (by show w.heap.size < _; omega)).trans c0
      have HY := Lib.hid (fun h : full ps[k] = true => filter_yes hlt h)
      have HN := Lib.hid (fun h : full ps[k] = false => filter_no hlt h)
      have hki : (k : Int) < (ps.length : Int) := by omega
      have hkz : (0 : Int) ≤ (k : Int) := by omega
      have hfl : ((ps.take k).filter full).length ≤ ps.length := Nat.le_trans (List.length_filter_le _ _) (List.length_take_le' _ _)
      clear c0 h5
      generalize ps[k] = x at *
      rw [Nat.zero_add] at d0
      by_cases hx : x = ⟨#[]⟩
      · have h0 := emp_yes hx
        have HF := Lib.hid (HN.out (full_no hx))
        clear hx HY HN
        go_wp2
        go_roundw
        case rel => exact ⟨k + 1, by omega, by go_num, hb, by rw [HF.out]; exact hO⟩
        case measure => simp [intOf]; omega
      · have h0 := emp_no hx
        have HF := Lib.hid (HY.out (full_yes hx))
        clear hx HY HN
        have hO2 := hO.keep (w' := wr.alloc (.cells #[.string x] 9)) ((Below.refl _ _).alloc (Nat.le_refl _) _) hsz
        obtain ⟨a', c', rfl, g3, g4, g5⟩ := (hO.own (by omega) hsz).form
        unfold maxLen at g4
        go_wp2_with (at_builtin; refine wp_app1e (C := w1.heap.size) (F := strF) (P := Tryd.prog) (y := x) rfl (.tmp 15) (.tmp 17) 24 rfl Tryd.underlying24 hi0 hz0 hz1 hz2 rfl (by decide) rfl hO2 wr.heap.size rfl (heap_alloc_new _ _) rfl (by omega) (by omega) (by simp; omega) ?_; intro v' w' hO' hb')
        go_roundw
        case rel => exact ⟨k + 1, by omega, by go_num, hb.trans (blw_al1 hb' hsz), by rw [HF.out]; exact hO'⟩
        case measure => simp [intOf]; omega
    · have HK := Lib.hid (show ps.take k = ps from List.take_of_length_le (by omega))
      have hki : ¬ (k : Int) < (ps.length : Int) := by omega
      go_wp2
      go_ret
      have hO2 := hO.own (by omega) hsz
      rw [HK.out] at hO2
      have e := HB.out
      subst e
      rw [HW.out]
      exact ⟨_, rfl, hb1.trans (hb.mono (by omega)), hO2⟩
end Go.Proofs.YtjaginciejljkaaDoor
