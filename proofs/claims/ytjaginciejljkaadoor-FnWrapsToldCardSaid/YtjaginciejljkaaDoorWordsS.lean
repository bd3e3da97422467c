/- WordsOf of the reference; l17Ok; Greedy of the reference. -/
import Derived.Test.YtjaginciejljkaaDoorWordsP
import Derived.Test.YtjaginciejljkaaDoorBytesP
import Derived.Test.YtjaginciejljkaaDoorHString
import Derived.Test.YtjaginciejljkaaDoorApp
import Derived.Lib.Strings
import Derived.Laws.Closers25
import Derived.Deep.RegionHeld3
import Derived.Test.YtjaginciejljkaaDoorHeld
namespace Go.Proofs.YtjaginciejljkaaDoor
open Go.RowKit

theorem Tryd.infoStr1 : (Tryd.prog.info? 9).map (fun i => (i.zero, i.size, i.bytes)) = some (some (.string ByteArray.empty), 1, 16) := by kernel_rfl
/-- what begin says of the word in hand -/
def Beg (s : ByteArray) (k : Nat) (b : Value) (cur : List UInt8) : Prop := (b = .int .i64 (-1) ∧ cur = []) ∨ ∃ j : Nat, b = .int .i64 j ∧ j < k ∧ cur = (s.data.toList.drop j).take (k - j)
set_option maxHeartbeats 1000000 in
set_option maxRecDepth 100000 in
theorem wordsOf_spec (s : ByteArray) (w : World) (hs : s.size ≤ 1073741824) :
    Calls Tryd.prog 13 #[.string s] w fun e w' => ∃ u, e = .returned u ∧ Below w.heap.size w w' ∧ Own strF 9 w.heap.size w'.heap.size w' u (wordsB s) := by
  obtain ⟨i0, hi0, hz0, hz1, hz2⟩ := info_parts Tryd.infoStr1
  obtain ⟨B, HB⟩ : ∃ B, Hid (B = w.heap.size) := ⟨_, rfl⟩
  have hBw : B ≤ w.heap.size := Nat.le_of_eq HB.out
  have hBw' : w.heap.size ≤ B := Nat.le_of_eq HB.out.symm
  go_enter Tryd.func13, Tryd.ntmps13
  go_wp2
  go_loopw [3, 4, 5] (fun out b i wr => ∃ (k : Nat) (ys : List (List UInt8)), k ≤ s.size + 1 ∧ i = .int .i64 k ∧ ys.length ≤ k ∧ Below B w wr ∧ Own strF 9 B wr.heap.size wr out (ys.map mkB) ∧
      ((k ≤ s.size ∧ ∃ cur, Beg s k b cur ∧ Hid (wd [] s.data.toList = ys ++ wd cur (s.data.toList.drop k))) ∨ (k = s.size + 1 ∧ b = .int .i64 (-1) ∧ Hid (wd [] s.data.toList = ys)))) (fun _ _ i _ => s.size + 1 - (intOf i).toNat)
  case atStart => exact ⟨0, [], by omega, rfl, by simp, (Below.refl _ _).alloc hBw _, Own.empty _ _ _ _ hBw, .inl ⟨Nat.zero_le _, [], .inl ⟨rfl, rfl⟩, rfl⟩⟩
  case round =>
    obtain ⟨k, ys, hk, rfl, hyl, hb, hO, hcase⟩ := hrel
    have hsz := hb.size
    have hml : (ys.map mkB).length = ys.length := by simp
    rcases hcase with ⟨hk1, cur, hBeg, HW⟩ | ⟨hk1, rfl, HW⟩
    · have hki : (k : Int) ≤ (s.size : Int) := by omega
      -- the word in hand ends here
      have hEnd : ∀ j : Nat, j < k → cur = (s.data.toList.drop j).take (k - j) → Hid (∀ rest, flushW cur ++ rest = cur :: rest ∧ mkB cur = s.extract j k) := fun j hj e rest => by
        subst e
        exact ⟨by rw [flush_pos (piece_pos s j k hj hk1)]; rfl, mk_piece s j k⟩
      by_cases hlt : k < s.size
      · have hki2 : (k : Int) < (s.size : Int) := by omega
        have HD := Lib.hid (drop_byte s k hlt)
        have HT := Lib.hid (fun j (hj : j ≤ k) => take_byte s j k hlt hj)
        by_cases hc : s[k] = 32
        · have hci : (s[k].toNat : Int) = 32 := u8_int.2 hc
          have hcb : ((s[k].toNat : Int) != 32) = false := by rw [hci]; rfl
          have HW2 : Hid (wd [] s.data.toList = ys ++ (flushW cur ++ wd [] (s.data.toList.drop (k + 1)))) := by
            have e1 := HW.out; have e2 := HD.out
            rw [hc] at e2
            rw [e2, wd_blank] at e1
            exact e1
          clear HW HD HT hc hci
          rcases hBeg with ⟨rfl, rfl⟩ | ⟨j, rfl, hj, hcur⟩
          · go_wp2
            go_roundw
            case rel => exact ⟨k + 1, ys, by omega, by go_num, by omega, hb, hO.up, .inl ⟨by omega, [], .inl ⟨rfl, rfl⟩, by unfold Hid; rw [HW2.out]; rfl⟩⟩
            case measure => simp [intOf]; omega
          · have HE := hEnd j hj hcur
            clear hEnd
            have hj0 : (0 : Int) ≤ (j : Int) := by omega
            go_wp2_with (at_builtin; refine wp_app1 (F := strF) (P := Tryd.prog) (y := s.extract j k) rfl (.tmp 28) (.tmp 33) 24 rfl Tryd.underlying24 hi0 hz0 hz1 hz2 rfl (by decide) rfl (hO.alloc _) wr.heap.size rfl (heap_alloc_new _ _) rfl (by omega) (by omega) (by simp; omega) ?_; intro v' w' hO' hb')
            go_roundw
            case rel => exact ⟨k + 1, ys ++ [cur], by omega, by go_num, by simp; omega, hb.trans (blw_al1 hb' (by omega)), (by rw [List.map_append, List.map_singleton, (HE.out []).2]; exact hO'), .inl ⟨by omega, [], .inl ⟨rfl, rfl⟩, by unfold Hid; rw [HW2.out, (HE.out _).1, List.append_assoc]; rfl⟩⟩
            case measure => simp [intOf]; omega
        · have hci : ¬ (s[k].toNat : Int) = 32 := fun h => hc (u8_int.1 h)
          have hcb : ((s[k].toNat : Int) != 32) = true := bne_iff_ne.2 hci
          have HW2 : Hid (wd [] s.data.toList = ys ++ wd (cur ++ [s[k]]) (s.data.toList.drop (k + 1))) := by
            have e1 := HW.out; have e2 := HD.out
            rw [e2, wd_other _ _ hc] at e1
            exact e1
          clear HW HD hc hci hEnd
          rcases hBeg with ⟨rfl, rfl⟩ | ⟨j, rfl, hj, hcur⟩
          · go_wp2
            go_roundw
            case rel => exact ⟨k + 1, ys, by omega, by go_num, by omega, hb, hO.up, .inl ⟨by omega, [s[k]], .inr ⟨k, rfl, by omega, by rw [HT.out k (Nat.le_refl _), Nat.sub_self]; rfl⟩, HW2⟩⟩
            case measure => simp [intOf]; omega
          · go_wp2
            go_roundw
            case rel => exact ⟨k + 1, ys, by omega, by go_num, by omega, hb, hO.up, .inl ⟨by omega, cur ++ [s[k]], .inr ⟨j, rfl, by omega, by rw [HT.out j (by omega), hcur]⟩, HW2⟩⟩
            case measure => simp [intOf]; omega
      · have hki2 : ¬ (k : Int) < (s.size : Int) := by omega
        have hkd : decide ((k : Int) < (s.size : Int)) = false := decide_eq_false hki2
        have HW2 : Hid (wd [] s.data.toList = ys ++ flushW cur) := by
          have e1 := HW.out
          rw [List.drop_eq_nil_of_le (by rw [← size_list]; omega)] at e1
          exact e1
        clear HW
        rcases hBeg with ⟨rfl, rfl⟩ | ⟨j, rfl, hj, hcur⟩
        · go_wp2
          go_roundw
          case rel => exact ⟨k + 1, ys, by omega, by go_num, by omega, hb, hO.up, .inr ⟨by omega, rfl, by unfold Hid; rw [HW2.out]; exact List.append_nil _⟩⟩
          case measure => simp [intOf]; omega
        · have HE := hEnd j hj hcur
          clear hEnd
          have hj0 : (0 : Int) ≤ (j : Int) := by omega
          go_wp2_with (at_builtin; refine wp_app1 (F := strF) (P := Tryd.prog) (y := s.extract j k) rfl (.tmp 28) (.tmp 33) 24 rfl Tryd.underlying24 hi0 hz0 hz1 hz2 rfl (by decide) rfl (hO.alloc _) wr.heap.size rfl (heap_alloc_new _ _) rfl (by omega) (by omega) (by simp; omega) ?_; intro v' w' hO' hb')
          go_roundw
          case rel => exact ⟨k + 1, ys ++ [cur], by omega, by go_num, by simp; omega, hb.trans (blw_al1 hb' (by omega)), (by rw [List.map_append, List.map_singleton, (HE.out []).2]; exact hO'), .inr ⟨by omega, rfl, by unfold Hid; rw [HW2.out, ← List.append_nil (flushW cur), (HE.out []).1]⟩⟩
          case measure => simp [intOf]; omega
    · have hki : ¬ (k : Int) ≤ (s.size : Int) := by omega
      go_wp2
      go_ret
      have e := HB.out
      subst e
      refine ⟨_, rfl, hb, ?_⟩
      unfold wordsB
      rw [HW.out]
      exact hO
theorem keepB {w w0 w' : World} {p : Addr} {u : Value} (h : w0.cell? p = some u ∧ Below w.heap.size w w0) (hb : Below w0.heap.size w0 w') : w'.cell? p = some u ∧ Below w.heap.size w w' :=
  ⟨(hb.cell (World.block_lt_of_cell? w0 p h.1)).trans h.1, h.2.trans (hb.mono h.2.size)⟩
/-- a text that is one word; a cell that is known stays so -/
theorem wordsOf_one (s x : ByteArray) {w0 w : World} {p : Addr} {u : Value} (hK : w.cell? p = some u ∧ Below w0.heap.size w0 w) (hs : s.size ≤ 1073741824) (hx : wordsB s = [x]) :
    Calls Tryd.prog 13 #[.string s] w fun e w' => ∃ g c, e = .returned (.slice (some ⟨g, 0, none⟩) 1 c) ∧ w'.cell? ⟨g, 0, none⟩ = some (.string x) ∧ w'.cell? p = some u ∧ Below w0.heap.size w0 w' := by
  refine (wordsOf_spec s w hs).mono ?_
  rintro e w' ⟨u, rfl, hb, hO⟩
  rw [hx] at hO
  rcases hO.shapes with ⟨_, h⟩ | ⟨g, c, rfl, _, _, _, _⟩
  · cases h
  · exact ⟨g, c, rfl, hO.cell (k := 0) (j := 0) rfl (by simp) (by decide), keepB hK hb⟩
theorem wordsOf_len (s : ByteArray) (n : Nat) {w0 w : World} {p : Addr} {u : Value} (hK : w.cell? p = some u ∧ Below w0.heap.size w0 w) (hs : s.size ≤ 1073741824) (hx : (wordsB s).length = n) :
    Calls Tryd.prog 13 #[.string s] w fun e w' => ∃ a c, e = .returned (.slice a n c) ∧ w'.cell? p = some u ∧ Below w0.heap.size w0 w' := by
  refine (wordsOf_spec s w hs).mono ?_
  rintro e w' ⟨u, rfl, hb, hO⟩
  obtain ⟨a, c, rfl, _⟩ := hO.rd
  rw [hx]
  exact ⟨a, c, rfl, keepB hK hb⟩
theorem data_ne {s : ByteArray} (h : ¬ s = ⟨#[]⟩) : s.data.toList ≠ [] := by
  intro e
  obtain ⟨⟨l⟩⟩ := s
  exact h (by simp only at e; rw [e])
theorem all_succ {p : ByteArray → Bool} {xs ys : List ByteArray} {x : ByteArray} (e : ys = xs ++ [x]) (h : xs.all p = true) (hx : p x = true) : ys.all p = true := by
  subst e; simp [List.all_append, h, hx]
theorem all_no {p : ByteArray → Bool} {ws : List ByteArray} {k : Nat} (h : k < ws.length) (hx : p ws[k] = false) : ws.all p = false := by
  cases hb : ws.all p with
  | false => rfl
  | true => rw [List.all_eq_true.1 hb _ (List.getElem_mem h)] at hx; cases hx
theorem okWords_no {ws : List ByteArray} (h : ws.all fineW = false) : okWords ws = false := by rw [okWords, h]; rfl
theorem okWords_yes {ws : List ByteArray} (h : ws.all fineW = true) : okWords ws = decide (ws.length ≤ 60) := by rw [okWords, h]; rfl
end Go.Proofs.YtjaginciejljkaaDoor
