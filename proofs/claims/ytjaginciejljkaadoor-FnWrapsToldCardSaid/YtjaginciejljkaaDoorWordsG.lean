/- wordsOk and greedy of the program. -/
import Derived.Test.YtjaginciejljkaaDoorWordsL
import Derived.Test.YtjaginciejljkaaDoorShelf
import Derived.Lib.IndexAny
namespace Go.Proofs.YtjaginciejljkaaDoor
open Go.RowKit

theorem contains_blank (x : ByteArray) (b : Bool) (w : World) (h : x.data.toList.contains 32 = b) :
    Calls Tryd.prog 47 #[.string x, .string ⟨#[32]⟩] w fun e w' => e = .returned (.bool b) ∧ w = w' := by
  refine (Tryd.strings_Contains_one x 32 w).mono ?_
  rintro e w' ⟨rfl, rfl⟩
  rw [← Lib.contains_iff_indexByte, h]
  exact ⟨rfl, rfl⟩
set_option maxHeartbeats 1000000 in
set_option maxRecDepth 100000 in
theorem wordsOk_impl {ws : List ByteArray} {v : Value} {lo hi : Nat} {w : World} (hr : Rd strF.shape lo hi w v ws) :
    Calls Tryd.prog 30 #[v] w fun e w' => e = .returned (.bool (okWords ws)) ∧ w = w' := by
  have hl := hr.len_le
  obtain ⟨a, c, rfl, h2, h3, h4, h5⟩ := hr.strF
  unfold maxLen at h3
  go_enter Tryd.func30, Tryd.ntmps30
  go_wp2
  go_loopw [7] (fun i wr => ∃ k : Nat, k ≤ ws.length ∧ i = .int .i64 k ∧ Hid ((ws.take k).all fineW = true) ∧ w = wr) (fun i _ => ws.length - (intOf i).toNat)
  case atStart => exact ⟨0, Nat.zero_le _, rfl, rfl, rfl⟩
  case round =>
    obtain ⟨k, hk, rfl, HA, rfl⟩ := hrel
    by_cases hlt : k < ws.length
    · obtain ⟨b, off, rfl, hlo, hhi, c0⟩ := h5 k hlt
      have HT := Lib.hid (List.take_succ_eq_append_getElem hlt)
      have HN := Lib.hid (fun h : fineW ws[k] = false => okWords_no (all_no hlt h))
      clear h5 hr
      generalize ws[k] = x at *
      have hki : (k : Int) < (ws.length : Int) := by omega
      have hkz : (0 : Int) ≤ (k : Int) := by omega
      by_cases hx : x = ⟨#[]⟩
      · have h0 := emp_yes hx
        have HF := Lib.hid (HN.out (by rw [hx]; rfl))
        clear hx
        go_wp2_with fail
        go_ret
        exact ⟨ret_bool HF.out.symm, rfl⟩
      · have h0 := emp_no hx
        have he : x.data.toList.isEmpty = false := by
          have := data_ne hx
          cases hs : x.data.toList <;> simp_all
        clear hx
        cases hb : x.data.toList.contains 32 with
        | true =>
          have HF := Lib.hid (HN.out (by rw [fineW, hb]; simp))
          have HB := Lib.hid hb
          clear hb he
          go_wp2_with (go_at_call 47; refine (contains_blank x true _ HB.out).mono ?_; rintro e w' ⟨rfl, rfl⟩)
          go_ret
          exact ⟨ret_bool HF.out.symm, rfl⟩
        | false =>
          have HF := Lib.hid (show fineW x = true by rw [fineW, hb, he]; rfl)
          have HB := Lib.hid hb
          clear hb he
          go_wp2_with (go_at_call 47; refine (contains_blank x false _ HB.out).mono ?_; rintro e w' ⟨rfl, rfl⟩)
          go_roundw
          case rel => exact ⟨k + 1, by omega, by go_num, all_succ HT.out HA.out HF.out, by trivial⟩
          case measure => simp [intOf]; omega
    · have HK := Lib.hid (show ws.take k = ws from List.take_of_length_le (by omega))
      have HE := Lib.hid (show okWords ws = decide (ws.length ≤ 60) from okWords_yes (by have e := HA.out; rwa [HK.out] at e))
      have hki : ¬ (k : Int) < (ws.length : Int) := by omega
      go_wp2
      go_ret
      exact ⟨ret_bool (by rw [HE.out]; exact decide_eq_decide.2 (by omega)), by trivial⟩

theorem Own.some {α : Type} {F : Flat α} {T lo hi : Nat} {w : World} {v : Value} {xs : List α} (h : Own F T lo hi w v xs) (hx : xs ≠ []) : ∃ g c, v = .slice (some ⟨g, 0, none⟩) xs.length c ∧ lo ≤ g ∧ g < hi ∧ xs.length ≤ c ∧ c ≤ maxLen := by
  rcases h.shapes with ⟨_, e⟩ | e
  · exact absurd e hx
  · exact e
theorem set_last {α : Type} (out : List α) (l x : α) : (out ++ [l]).set out.length x = out ++ [x] := by
  simp
set_option maxHeartbeats 1000000 in
set_option maxRecDepth 100000 in
theorem greedy_impl {ws : List ByteArray} {v : Value} {lo hi : Nat} {w : World} (ahead width : Int) (hr : Rd strF.shape lo hi w v ws) (hh : hi ≤ w.heap.size) (ha0 : 0 ≤ ahead) (ha1 : ahead ≤ 1000) (hsum : szSum ws + ws.length ≤ 4194304) :
    Calls Tryd.prog 29 #[v, .int .i64 ahead, .int .i64 width] w fun e w' => ∃ u, e = .returned u ∧ Below w.heap.size w w' ∧ Own strF 9 w.heap.size w'.heap.size w' u (greedyL ahead width ws) := by
  have hr0 := hr
  obtain ⟨a, c, rfl, h2, h3, h4, h5⟩ := hr.strF
  unfold maxLen at h3
  obtain ⟨i0, hi0, hz0, hz1, hz2⟩ := info_parts Tryd.infoStr1
  obtain ⟨B, HB⟩ : ∃ B, Hid (B = w.heap.size) := ⟨_, rfl⟩
  have hBw : B ≤ w.heap.size := Nat.le_of_eq HB.out
  have hBw' : w.heap.size ≤ B := Nat.le_of_eq HB.out.symm
  go_enter Tryd.func29, Tryd.ntmps29
  go_wp2_with fail
  refine (wordsOk_impl hr0).mono ?_
  rintro e w' ⟨rfl, rfl⟩
  clear hr0
  cases hok : okWords ws with
  | false =>
    have HG := Lib.hid (show greedyL ahead width ws = [] by rw [greedyL, hok]; rfl)
    clear hok
    go_wp2
    go_ret
    rw [HG.out]
    exact ⟨_, rfl, Below.refl _ _, Own.nil _ _ _ _ _⟩
  | true =>
    have HG := Lib.hid (show greedyL ahead width ws = fillL ahead width ws by rw [greedyL, hok]; rfl)
    clear hok
    go_wp2
    go_loopw [7, 16] (fun ls i wr => ∃ k : Nat, k ≤ ws.length ∧ i = .int .i64 k ∧ Below B w wr ∧ Own strF 9 B wr.heap.size wr ls (fillL ahead width (ws.take k))) (fun _ i _ => ws.length - (intOf i).toNat)
    case atStart => exact ⟨0, Nat.zero_le _, rfl, Below.refl _ _, Own.nil _ _ _ _ _⟩
    case round =>
      obtain ⟨k, hk, rfl, hb, hO⟩ := hrel
      have hsz := hb.size
      by_cases hlt : k < ws.length
      · obtain ⟨b, off, rfl, hlo, hhi, c0⟩ := h5 k hlt
        have d0 := (hb.cell (p := ⟨b, _, none⟩) (by show b < _; omega)).trans c0
        obtain ⟨f1, f2, _⟩ := fillL_sum ahead width ws k hk
        have HS := Lib.hid (fillL_succ ahead width ws k hlt)
        have hxs : ws[k].size ≤ szSum ws := by
          have h1 : szSum (ws.take (k + 1)) = szSum (ws.take k) + ws[k].size := sumOf_succ _ ws k hlt
          have h2 : szSum (ws.take (k + 1)) ≤ szSum ws := sumOf_le _ ws (k + 1)
          omega
        clear c0 h5
        generalize ws[k] = x at *
        have hki : (k : Int) < (ws.length : Int) := by omega
        have hkz : (0 : Int) ≤ (k : Int) := by omega
        generalize hL : fillL ahead width (ws.take k) = L at *
        clear hL
        by_cases hL : L = []
        · subst hL
          have HS2 : Hid (fillL ahead width (ws.take (k + 1)) = [] ++ [x]) := HS.out
          clear HS
          obtain ⟨a', c', rfl, g3, g4, g5⟩ := hO.form
          unfold maxLen at g4
          go_wp2_with (at_builtin; refine wp_app1 (F := strF) (P := Tryd.prog) (y := x) rfl (.tmp 48) (.tmp 50) 24 rfl Tryd.underlying24 hi0 hz0 hz1 hz2 rfl (by decide) rfl (hO.alloc _) wr.heap.size rfl (heap_alloc_new _ _) rfl (by simp) (by simp) (by simp; omega) ?_; intro v' w' hO' hb')
          go_roundw
          case rel => exact ⟨k + 1, by omega, by go_num, hb.trans (blw_al1 hb' (by omega)), (by rw [HS2.out]; exact hO')⟩
          case measure => simp [intOf]; omega
        · obtain ⟨out, l, rfl⟩ := snoc_of hL
          clear hL
          have hls := last_sum out l
          have hlen : (out ++ [l]).length = out.length + 1 := by simp
          obtain ⟨g, c', rfl, glo, ghi, gn, gc⟩ := hO.some (by simp)
          unfold maxLen at gc
          have hk1 : out.length < (out ++ [l]).length := by rw [hlen]; omega
          have e0 : wr.cell? ⟨g, out.length, none⟩ = some (.string l) := by
            have h := hO.cell (k := out.length) (j := 0) rfl hk1 (by decide)
            rw [show out.length * strF.size + 0 = out.length from Nat.mul_one _] at h
            rw [h]
            simp [strF]
          have f0 : wr.frozen? ⟨g, out.length, none⟩ = false := hO.frozen rfl _
          have HO2 := Lib.hid (fun y => hO.set (k := out.length) (j := 0) (u := .string y) (x := y) rfl hk1 (by decide) rfl)
          rw [hlen] at hO gn f2 ⊢
          have hlast : (0 : Int) ≤ (out.length : Int) := by omega
          by_cases hc : ahead + l.size + 1 + x.size ≤ width
          · have HS2 := Lib.hid (HS.out.trans (growL_snoc_yes hc))
            clear HS hO
            go_wp2
            go_roundw
            case rel =>
              refine ⟨k + 1, by omega, by go_num, hb.setCell (p := ⟨g, out.length, none⟩) glo _, ?_⟩
              rw [HS2.out]
              have h := (HO2.out (l ++ (⟨#[32]⟩ ++ x))).up
              rw [set_last, hlen, show out.length * strF.size + 0 = out.length from Nat.mul_one _] at h
              exact h
            case measure => simp [intOf]; omega
          · have HS2 := Lib.hid (HS.out.trans (growL_snoc_no hc))
            clear HS HO2
            rw [← hlen] at hO
            go_wp2_with (at_builtin; refine wp_app1 (F := strF) (P := Tryd.prog) (y := x) rfl (.tmp 48) (.tmp 50) 24 rfl Tryd.underlying24 hi0 hz0 hz1 hz2 rfl (by decide) rfl (by rw [← hlen]; exact hO.alloc _) wr.heap.size rfl (heap_alloc_new _ _) rfl (by omega) (by omega) (by simp; omega) ?_; intro v' w' hO' hb')
            go_roundw
            case rel => exact ⟨k + 1, by omega, by go_num, hb.trans (blw_al1 hb' (by omega)), (by rw [HS2.out]; exact hO')⟩
            case measure => simp [intOf]; omega
      · have HK := Lib.hid (show ws.take k = ws from List.take_of_length_le (by omega))
        have hki : ¬ (k : Int) < (ws.length : Int) := by omega
        rw [HK.out] at hO
        go_wp2
        go_ret
        have e := HB.out
        subst e
        rw [HG.out]
        exact ⟨_, rfl, hb, hO⟩
end Go.Proofs.YtjaginciejljkaaDoor
