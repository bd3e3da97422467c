/- Greedy of the program and of the reference make the same lines. -/
import Derived.Test.YtjaginciejljkaaDoorWordsG
namespace Go.Proofs.YtjaginciejljkaaDoor
open Go.RowKit

theorem app3 (a b c : ByteArray) : a ++ b ++ c = a ++ (b ++ c) := by
  apply ByteArray.ext
  simp [ByteArray.data_append]
set_option maxHeartbeats 1000000 in
set_option maxRecDepth 100000 in
theorem greedy_spec {ws : List ByteArray} {v : Value} {lo hi : Nat} {w : World} (width : Int) (hr : Rd strF.shape lo hi w v ws) (hh : hi ≤ w.heap.size) (hsum : szSum ws + ws.length ≤ 4194304) :
    Calls Tryd.prog 19 #[v, .int .i64 width] w fun e w' => ∃ u, e = .returned u ∧ Below w.heap.size w w' ∧ Own strF 9 w.heap.size w'.heap.size w' u (greedyL 0 width ws) := by
  have hr0 := hr
  obtain ⟨a, c, rfl, h2, h3, h4, h5⟩ := hr.strF
  unfold maxLen at h3
  obtain ⟨i0, hi0, hz0, hz1, hz2⟩ := info_parts Tryd.infoStr1
  obtain ⟨B, HB⟩ : ∃ B, Hid (B = w.heap.size) := ⟨_, rfl⟩
  have hBw : B ≤ w.heap.size := Nat.le_of_eq HB.out
  have hBw' : w.heap.size ≤ B := Nat.le_of_eq HB.out.symm
  have hzs : ∀ x ∈ ws, x.size ≤ 1073741824 := fun x hx => by
    obtain ⟨k, hk, rfl⟩ := List.mem_iff_getElem.1 hx
    have h1 : szSum (ws.take (k + 1)) = szSum (ws.take k) + ws[k].size := sumOf_succ _ ws k hk
    have h2 : szSum (ws.take (k + 1)) ≤ szSum ws := sumOf_le _ ws (k + 1)
    omega
  go_enter Tryd.func19, Tryd.ntmps19
  go_wp2_with fail
  have hb0 : Below B w (w.alloc (.cells #[] 9)) := (Below.refl _ _).alloc hBw _
  have hO0 : Own strF 9 B (w.alloc (.cells #[] 9)).heap.size (w.alloc (.cells #[] 9)) (.slice (some ⟨w.heap.size, 0, none⟩) 0 0) [] := Own.empty _ _ _ _ hBw
  refine (l17Ok_any (hr0.below ((Below.refl w.heap.size w).alloc (Nat.le_refl _) _) hh) (by simp; omega) hzs).mono ?_
  rintro e w1 ⟨rfl, hb1⟩
  have hs0 : w.heap.size ≤ (w.alloc (.cells #[] 9)).heap.size := by simp
  have hO1 : Own strF 9 B w1.heap.size w1 (.slice (some ⟨w.heap.size, 0, none⟩) 0 0) [] := (hO0.below hb1 (Nat.le_refl _)).wide (Nat.le_refl _) hb1.size
  have hbb : Below B w w1 := hb0.trans (hb1.mono (by omega))
  clear hb0 hO0 hb1 hr0 hzs
  cases hok : okWords ws with
  | false =>
    have HG := Lib.hid (show greedyL 0 width ws = [] by rw [greedyL, hok]; rfl)
    clear hok
    go_wp2
    go_ret
    rw [HG.out]
    have e := HB.out
    subst e
    exact ⟨_, rfl, hbb, hO1⟩
  | true =>
    have HG := Lib.hid (show greedyL 0 width ws = fillL 0 width ws by rw [greedyL, hok]; rfl)
    clear hok
    go_wp2
    go_loopw [5, 6, 7] (fun out line i wr => ∃ (k : Nat) (outs : List ByteArray) (l : ByteArray), k ≤ ws.length ∧ i = .int .i64 k ∧ line = .string l ∧ Hid (k = 0 ∧ outs = [] ∧ l = ⟨#[]⟩ ∨ 0 < k ∧ fillL 0 width (ws.take k) = outs ++ [l]) ∧ l.size ≤ 4194304 ∧ outs.length ≤ k ∧ Below B w wr ∧ Own strF 9 B wr.heap.size wr out outs) (fun _ _ i _ => ws.length - (intOf i).toNat)
    case atStart => exact ⟨0, [], ⟨#[]⟩, Nat.zero_le _, rfl, rfl, .inl ⟨rfl, rfl, rfl⟩, by show 0 ≤ _; omega, Nat.le_refl _, hbb, hO1⟩
    case round =>
      obtain ⟨k, outs, l, hk, rfl, rfl, HC, hll, hol, hb, hO⟩ := hrel
      have hsz := hb.size
      by_cases hlt : k < ws.length
      · obtain ⟨b, off, rfl, hlo, hhi, c0⟩ := h5 k hlt
        have d0 := (hb.cell (p := ⟨b, _, none⟩) (by show b < _; omega)).trans c0
        obtain ⟨f1, f2, f3⟩ := fillL_sum 0 width ws (k + 1) hlt
        have HS := Lib.hid (fillL_succ 0 width ws k hlt)
        have hxs : ws[k].size ≤ szSum ws := by
          have h1 : szSum (ws.take (k + 1)) = szSum (ws.take k) + ws[k].size := sumOf_succ _ ws k hlt
          have h2 : szSum (ws.take (k + 1)) ≤ szSum ws := sumOf_le _ ws (k + 1)
          omega
        clear c0 h5
        generalize ws[k] = x at *
        have hki : (k : Int) < (ws.length : Int) := by omega
        have hkz : (0 : Int) ≤ (k : Int) := by omega
        obtain ⟨a', c', rfl, g3, g4, g5⟩ := hO.form
        unfold maxLen at g4
        rcases HC.out with ⟨rfl, rfl, rfl⟩ | ⟨hkp, hf⟩
        · have HS2 : Hid (fillL 0 width (ws.take (0 + 1)) = [] ++ [x]) := HS.out
          clear HS HC
          rw [Nat.add_zero] at d0
          go_wp2
          go_roundw
          case rel => exact ⟨1, [], x, by omega, by go_num, rfl, .inr ⟨by omega, HS2.out⟩, by omega, by simp, hb, hO⟩
          case measure => simp [intOf]; omega
        · have hkpi : (0 : Int) < (k : Int) := by omega
          have HS2 : Hid (fillL 0 width (ws.take (k + 1)) = growL 0 width (outs ++ [l]) x) := by rw [← hf]; exact HS.out
          clear HS HC hf
          by_cases hc : (l.size : Int) + 1 + x.size ≤ width
          · have HS3 : Hid (fillL 0 width (ws.take (k + 1)) = outs ++ [l ++ (⟨#[32]⟩ ++ x)]) := HS2.out.trans (growL_snoc_yes (by omega))
            have hsz2 : (l ++ (⟨#[32]⟩ ++ x)).size ≤ 4194304 := by
              have := last_sum outs (l ++ (⟨#[32]⟩ ++ x))
              rw [← HS3.out] at this
              omega
            clear HS2
            go_wp2
            go_roundw
            case rel => exact ⟨k + 1, outs, l ++ (⟨#[32]⟩ ++ x), by omega, by go_num, by rw [app3], .inr ⟨by omega, HS3.out⟩, hsz2, by omega, hb, hO⟩
            case measure => simp [intOf]; omega
          · have HS3 : Hid (fillL 0 width (ws.take (k + 1)) = outs ++ [l] ++ [x]) := HS2.out.trans (growL_snoc_no (by omega))
            clear HS2
            go_wp2_with (at_builtin; refine wp_app1 (F := strF) (P := Tryd.prog) (y := l) rfl (.tmp 43) (.tmp 45) 24 rfl Tryd.underlying24 hi0 hz0 hz1 hz2 rfl (by decide) rfl (hO.alloc _) wr.heap.size rfl (heap_alloc_new _ _) rfl (by omega) (by omega) (by simp; omega) ?_; intro v' w' hO' hb'; have d1 := (hb'.cell (p := ⟨b, off + k, none⟩) (Nat.lt_of_lt_of_le hhi (Nat.le_trans hh hBw'))).trans ((World.cell?_alloc_lt _ _ _ (World.block_lt_of_cell? _ _ d0)).trans d0))
            go_roundw
            case rel => exact ⟨k + 1, outs ++ [l], x, by omega, by go_num, rfl, .inr ⟨by omega, HS3.out⟩, by omega, by simp; omega, hb.trans (blw_al1 hb' (by omega)), hO'⟩
            case measure => simp [intOf]; omega
      · have HK := Lib.hid (show ws.take k = ws from List.take_of_length_le (by omega))
        have hki : ¬ (k : Int) < (ws.length : Int) := by omega
        rcases HC.out with ⟨rfl, rfl, rfl⟩ | ⟨hkp, hf⟩
        · have HF : Hid (fillL 0 width ws = []) := by
            have : ws = [] := List.eq_nil_of_length_eq_zero (by omega)
            unfold Hid; rw [this]; rfl
          have hl0 : ¬ (0 : Int) < (ws.length : Int) := by omega
          clear HC
          go_wp2
          go_ret
          have e := HB.out
          subst e
          rw [HG.out, HF.out]
          exact ⟨_, rfl, hb, hO⟩
        · have HF : Hid (fillL 0 width ws = outs ++ [l]) := by have e := hf; rw [HK.out] at e; exact e
          have hl0 : (0 : Int) < (ws.length : Int) := by omega
          clear HC hf
          obtain ⟨a', c', rfl, g3, g4, g5⟩ := hO.form
          unfold maxLen at g4
          go_wp2_with (at_builtin; refine wp_app1 (F := strF) (P := Tryd.prog) (y := l) rfl (.tmp 54) (.tmp 56) 24 rfl Tryd.underlying24 hi0 hz0 hz1 hz2 rfl (by decide) rfl (hO.alloc _) wr.heap.size rfl (heap_alloc_new _ _) rfl (by omega) (by omega) (by simp; omega) ?_; intro v' w' hO' hb')
          go_ret
          have e := HB.out
          subst e
          rw [HG.out, HF.out]
          exact ⟨_, rfl, hb.trans (blw_al1 hb' (by omega)), hO'⟩
set_option maxHeartbeats 1000000 in
set_option maxRecDepth 100000 in
theorem Greedy_impl {ws : List ByteArray} {v : Value} {lo hi : Nat} {w : World} (width : Int) (hr : Rd strF.shape lo hi w v ws) (hh : hi ≤ w.heap.size) (hsum : szSum ws + ws.length ≤ 4194304) :
    Calls Tryd.prog 8 #[v, .int .i64 width] w fun e w' => ∃ u, e = .returned u ∧ Below w.heap.size w w' ∧ Own strF 9 w.heap.size w'.heap.size w' u (greedyL 0 width ws) := by
  obtain ⟨a, c, rfl, _⟩ := id hr
  go_enter Tryd.func8, Tryd.ntmps8
  go_wp2_with fail
  refine (greedy_impl 0 width hr hh (by omega) (by omega) hsum).mono ?_
  rintro e w1 ⟨u, rfl, hb, hO⟩
  obtain ⟨a', c', rfl, _⟩ := hO.form
  go_wp2
  go_ret
  exact ⟨_, rfl, hb, hO⟩
end Go.Proofs.YtjaginciejljkaaDoor
