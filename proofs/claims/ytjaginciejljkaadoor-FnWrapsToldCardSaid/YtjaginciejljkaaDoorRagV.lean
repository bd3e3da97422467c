/- LeastRag and RagOf of the program and of the reference. -/
import Derived.Test.YtjaginciejljkaaDoorRagU
import Derived.Test.YtjaginciejljkaaDoorGreedy
namespace Go.Proofs.YtjaginciejljkaaDoor
open Go.RowKit

theorem ok_len {ws : List ByteArray} (h : okWords ws = true) : ws.length ≤ 60 := by
  unfold okWords at h
  rw [Bool.and_eq_true] at h
  exact of_decide_eq_true h.2
theorem leastL_no {ws : List ByteArray} {width : Int} (h : okWords ws = false) : leastL ws width = 0 := by unfold leastL; rw [if_neg (by rw [h]; decide)]
theorem leastL_yes {ws : List ByteArray} {width : Int} (h : okWords ws = true) : leastL ws width = leastF ws width 0 := by unfold leastL; rw [if_pos h]
theorem leastL_nil {width : Int} : leastL [] width = 0 := by rw [leastL_yes rfl]; exact least_end 0 (Nat.le_refl _)
set_option maxHeartbeats 1000000 in
set_option maxRecDepth 100000 in
theorem leastRag_impl {ws : List ByteArray} {v : Value} {lo hi : Nat} {w : World} (width : Int) (hr : Rd strF.shape lo hi w v ws) (hh : hi ≤ w.heap.size) (hz : ∀ x ∈ ws, x.size ≤ 1000) (hI : I64 width) :
    Calls Tryd.prog 11 #[v, .int .i64 width] w fun e w' => e = .returned (.int .i64 (leastL ws width)) ∧ Below w.heap.size w w' := by
  have HN := Lib.hid (leastL_no (ws := ws) (width := width))
  have HY := Lib.hid (leastL_yes (ws := ws) (width := width))
  have HK := Lib.hid (ok_len (ws := ws))
  have HW := Lib.hid (wordsOk_impl hr)
  have HT := Lib.hid (fun h => leastFrom_impl width hr hh h hz hI)
  obtain ⟨bo, hbo⟩ : ∃ bo, Hid (okWords ws = bo) := ⟨_, rfl⟩
  rw [hbo.out] at HN HY HK HW
  obtain ⟨a, c, rfl, h2, h3, h4, h5⟩ := hr.strF
  unfold maxLen at h3
  clear hz hI
  go_enter Tryd.func11, Tryd.ntmps11
  go_wp2_with fail
  refine HW.out.mono ?_
  rintro e w' ⟨rfl, rfl⟩
  cases bo with
  | false =>
    have HF := Lib.hid (HN.out rfl)
    go_wp2
    go_ret
    exact ⟨by rw [HF.out]; rfl, Below.refl _ _⟩
  | true =>
    have HF := Lib.hid (HY.out rfl)
    have HT1 := Lib.hid (HT.out (HK.out rfl))
    go_wp2_with fail
    refine HT1.out.mono ?_
    rintro e w2 ⟨rfl, hb2, hO⟩
    have uc := hO.cell (k := 0) (by omega)
    have hp : (0 : Int) < (ws.length : Int) + 1 := by omega
    obtain ⟨lv, hlv⟩ : ∃ lv, Hid ((tabK ws width ws.length).getD 0 0 = lv) := ⟨_, rfl⟩
    rw [hlv.out] at uc
    go_wp2
    go_ret
    exact ⟨by rw [HF.out]; unfold leastF; rw [hlv.out]; rfl, hb2⟩
set_option maxHeartbeats 1000000 in
set_option maxRecDepth 100000 in
theorem leastRag_spec {ws : List ByteArray} {v : Value} {lo hi : Nat} {w : World} (width : Int) (hr : Rd strF.shape lo hi w v ws) (hh : hi ≤ w.heap.size) (hz : ∀ x ∈ ws, x.size ≤ 1000) (hI : I64 width) :
    Calls Tryd.prog 21 #[v, .int .i64 width] w fun e w' => e = .returned (.int .i64 (leastL ws width)) ∧ Below w.heap.size w w' := by
  have HN := Lib.hid (leastL_no (ws := ws) (width := width))
  have HY := Lib.hid (leastL_yes (ws := ws) (width := width))
  have HK := Lib.hid (ok_len (ws := ws))
  have HW := Lib.hid (l17Ok_any hr hh (fun x hx => by have := hz x hx; omega))
  have HT := Lib.hid (fun w4 (h4 : Below w.heap.size w w4) h => table_spec width (hr.below h4 hh) (Nat.le_trans hh h4.size) h hz hI)
  obtain ⟨bo, hbo⟩ : ∃ bo, Hid (okWords ws = bo) := ⟨_, rfl⟩
  rw [hbo.out] at HN HY HK HW
  obtain ⟨a, c, rfl, h2, h3, h4, h5⟩ := hr.strF
  unfold maxLen at h3
  clear hz hI
  go_enter Tryd.func21, Tryd.ntmps21
  go_wp2_with fail
  refine HW.out.mono ?_
  rintro e w1 ⟨rfl, hb1⟩
  cases bo with
  | false =>
    have HF := Lib.hid (HN.out rfl)
    go_wp2
    go_ret
    exact ⟨by rw [HF.out]; rfl, hb1⟩
  | true =>
    have HF := Lib.hid (HY.out rfl)
    have HK1 := Lib.hid (HK.out rfl)
    by_cases h0 : ws.length = 0
    · have hl0 : ((ws.length : Int) == 0) = true := by rw [h0]; rfl
      have HZ : Hid (leastL ws width = 0) := by have e := List.eq_nil_of_length_eq_zero h0; rw [e]; exact leastL_nil
      clear h0
      go_wp2
      go_ret
      exact ⟨by rw [HZ.out]; rfl, hb1⟩
    · have hl0 : ((ws.length : Int) == 0) = false := beq_eq_false_iff_ne.2 (by omega)
      clear h0
      go_wp2_with fail
      refine (HT.out w1 hb1 HK1.out).mono ?_
      rintro e w2 ⟨G, rfl, hG, hb2, hO, hM⟩
      have uc := hO.cell (k := 0) (by omega)
      have hp : (0 : Int) < (ws.length : Int) + 1 := by omega
      obtain ⟨lv, hlv⟩ : ∃ lv, Hid ((tabK ws width ws.length).getD 0 0 = lv) := ⟨_, rfl⟩
      rw [hlv.out] at uc
      go_wp2
      go_ret
      exact ⟨by rw [HF.out]; unfold leastF; rw [hlv.out]; rfl, hb1.trans (hb2.mono hb1.size)⟩
theorem ragL_step {width : Int} {ls : List ByteArray} {k : Nat} (h : k < ls.length) {b : Bool} (hb : decide (k + 1 = ls.length) = b) {z : Int} (e : z + ragL width (ls.drop k) = ragL width ls) : z + ragI (ls[k].size : Int) width b + ragL width (ls.drop (k + 1)) = ragL width ls := by
  rw [List.drop_eq_getElem_cons h, ragL] at e
  have : (ls.drop (k + 1)).isEmpty = b := by
    rw [← hb]
    by_cases c : k + 1 = ls.length
    · rw [decide_eq_true c, List.drop_of_length_le (by omega)]; rfl
    · rw [decide_eq_false c]
      cases hd : ls.drop (k + 1) with
      | nil => have := List.length_drop (i := k + 1) (l := ls); rw [hd] at this; simp at this; omega
      | cons _ _ => rfl
  rw [this] at e
  omega
set_option maxHeartbeats 1000000 in
set_option maxRecDepth 100000 in
theorem ragOf_impl {ls : List ByteArray} {v : Value} {lo hi : Nat} {w : World} (width : Int) (hr : Rd strF.shape lo hi w v ls) (hn : ls.length ≤ 200) (hz : ∀ x ∈ ls, x.size ≤ 90000) (hI : I64 width) :
    Calls Tryd.prog 14 #[v, .int .i64 width] w fun e w' => e = .returned (.int .i64 (ragL width ls)) ∧ w' = w := by
  obtain ⟨a, c, rfl, h2, h3, h4, h5⟩ := hr.strF
  unfold maxLen at h3
  have HZ := Lib.hid hz
  have HI := Lib.hid hI
  clear hz hI
  have hmin : min (ls.length : Int) 200 = (ls.length : Int) := by omega
  have hlc : (ls.length : Int) ≤ (c : Int) := by omega
  have hl0 : (0 : Int) ≤ (ls.length : Int) := by omega
  have HST := Lib.hid (fun k (h : k < ls.length) b (hb : decide (k + 1 = ls.length) = b) z e => ragL_step (width := width) h hb (z := z) e)
  go_enter Tryd.func14, Tryd.ntmps14
  go_wp2
  go_loop [5, 15] (fun s i => ∃ (k : Nat) (z : Int), k ≤ ls.length ∧ i = .int .i64 k ∧ s = .int .i64 z ∧ 0 ≤ z ∧ z ≤ 10000000 * (k : Int) ∧ Hid (z + ragL width (ls.drop k) = ragL width ls)) (fun _ i => ls.length - (intOf i).toNat)
  case atStart => exact ⟨0, 0, Nat.zero_le _, rfl, rfl, by omega, by omega, by show _ = _; rw [List.drop_zero, Int.zero_add]⟩
  case round =>
    obtain ⟨k, z, hk, rfl, rfl, hz0, hz1, HE⟩ := hrel
    by_cases hlt : k < ls.length
    · have hki : (k : Int) < (ls.length : Int) := by omega
      have hkz : (0 : Int) ≤ (k : Int) := by omega
      obtain ⟨b, off, rfl, hlo, hhi, c0⟩ := h5 k hlt
      obtain ⟨bl, hbl⟩ : ∃ bl, ((k : Int) == (ls.length : Int) - 1) = bl := ⟨_, rfl⟩
      have hdl : decide (k + 1 = ls.length) = bl := by
        rw [← hbl]
        by_cases e : k + 1 = ls.length
        · rw [decide_eq_true e, beq_iff_eq.2 (by omega)]
        · rw [decide_eq_false e, beq_eq_false_iff_ne.2 (by omega)]
      have HN := Lib.hid (HST.out k hlt bl hdl z HE.out)
      have hx := HZ.out _ (List.getElem_mem hlt)
      clear hdl
      generalize ls[k] = x at *
      have hr1 := ragI_ge (x.size : Int) width bl
      have hr2 := ragI_le (x.size : Int) width bl
      have HL := Lib.hid (fun w => lineRag_any (x.size : Int) width bl w (by omega) (by omega) HI.out)
      generalize ragI (x.size : Int) width bl = rg at *
      go_wp2_with fail
      refine (HL.out _).mono ?_
      rintro e w' ⟨rfl, rfl⟩
      go_wp2
      go_round
      case rel => exact ⟨k + 1, z + rg, by omega, by go_num, rfl, by omega, by omega, HN.out⟩
      case measure => simp [intOf]; omega
    · have hki : ¬ (k : Int) < (ls.length : Int) := by omega
      have HF : Hid (z = ragL width ls) := by have e := HE.out; rw [List.drop_of_length_le (by omega), ragL] at e; show _ = _; omega
      go_wp2
      go_ret
      exact ⟨by rw [← HF.out]; rfl, rfl⟩
set_option maxHeartbeats 1000000 in
set_option maxRecDepth 100000 in
theorem ragOf_spec {ls : List ByteArray} {v : Value} {lo hi : Nat} {w : World} (width : Int) (hr : Rd strF.shape lo hi w v ls) (hn : ls.length ≤ 200) (hz : ∀ x ∈ ls, x.size ≤ 90000) (hI : I64 width) :
    Calls Tryd.prog 20 #[v, .int .i64 width] w fun e w' => e = .returned (.int .i64 (ragL width ls)) ∧ w' = w := by
  obtain ⟨a, c, rfl, h2, h3, h4, h5⟩ := hr.strF
  unfold maxLen at h3
  have HZ := Lib.hid hz
  have HI := Lib.hid hI
  clear hz hI
  have HST := Lib.hid (fun k (h : k < ls.length) b (hb : decide (k + 1 = ls.length) = b) z e => ragL_step (width := width) h hb (z := z) e)
  go_enter Tryd.func20, Tryd.ntmps20
  go_wp2
  go_loop [5, 6] (fun s i => ∃ (k : Nat) (z : Int), k ≤ ls.length ∧ i = .int .i64 k ∧ s = .int .i64 z ∧ 0 ≤ z ∧ z ≤ 10000000 * (k : Int) ∧ Hid (z + ragL width (ls.drop k) = ragL width ls)) (fun _ i => ls.length - (intOf i).toNat)
  case atStart => exact ⟨0, 0, Nat.zero_le _, rfl, rfl, by omega, by omega, by show _ = _; rw [List.drop_zero, Int.zero_add]⟩
  case round =>
    obtain ⟨k, z, hk, rfl, rfl, hz0, hz1, HE⟩ := hrel
    by_cases hlt : k < ls.length
    · have hki : (k : Int) < (ls.length : Int) := by omega
      have hkz : (0 : Int) ≤ (k : Int) := by omega
      have hk2 : (k : Int) < 200 := by omega
      obtain ⟨b, off, rfl, hlo, hhi, c0⟩ := h5 k hlt
      obtain ⟨bl, hbl⟩ : ∃ bl, ((k : Int) + 1 == (ls.length : Int)) = bl := ⟨_, rfl⟩
      have hdl : decide (k + 1 = ls.length) = bl := by
        rw [← hbl]
        by_cases e : k + 1 = ls.length
        · rw [decide_eq_true e, beq_iff_eq.2 (by omega)]
        · rw [decide_eq_false e, beq_eq_false_iff_ne.2 (by omega)]
      have HN := Lib.hid (HST.out k hlt bl hdl z HE.out)
      have hx := HZ.out _ (List.getElem_mem hlt)
      clear hdl
      generalize ls[k] = x at *
      have hr1 := ragI_ge (x.size : Int) width bl
      have hr2 := ragI_le (x.size : Int) width bl
      have HL := Lib.hid (fun w => l17Line_any (x.size : Int) width bl w (by omega) (by omega) HI.out)
      generalize ragI (x.size : Int) width bl = rg at *
      go_wp2_with fail
      refine (HL.out _).mono ?_
      rintro e w' ⟨rfl, rfl⟩
      go_wp2
      go_round
      case rel => exact ⟨k + 1, z + rg, by omega, by go_num, rfl, by omega, by omega, HN.out⟩
      case measure => simp [intOf]; omega
    · have hki : ¬ (k : Int) < (ls.length : Int) := by omega
      have HF : Hid (z = ragL width ls) := by have e := HE.out; rw [List.drop_of_length_le (by omega), ragL] at e; show _ = _; omega
      go_wp2
      go_ret
      exact ⟨by rw [← HF.out]; rfl, rfl⟩
end Go.Proofs.YtjaginciejljkaaDoor
