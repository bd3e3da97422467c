/- BestWrap of the reference. -/
import Derived.Test.YtjaginciejljkaaDoorRagW
namespace Go.Proofs.YtjaginciejljkaaDoor
open Go.RowKit

set_option maxHeartbeats 4000000 in
set_option maxRecDepth 100000 in
theorem bestWrap_spec {ws : List ByteArray} {v : Value} {lo hi : Nat} {w : World} (width : Int) (hr : Rd strF.shape lo hi w v ws) (hh : hi ≤ w.heap.size) (hz : ∀ x ∈ ws, x.size ≤ 1000) (hI : I64 width) :
    Calls Tryd.prog 22 #[v, .int .i64 width] w fun e w' => ∃ u, e = .returned u ∧ Below w.heap.size w w' ∧ Own strF 9 w.heap.size w'.heap.size w' u (bestL ws width) := by
  obtain ⟨i0, hi0, hz0, hz1, hz2⟩ := info_parts Tryd.infoStr1
  have HN := Lib.hid (bestL_no (ws := ws) (width := width))
  have HY := Lib.hid (bestL_yes (ws := ws) (width := width))
  have HK := Lib.hid (ok_len (ws := ws))
  have HW := Lib.hid (fun w4 (h4 : Below w.heap.size w w4) => l17Ok_any (hr.below h4 hh) (Nat.le_trans hh h4.size) (fun x hx => by have := hz x hx; omega))
  have HT := Lib.hid (fun w4 (h4 : Below w.heap.size w w4) h => table_spec width (hr.below h4 hh) (Nat.le_trans hh h4.size) h hz hI)
  have HZ := Lib.hid hz
  obtain ⟨B, HB⟩ : ∃ B, Hid (B = w.heap.size) := ⟨_, rfl⟩
  have hBw : B ≤ w.heap.size := Nat.le_of_eq HB.out
  have hBw' : w.heap.size ≤ B := Nat.le_of_eq HB.out.symm
  have HE : Hid (Below w.heap.size w (w.alloc (.cells #[] 9)) ∧ Own strF 9 B (w.alloc (.cells #[] 9)).heap.size (w.alloc (.cells #[] 9)) (.slice (some ⟨w.heap.size, 0, none⟩) 0 0) []) := ⟨(Below.refl _ _).alloc (Nat.le_refl _) _, Own.empty _ _ _ _ hBw⟩
  have hsz0 : (w.alloc (.cells #[] 9)).heap.size = w.heap.size + 1 := by simp
  obtain ⟨bo, hbo⟩ : ∃ bo, Hid (okWords ws = bo) := ⟨_, rfl⟩
  rw [hbo.out] at HN HY HK HW
  obtain ⟨a, c, rfl, h2, h3, h4, h5⟩ := hr.strF
  unfold maxLen at h3
  clear hz hI
  go_enter Tryd.func22, Tryd.ntmps22
  go_wp2_with fail
  generalize w.alloc (.cells #[] 9) = w0 at *
  refine (HW.out w0 HE.out.1).mono ?_
  rintro e w1 ⟨rfl, hb1⟩
  have hs1 := hb1.size
  have hb01 := HE.out.1.trans (hb1.mono (by omega))
  have hE1 := Lib.hid ((HE.out.2.below hb1 (Nat.le_refl _)).wide (Nat.le_refl _) hs1)
  cases bo with
  | false =>
    have HF := Lib.hid (HN.out rfl)
    go_wp2
    go_ret
    have e := HB.out
    subst e
    refine ⟨_, rfl, hb01, ?_⟩
    rw [HF.out]
    exact hE1.out
  | true =>
    have HF := Lib.hid (HY.out rfl)
    have hn := HK.out rfl
    have HT1 := Lib.hid (HT.out w1 hb01 hn)
    go_wp2_with fail
    refine HT1.out.mono ?_
    rintro e w2 ⟨G, rfl, hG, hb2, _, hM⟩
    have hs2 := hM.size
    have hs12 := hb2.size
    have hb02 := hb01.trans (hb2.mono (by omega))
    have hE2 := Lib.hid (hE1.out.below hb2 (Nat.le_refl _))
    have HC := Lib.hid (fun w4 (h4 : Below w2.heap.size w2 w4) q (hq : q < ws.length + 1) => (h4.cell (p := ⟨G, q, none⟩) (by show G < _; omega)).trans ((hM.cell hq).trans (show some (Value.int .i64 ((manyK ws width ws.length).getD q 0)) = some (Value.int .i64 (manyF ws width q)) from rfl)))
    clear hM
    go_wp2
    go_loopw [5, 8] (fun out i wr => ∃ (q : Nat) (ls : List ByteArray), q ≤ ws.length ∧ i = .int .i64 q ∧ Below w2.heap.size w2 wr ∧ OutE strF 9 B w2.heap.size wr out ls ∧ ls.length ≤ q ∧ Hid (ls ++ bestI ws width q = bestI ws width 0)) (fun _ i _ => ws.length - (intOf i).toNat)
    case atStart => exact ⟨0, [], Nat.zero_le _, rfl, Below.refl _ _, .inr ⟨rfl, ⟨_, rfl⟩, hE2.out.wide (Nat.le_refl _) hs12⟩, Nat.le_refl _, rfl⟩
    case round =>
      obtain ⟨i, ls, hi, rfl, hb, hO, hll, HL⟩ := hrel
      have hsz := hb.size
      by_cases hlt : i < ws.length
      · have hii : (i : Int) < (ws.length : Int) := by omega
        have hiz : (0 : Int) ≤ (i : Int) := by omega
        have hii1 : (i : Int) < (ws.length : Int) + 1 := by omega
        obtain ⟨b, off, rfl, hlo, hhi, c0⟩ := h5 i hlt
        have HSTR := Lib.hid (fun wr (h : Below w2.heap.size w2 wr) q (hq : q < ws.length) => (show wr.cell? ⟨b, off + q, none⟩ = some (.string ws[q]) from (by
          obtain ⟨b', off', eb, _, hh', c1⟩ := h5 q hq
          injection eb with eb
          injection eb with e1 e2
          subst e1; subst e2
          exact (h.cell (p := ⟨b, _, none⟩) (by show b < _; omega)).trans ((hb02.cell (p := ⟨b, _, none⟩) (by show b < _; omega)).trans c1))))
        have d0 := HSTR.out wr hb i hlt
        obtain ⟨t, et, ht1, ht2, _, _, _⟩ := best_at (width := width) hlt
        have HST := Lib.hid (bestI_step hlt et)
        have uci := HC.out wr hb i (by omega)
        rw [et] at uci
        have HET := Lib.hid et
        have HJ1 : Hid (joinL ws i 1 = ws[i]) := by show _ = _; rw [joinL, getD_at hlt]
        have HJS := Lib.hid (fun k (h : 1 ≤ k) => joinL_succ (ws := ws) i k h)
        have HJZ := Lib.hid (fun k (h : 1 ≤ k) => joinL_size (ws := ws) i k h)
        have HLS := Lib.hid (fun k => lineS_le HZ.out i k)
        clear et c0
        obtain ⟨wz, rfl⟩ : ∃ wz, wz = wr := ⟨_, rfl⟩
        go_wp2
        clear d0
        go_loopw [9, 10] (fun ln k wr => ∃ k' : Nat, 1 ≤ k' ∧ k' ≤ t ∧ k = .int .i64 k' ∧ ln = .string (joinL ws i k') ∧ wz = wr) (fun _ k _ => t - (intOf k).toNat)
        case atStart => exact ⟨1, Nat.le_refl _, ht1, rfl, by rw [HJ1.out], rfl⟩
        case round =>
          obtain ⟨k, hk1, hk, rfl, rfl, rfl⟩ := hrel
          by_cases hkt : k < t
          · have hki : (k : Int) < (t : Int) := by omega
            have hik : (i : Int) + (k : Int) < (ws.length : Int) := by omega
            have hikz : (0 : Int) ≤ (i : Int) + (k : Int) := by omega
            have e1 : ((i : Int) + (k : Int)).toNat = i + k := by omega
            have d1 := HSTR.out wz hb (i + k) (by omega)
            have HJN := Lib.hid ((HJS.out k hk1).trans (by rw [getD_at (by omega : i + k < ws.length)]))
            have hjz := HJZ.out k hk1
            have hls := HLS.out k
            have hx := HZ.out _ (List.getElem_mem (by omega : i + k < ws.length))
            generalize ws[i + k] = x at *
            generalize joinL ws i k = ln at *
            have hlz : ln.size ≤ 61000 := by omega
            have q3 : ¬ 9223372036854775807 < ln.size + 1 := by omega
            have q4 : ¬ 9223372036854775807 < ln.size + 1 + x.size := by omega
            clear hjz hls
            go_wp2
            go_roundw
            case rel => exact ⟨k + 1, by omega, by omega, by go_num, by rw [HJN.out, app3], by trivial⟩
            case measure => simp [intOf]; omega
          · have hki : ¬ (k : Int) < (t : Int) := by omega
            obtain rfl : k = t := by omega
            have HLN : Hid (ls ++ [joinL ws i k] ++ bestI ws width (i + k) = bestI ws width 0) := by have e := HL.out; rw [HST.out] at e; show _ = _; rw [← e, List.append_assoc]; rfl
            generalize joinL ws i k = jl at *
            go_wp2_with (at_builtin; refine wp_app1e (C := w2.heap.size) (F := strF) (P := Tryd.prog) (y := jl) rfl (.tmp 47) (.tmp 49) 24 rfl Tryd.underlying24 hi0 hz0 hz1 hz2 rfl (by decide) rfl (hO.keep ((Below.refl _ _).alloc (Nat.le_refl _) _) hsz) wz.heap.size rfl (heap_alloc_new _ _) rfl (by omega) (by omega) (by simp; omega) ?_; intro v' w' hO' hb'; have uc9 := HC.out w' (hb.trans (blw_al1 hb' hsz)) i (by omega); rw [HET.out] at uc9)
            have HB9 := Lib.hid (hb.trans (blw_al1 hb' hsz))
            go_roundw
            case rel => exact ⟨i + k, ls ++ [jl], ht2, by go_num, HB9.out, hO', by simp; omega, HLN.out⟩
            case measure => simp [intOf]; omega
      · have hii : ¬ (i : Int) < (ws.length : Int) := by omega
        have HEE : Hid (ls = bestI ws width 0) := by have e := HL.out; rwa [bestI_end (by omega), List.append_nil] at e
        go_wp2
        go_ret
        have e := HB.out
        subst e
        refine ⟨_, rfl, ?_, ?_⟩
        · exact hb02.trans (hb.mono (by omega))
        · rw [HF.out, ← HEE.out]
          exact hO.own (by omega) hsz
end Go.Proofs.YtjaginciejljkaaDoor
