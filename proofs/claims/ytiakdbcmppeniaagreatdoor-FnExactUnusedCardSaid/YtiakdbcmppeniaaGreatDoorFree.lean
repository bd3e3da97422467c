/- FreeIn of both. By mk_names.py. -/
import Derived.Test.YtiakdbcmppeniaaGreatDoorLets
namespace Go.Proofs.YtiakdbcmppeniaaGreatDoor
open Go.RowKit

set_option maxHeartbeats 4000000 in
set_option maxRecDepth 100000 in
theorem free_impl (xs : List Node) (v : Value) (lo hi : Nat) (k : Int) (w : World) (hr : Rd nodeS lo hi w v xs) (hh : hi ≤ w.heap.size) (hs : ∀ x ∈ xs, x.text.size ≤ 4611686018427387904) (hl : xs.length ≤ 1048576) :
    Calls Tryz.prog 21 #[v, .int .i64 k] w fun e w' => ∃ u, e = .returned u ∧ Below w.heap.size w w' ∧ Own strF 9 w.heap.size w'.heap.size w' u (freeL xs k) := by
  obtain ⟨a, c, rfl⟩ := hr.sl
  obtain ⟨_, h2, h3⟩ := hr.lenEq
  obtain ⟨i0, hi0, hz0, hz1, hz2⟩ := info_parts Tryz.infoStrN
  obtain ⟨B, HB⟩ : ∃ B, Hid (B = w.heap.size) := ⟨_, rfl⟩
  have hBw : B ≤ w.heap.size := Nat.le_of_eq HB.out
  have HLE := Lib.hid (namesIn_len xs k)
  have HDF : Hid (freeL xs k = (namesIn xs k).filter fun s => !(letsIn xs k).contains s) := rfl
  have HR := Lib.hid (fun w4 (h4 : Below w.heap.size w w4) => hr.below h4 hh)
  go_enter Tryz.func21, Tryz.ntmps21
  go_wp2_with fail
  refine (letsIn_impl xs _ lo hi k _ hr hh hs hl).mono ?_
  rintro e wa ⟨u, rfl, hb1, hOV⟩
  have hsa := hb1.size
  obtain ⟨va, vc, rfl⟩ := hOV.rd.sl
  go_wp2_with fail
  refine (namesIn_impl xs _ lo hi k _ (HR.out wa hb1) (by omega) hs hl).mono ?_
  rintro e w1 ⟨u, rfl, hb2, hON⟩
  have hs2 := hb2.size
  obtain ⟨na, nc, rfl⟩ := hON.rd.sl
  have hbW1 : Below w.heap.size w w1 := hb1.trans (hb2.mono hsa)
  have hsW1 := hbW1.size
  have hBC : B ≤ w1.heap.size := by omega
  have HLR := Lib.hid (fun w4 (h4 : Below w1.heap.size w1 w4) => hON.rd.below h4 (Nat.le_refl _))
  have HVR := Lib.hid (fun w4 (h4 : Below w1.heap.size w1 w4) => (hOV.rd.below hb2 (Nat.le_refl _)).below h4 hs2)
  have hOE : OutE strF 9 B w1.heap.size w1 (.slice none 0 0) (((namesIn xs k).take 0).filter (fun s => !(letsIn xs k).contains s)) := .inl (Own.nil _ _ _ _ _)
  generalize namesIn xs k = ls at *
  generalize letsIn xs k = vs at *
  have hul : (ls.length : Int) ≤ 9223372036854775807 := by have := HLE.out; omega
  have hlen := HLE.out
  go_wp2
  go_loopw [6, 16] (fun out i wr => ∃ t : Nat, t ≤ ls.length ∧ i = .int .i64 t ∧ Below w1.heap.size w1 wr ∧ OutE strF 9 B w1.heap.size wr out ((ls.take t).filter (fun s => !vs.contains s))) (fun _ i _ => ls.length - (intOf i).toNat)
  case atStart => exact ⟨0, Nat.zero_le _, rfl, Below.refl _ _, hOE⟩
  case round =>
    obtain ⟨t, ht, rfl, hb, hO⟩ := hrel
    have hsz := hb.size
    by_cases htl : t < ls.length
    · obtain ⟨sb, soff, rfl, _, _, sc0⟩ := rd_strAt (HLR.out wr hb) htl
      have hti : (t : Int) < (ls.length : Int) := by omega
      have htz : (0 : Int) ≤ (t : Int) := by omega
      have hge : ls.getD t ByteArray.empty = ls[t] := by rw [List.getD_eq_getElem?_getD, List.getElem?_eq_getElem htl]; rfl
      rw [hge] at sc0
      have HY := Lib.hid (fun h => filter_yes (p := (fun s => !vs.contains s)) htl h)
      have HN := Lib.hid (fun h => filter_no (p := (fun s => !vs.contains s)) htl h)
      have hol0 : ((ls.take t).filter (fun s => !vs.contains s)).length ≤ t := Nat.le_trans (List.length_filter_le _ _) (List.length_take_le _ _)
      clear hge
      obtain ⟨ol, hol⟩ : ∃ ol, Hid ((ls.take t).filter (fun s => !vs.contains s) = ol) := ⟨_, rfl⟩
      rw [hol.out] at HY HN hO hol0
      generalize ls[t] = s at *
      go_wp2_with fail
      refine (contains_any vs _ s _ _ _ (HVR.out wr hb)).mono ?_
      rintro e w' ⟨rfl, hw⟩
      replace hw := hw.symm
      subst hw
      cases g : vs.contains s with
      | true =>
        have HR1 := Lib.hid (HN.out (by rw [g]; rfl))
        go_wp2
        go_roundw
        case rel => exact ⟨t + 1, by omega, by go_num, hb, by rw [HR1.out]; exact hO⟩
        case measure => simp [intOf]; omega
      | false =>
        have HR1 := Lib.hid (HY.out (by rw [g]; rfl))
        go_wp2_with (at_builtin; refine wp_app1e (C := w1.heap.size) (F := strF) (P := Tryz.prog) (y := s) rfl (.tmp 24) (.tmp 26) 24 rfl Tryz.underlying24 hi0 hz0 hz1 hz2 rfl (by decide) rfl (hO.keep ((Below.refl _ _).alloc (Nat.le_refl _) _) hsz) wr.heap.size rfl (heap_alloc_new _ _) rfl (by omega) (by omega) (by simp; omega) ?_; intro v' w' hO' hb')
        go_roundw
        case rel => exact ⟨t + 1, by omega, by go_num, hb.trans (blw_al1 hb' hsz), by rw [HR1.out]; exact hO'⟩
        case measure => simp [intOf]; omega
    · have hti : ¬ (t : Int) < (ls.length : Int) := by omega
      have HF : Hid (freeL xs k = (ls.take t).filter (fun s => !vs.contains s)) := by show _ = _; rw [HDF.out, List.take_of_length_le (by omega)]
      go_wp2
      go_ret
      have e := HB.out
      subst e
      exact ⟨_, rfl, hbW1.trans (hb.mono hsW1), by rw [HF.out]; exact hO.own hBC hsz⟩
set_option maxHeartbeats 4000000 in
set_option maxRecDepth 100000 in
theorem free_spec (xs : List Node) (v : Value) (lo hi : Nat) (k : Int) (w : World) (hr : Rd nodeS lo hi w v xs) (hh : hi ≤ w.heap.size) (hs : ∀ x ∈ xs, x.text.size ≤ 4611686018427387904) (hl : xs.length ≤ 1048576) :
    Calls Tryz.prog 20 #[v, .int .i64 k] w fun e w' => ∃ u, e = .returned u ∧ Below w.heap.size w w' ∧ Own strF 9 w.heap.size w'.heap.size w' u (freeL xs k) := by
  obtain ⟨a, c, rfl⟩ := hr.sl
  obtain ⟨_, h2, h3⟩ := hr.lenEq
  obtain ⟨i0, hi0, hz0, hz1, hz2⟩ := info_parts Tryz.infoStrN
  obtain ⟨B, HB⟩ : ∃ B, Hid (B = w.heap.size) := ⟨_, rfl⟩
  have hBw : B ≤ w.heap.size := Nat.le_of_eq HB.out
  have HLE := Lib.hid (namesIn_len xs k)
  have HDF : Hid (freeL xs k = (namesIn xs k).filter fun s => !(letsIn xs k).contains s) := rfl
  have HR := Lib.hid (fun w4 (h4 : Below w.heap.size w w4) => hr.below h4 hh)
  go_enter Tryz.func20, Tryz.ntmps20
  go_wp2_with fail
  generalize hE : (.cells #[] 9 : Obj) = E
  have hO0 : Own strF 9 B (w.alloc E).heap.size (w.alloc E) (.slice (some ⟨w.heap.size, 0, none⟩) 0 0) [] := by rw [← hE]; exact Own.empty strF 9 B w hBw
  have hbE : Below w.heap.size w (w.alloc E) := (Below.refl _ _).alloc (Nat.le_refl _) E
  have hsE : (w.alloc E).heap.size = w.heap.size + 1 := by simp
  generalize w.alloc E = w0 at *
  clear hE
  refine (namesIn_spec xs _ lo hi k _ (hr.below hbE hh) (by omega) hs hl).mono ?_
  rintro e wa ⟨u, rfl, hb1, hON⟩
  have hsa := hb1.size
  have hbWa : Below w.heap.size w wa := hbE.trans (hb1.mono (by omega))
  obtain ⟨na, nc, rfl⟩ := hON.rd.sl
  go_wp2_with fail
  refine (letsIn_spec xs _ lo hi k _ (HR.out wa hbWa) (by have := hbWa.size; omega) hs hl).mono ?_
  rintro e w1 ⟨u, rfl, hb2, hOV⟩
  have hs2 := hb2.size
  obtain ⟨va, vc, rfl⟩ := hOV.rd.sl
  have hbW1 : Below w.heap.size w w1 := hbWa.trans (hb2.mono hbWa.size)
  have hsW1 := hbW1.size
  have hBC : B ≤ w1.heap.size := by omega
  have HLR := Lib.hid (fun w4 (h4 : Below w1.heap.size w1 w4) => (hON.rd.below hb2 (Nat.le_refl _)).below h4 hs2)
  have HVR := Lib.hid (fun w4 (h4 : Below w1.heap.size w1 w4) => hOV.rd.below h4 (Nat.le_refl _))
  have hOE : OutE strF 9 B w1.heap.size w1 (.slice (some ⟨w.heap.size, 0, none⟩) 0 0) (((namesIn xs k).take 0).filter (fun s => !(letsIn xs k).contains s)) := .inr ⟨rfl, ⟨_, rfl⟩, (((hO0.below hb1 (Nat.le_refl _)).wide (Nat.le_refl _) hsa).below hb2 (Nat.le_refl _)).wide (Nat.le_refl _) hs2⟩
  generalize namesIn xs k = ls at *
  generalize letsIn xs k = vs at *
  have hul : (ls.length : Int) ≤ 9223372036854775807 := by have := HLE.out; omega
  have hlen := HLE.out
  go_wp2
  go_loopw [5, 8] (fun out i wr => ∃ t : Nat, t ≤ ls.length ∧ i = .int .i64 t ∧ Below w1.heap.size w1 wr ∧ OutE strF 9 B w1.heap.size wr out ((ls.take t).filter (fun s => !vs.contains s))) (fun _ i _ => ls.length - (intOf i).toNat)
  case atStart => exact ⟨0, Nat.zero_le _, rfl, Below.refl _ _, hOE⟩
  case round =>
    obtain ⟨t, ht, rfl, hb, hO⟩ := hrel
    have hsz := hb.size
    by_cases htl : t < ls.length
    · obtain ⟨sb, soff, rfl, _, _, sc0⟩ := rd_strAt (HLR.out wr hb) htl
      have hti : (t : Int) < (ls.length : Int) := by omega
      have htz : (0 : Int) ≤ (t : Int) := by omega
      have hge : ls.getD t ByteArray.empty = ls[t] := by rw [List.getD_eq_getElem?_getD, List.getElem?_eq_getElem htl]; rfl
      rw [hge] at sc0
      have HY := Lib.hid (fun h => filter_yes (p := (fun s => !vs.contains s)) htl h)
      have HN := Lib.hid (fun h => filter_no (p := (fun s => !vs.contains s)) htl h)
      have hol0 : ((ls.take t).filter (fun s => !vs.contains s)).length ≤ t := Nat.le_trans (List.length_filter_le _ _) (List.length_take_le _ _)
      clear hge
      obtain ⟨ol, hol⟩ : ∃ ol, Hid ((ls.take t).filter (fun s => !vs.contains s) = ol) := ⟨_, rfl⟩
      rw [hol.out] at HY HN hO hol0
      generalize ls[t] = s at *
      go_wp2_with fail
      refine (l22Has_any vs _ s _ _ _ (HVR.out wr hb)).mono ?_
      rintro e w' ⟨rfl, hw⟩
      subst hw
      cases g : vs.contains s with
      | true =>
        have HR1 := Lib.hid (HN.out (by rw [g]; rfl))
        go_wp2
        go_roundw
        case rel => exact ⟨t + 1, by omega, by go_num, hb, by rw [HR1.out]; exact hO⟩
        case measure => simp [intOf]; omega
      | false =>
        have HR1 := Lib.hid (HY.out (by rw [g]; rfl))
        go_wp2_with (at_builtin; refine wp_app1e (C := w1.heap.size) (F := strF) (P := Tryz.prog) (y := s) rfl (.tmp 29) (.tmp 34) 24 rfl Tryz.underlying24 hi0 hz0 hz1 hz2 rfl (by decide) rfl (hO.keep ((Below.refl _ _).alloc (Nat.le_refl _) _) hsz) wr.heap.size rfl (heap_alloc_new _ _) rfl (by omega) (by omega) (by simp; omega) ?_; intro v' w' hO' hb')
        go_roundw
        case rel => exact ⟨t + 1, by omega, by go_num, hb.trans (blw_al1 hb' hsz), by rw [HR1.out]; exact hO'⟩
        case measure => simp [intOf]; omega
    · have hti : ¬ (t : Int) < (ls.length : Int) := by omega
      have HF : Hid (freeL xs k = (ls.take t).filter (fun s => !vs.contains s)) := by show _ = _; rw [HDF.out, List.take_of_length_le (by omega)]
      go_wp2
      go_ret
      have e := HB.out
      subst e
      exact ⟨_, rfl, hbW1.trans (hb.mono hsW1), by rw [HF.out]; exact hO.own hBC hsz⟩
end Go.Proofs.YtiakdbcmppeniaaGreatDoor
