/- TiesMay of the program and of the reference. -/
import Derived.Test.YtllpgomloblfjaaPieceD
import Derived.Test.YtllpgomloblfjaaHInt
import Derived.Deep.RegionWith
namespace Go.Proofs.Ytllpgomloblfjaa
open Go.RowKit

/-- a tie that the values so far do not break -/
def tieMay (vals : List Int) (t : Tie) : Bool := !(inR t.kid 0 ((vals.length : Int) - 1) && inR t.up 0 ((vals.length : Int) - 1) && decide (0 < vals.getD t.kid.toNat 0) && decide (vals.getD t.up.toNat 0 = 0))
def tiesMay (ts : List Tie) (vals : List Int) : Bool := ts.all (tieMay vals)
set_option maxHeartbeats 1000000 in
set_option maxRecDepth 100000 in
theorem tiesMay_impl (x : Piece) (vals : List Int) (ra ca sa ta : Option Addr) (rc cc sc tc : Nat) (v : Value) (lo hi lo' hi' : Nat) (w : World) (hp : PFour x ra rc ca cc sa sc ta tc lo hi w) (hh : hi ≤ w.heap.size) (hv : Rd intF.shape lo' hi' w v vals) (hh' : hi' ≤ w.heap.size) :
    Calls Try.prog 26 #[x.v ra rc ca cc sa sc ta tc, v] w fun e w' => e = .returned (.bool (tiesMay x.ties vals)) ∧ Below w.heap.size w w' := by
  obtain ⟨indent, rules, chunks, spans, ties⟩ := x
  obtain ⟨_, _, _, ht⟩ := hp
  unfold Piece.v
  simp only at ht ⊢
  have htl := ht.len_le
  obtain ⟨a, c, rfl, h2, h3, h4, h5⟩ := hv.intF
  obtain ⟨ta1, tc1, et, k2, k3, k4, k5⟩ := ht.tieF
  obtain ⟨rfl, _, rfl⟩ : ta = ta1 ∧ ties.length = ties.length ∧ tc = tc1 := by injection et with e1 _ e2; exact ⟨e1, rfl, e2⟩
  clear et
  unfold maxLen at h3 k3
  obtain ⟨B, HB⟩ : ∃ B, Hid (B = w.heap.size) := ⟨_, rfl⟩
  have hBw : B ≤ w.heap.size := Nat.le_of_eq HB.out
  have hBw' : w.heap.size ≤ B := Nat.le_of_eq HB.out.symm
  go_enter Try.func26, Try.ntmps26
  go_wp2_with fail
  have hb0 : Below B w (w.alloc (.cells #[.int .i64 indent, .slice ra rules.length rc, .slice ca chunks.length cc, .slice sa spans.length sc, .slice ta ties.length tc] 29)) := (Below.refl _ _).alloc hBw _
  have p4 : (w.alloc (.cells #[.int .i64 indent, .slice ra rules.length rc, .slice ca chunks.length cc, .slice sa spans.length sc, .slice ta ties.length tc] 29)).cell? ⟨w.heap.size, 4, none⟩ = some (.slice ta ties.length tc) := cell_heap (j := 4) (heap_alloc_new w _) rfl
  have hs0 : w.heap.size < (w.alloc (.cells #[.int .i64 indent, .slice ra rules.length rc, .slice ca chunks.length cc, .slice sa spans.length sc, .slice ta ties.length tc] 29)).heap.size := by simp
  generalize w.alloc (.cells #[.int .i64 indent, .slice ra rules.length rc, .slice ca chunks.length cc, .slice sa spans.length sc, .slice ta ties.length tc] 29) = w0 at *
  go_loopw [10] (fun i wr => ∃ k : Nat, k ≤ ties.length ∧ i = .int .i64 k ∧ Hid ((ties.take k).all (tieMay vals) = true) ∧ Below B w wr ∧ w.heap.size < wr.heap.size ∧ wr.cell? ⟨w.heap.size, 4, none⟩ = some (.slice ta ties.length tc)) (fun i _ => ties.length - (intOf i).toNat)
  case atStart => exact ⟨0, Nat.zero_le _, rfl, rfl, hb0, hs0, p4⟩
  case round =>
    obtain ⟨k, hk, rfl, HA, hb, hsw, q4⟩ := hrel
    clear hb0 p4 hs0
    by_cases hlt : k < ties.length
    · obtain ⟨b, off, rfl, hlo, hhi, c0, c1⟩ := k5 k hlt
      have d0 := (hb.cell (p := ⟨b, _, none⟩) (by show b < _; omega)).trans c0
      have d1 := (hb.cell (p := ⟨b, _, none⟩) (by show b < _; omega)).trans c1
      have HT := Lib.hid (List.take_succ_eq_append_getElem hlt)
      have HN := Lib.hid (fun h : tieMay vals ties[k] = false => (allp_no hlt h : ties.all (tieMay vals) = false))
      have hki : (k : Int) < (ties.length : Int) := by omega
      have hkz : (0 : Int) ≤ (k : Int) := by omega
      clear c0 c1 k5
      generalize ties[k] = t at *
      obtain ⟨kid, up⟩ := t
      simp only at d0 d1
      have hbn := hb.alloc (by have := hb.size; omega) (.cells #[.int .i64 kid, .int .i64 up] 101)
      have hsn : w.heap.size < (wr.alloc (.cells #[.int .i64 kid, .int .i64 up] 101)).heap.size := by simp; omega
      have qn := (World.cell?_alloc_lt wr (.cells #[.int .i64 kid, .int .i64 up] 101) ⟨w.heap.size, 4, none⟩ hsw).trans q4
      by_cases r1 : 0 ≤ kid ∧ kid ≤ (vals.length : Int) - 1
      · by_cases r2 : 0 ≤ up ∧ up ≤ (vals.length : Int) - 1
        · obtain ⟨kn, rfl⟩ := Int.eq_ofNat_of_zero_le r1.1
          obtain ⟨un, rfl⟩ := Int.eq_ofNat_of_zero_le r2.1
          have hkn : kn < vals.length := by omega
          have hun : un < vals.length := by omega
          obtain ⟨b1, o1, e1, l1, l2, m0⟩ := h5 kn hkn
          obtain ⟨b2, o2, e2, l3, l4, m1⟩ := h5 un hun
          subst e1
          injection e2 with e2
          injection e2 with e2 e3
          subst e2; subst e3
          have n0 := (hbn.cell (p := ⟨b1, _, none⟩) (by show b1 < _; omega)).trans m0
          have n1 := (hbn.cell (p := ⟨b1, _, none⟩) (by show b1 < _; omega)).trans m1
          have HM : Hid (tieMay vals ⟨kn, un⟩ = !(decide (0 < vals[kn]) && decide (vals[un] = 0))) := by
            unfold Hid tieMay
            show (!(inR (kn : Int) 0 _ && inR (un : Int) 0 _ && decide (0 < vals.getD (kn : Int).toNat 0) && decide (vals.getD (un : Int).toNat 0 = 0))) = _
            rw [inR_yes r1.1 r1.2, inR_yes r2.1 r2.2, Int.toNat_natCast, Int.toNat_natCast, getD_at hkn, getD_at hun]
            rfl
          have y1 : (kn : Int) ≤ (vals.length : Int) - 1 := r1.2
          have y2 : (un : Int) ≤ (vals.length : Int) - 1 := r2.2
          have y3 : (kn : Int) < (vals.length : Int) := by omega
          have y4 : (un : Int) < (vals.length : Int) := by omega
          have y5 : (0 : Int) ≤ (kn : Int) := by omega
          have y6 : (0 : Int) ≤ (un : Int) := by omega
          clear m0 m1 r1 r2
          generalize vals[kn] = v0 at *
          generalize vals[un] = v1 at *
          by_cases z0 : 0 < v0
          · by_cases z1 : v1 = 0
            · have HF := Lib.hid (HN.out (by rw [HM.out]; simp [z0, z1]))
              have z2 : (v1 == 0) = true := by rw [z1]; rfl
              clear z1 HM
              go_wp2_with (first | (go_at_call 71; refine (inRange_yes _ _ _ _ (by omega) (by omega)).mono ?_; rintro e w' ⟨rfl, rfl⟩) | fail)
              go_ret
              exact ⟨ret_bool HF.out.symm, by rw [← HB.out]; exact hbn⟩
            · have HF := Lib.hid (show tieMay vals ⟨kn, un⟩ = true by rw [HM.out]; simp [z1])
              have z2 : (v1 == 0) = false := beq_eq_false_iff_ne.2 z1
              clear z1 HM
              go_wp2_with (first | (go_at_call 71; refine (inRange_yes _ _ _ _ (by omega) (by omega)).mono ?_; rintro e w' ⟨rfl, rfl⟩) | fail)
              go_roundw
              case rel => exact ⟨k + 1, by omega, by go_num, allp_succ HT.out HA.out HF.out, hbn, hsn, qn⟩
              case measure => simp [intOf]; omega
          · have HF := Lib.hid (show tieMay vals ⟨kn, un⟩ = true by rw [HM.out]; simp [z0])
            have z2 : decide (0 < v0) = false := decide_eq_false z0
            clear HM
            go_wp2_with (first | (go_at_call 71; refine (inRange_yes _ _ _ _ (by omega) (by omega)).mono ?_; rintro e w' ⟨rfl, rfl⟩) | fail)
            go_roundw
            case rel => exact ⟨k + 1, by omega, by go_num, allp_succ HT.out HA.out HF.out, hbn, hsn, qn⟩
            case measure => simp [intOf]; omega
        · have HF : Hid (tieMay vals ⟨kid, up⟩ = true) := by unfold Hid tieMay; rw [inR_no r2]; simp
          have R2 := Lib.hid r2
          obtain ⟨r1a, r1b⟩ := r1
          clear r2
          go_wp2_with (first | (go_at_call_of 71 kid; refine (inRange_yes kid _ _ _ r1a r1b).mono ?_; rintro e w' ⟨rfl, rfl⟩) | (go_at_call_of 71 up; refine (inRange_no up _ _ _ R2.out).mono ?_; rintro e w' ⟨rfl, rfl⟩) | fail)
          go_roundw
          case rel => exact ⟨k + 1, by omega, by go_num, allp_succ HT.out HA.out HF.out, hbn, hsn, qn⟩
          case measure => simp [intOf]; omega
      · have HF : Hid (tieMay vals ⟨kid, up⟩ = true) := by unfold Hid tieMay; rw [inR_no r1]; simp
        have R1 := Lib.hid r1
        clear r1
        go_wp2_with (first | (go_at_call 71; refine (inRange_no _ _ _ _ R1.out).mono ?_; rintro e w' ⟨rfl, rfl⟩) | fail)
        go_roundw
        case rel => exact ⟨k + 1, by omega, by go_num, allp_succ HT.out HA.out HF.out, hbn, hsn, qn⟩
        case measure => simp [intOf]; omega
    · have HK := Lib.hid (show ties.take k = ties from List.take_of_length_le (by omega))
      have hki : ¬ (k : Int) < (ties.length : Int) := by omega
      have HF : Hid (tiesMay ties vals = true) := by have e := HA.out; rw [HK.out] at e; exact e
      go_wp2
      go_ret
      exact ⟨ret_bool HF.out.symm, by rw [← HB.out]; exact hb⟩

set_option maxHeartbeats 1000000 in
set_option maxRecDepth 100000 in
theorem tiesMay_spec (x : Piece) (vals : List Int) (ra ca sa ta : Option Addr) (rc cc sc tc : Nat) (v : Value) (lo hi lo' hi' : Nat) (w : World) (hp : PFour x ra rc ca cc sa sc ta tc lo hi w) (hh : hi ≤ w.heap.size) (hv : Rd intF.shape lo' hi' w v vals) (hh' : hi' ≤ w.heap.size) :
    Calls Try.prog 28 #[x.v ra rc ca cc sa sc ta tc, v] w fun e w' => e = .returned (.bool (tiesMay x.ties vals)) ∧ Below w.heap.size w w' := by
  obtain ⟨indent, rules, chunks, spans, ties⟩ := x
  obtain ⟨_, _, _, ht⟩ := hp
  unfold Piece.v
  simp only at ht ⊢
  have htl := ht.len_le
  obtain ⟨a, c, rfl, h2, h3, h4, h5⟩ := hv.intF
  obtain ⟨ta1, tc1, et, k2, k3, k4, k5⟩ := ht.tieF
  obtain ⟨rfl, _, rfl⟩ : ta = ta1 ∧ ties.length = ties.length ∧ tc = tc1 := by injection et with e1 _ e2; exact ⟨e1, rfl, e2⟩
  clear et
  unfold maxLen at h3 k3
  obtain ⟨B, HB⟩ : ∃ B, Hid (B = w.heap.size) := ⟨_, rfl⟩
  have hBw : B ≤ w.heap.size := Nat.le_of_eq HB.out
  have hBw' : w.heap.size ≤ B := Nat.le_of_eq HB.out.symm
  go_enter Try.func28, Try.ntmps28
  go_wp2_with fail
  have hb0 : Below B w (w.alloc (.cells #[.int .i64 indent, .slice ra rules.length rc, .slice ca chunks.length cc, .slice sa spans.length sc, .slice ta ties.length tc] 29)) := (Below.refl _ _).alloc hBw _
  have p4 : (w.alloc (.cells #[.int .i64 indent, .slice ra rules.length rc, .slice ca chunks.length cc, .slice sa spans.length sc, .slice ta ties.length tc] 29)).cell? ⟨w.heap.size, 4, none⟩ = some (.slice ta ties.length tc) := cell_heap (j := 4) (heap_alloc_new w _) rfl
  have hs0 : w.heap.size < (w.alloc (.cells #[.int .i64 indent, .slice ra rules.length rc, .slice ca chunks.length cc, .slice sa spans.length sc, .slice ta ties.length tc] 29)).heap.size := by simp
  generalize w.alloc (.cells #[.int .i64 indent, .slice ra rules.length rc, .slice ca chunks.length cc, .slice sa spans.length sc, .slice ta ties.length tc] 29) = w0 at *
  go_loopw [6] (fun i wr => ∃ k : Nat, k ≤ ties.length ∧ i = .int .i64 k ∧ Hid ((ties.take k).all (tieMay vals) = true) ∧ Below B w wr ∧ w.heap.size < wr.heap.size ∧ wr.cell? ⟨w.heap.size, 4, none⟩ = some (.slice ta ties.length tc)) (fun i _ => ties.length - (intOf i).toNat)
  case atStart => exact ⟨0, Nat.zero_le _, rfl, rfl, hb0, hs0, p4⟩
  case round =>
    obtain ⟨k, hk, rfl, HA, hb, hsw, q4⟩ := hrel
    clear hb0 p4 hs0
    by_cases hlt : k < ties.length
    · obtain ⟨b, off, rfl, hlo, hhi, c0, c1⟩ := k5 k hlt
      have d0 := (hb.cell (p := ⟨b, _, none⟩) (by show b < _; omega)).trans c0
      have d1 := (hb.cell (p := ⟨b, _, none⟩) (by show b < _; omega)).trans c1
      have HT := Lib.hid (List.take_succ_eq_append_getElem hlt)
      have HN := Lib.hid (fun h : tieMay vals ties[k] = false => (allp_no hlt h : ties.all (tieMay vals) = false))
      have hki : (k : Int) < (ties.length : Int) := by omega
      have hkz : (0 : Int) ≤ (k : Int) := by omega
      clear c0 c1 k5
      generalize ties[k] = t at *
      obtain ⟨kid, up⟩ := t
      simp only at d0 d1
      have hbn := hb.alloc (by have := hb.size; omega) (.cells #[.int .i64 kid, .int .i64 up] 101)
      have hsn : w.heap.size < (wr.alloc (.cells #[.int .i64 kid, .int .i64 up] 101)).heap.size := by simp; omega
      have qn := (World.cell?_alloc_lt wr (.cells #[.int .i64 kid, .int .i64 up] 101) ⟨w.heap.size, 4, none⟩ hsw).trans q4
      by_cases r1 : 0 ≤ kid ∧ kid ≤ (vals.length : Int) - 1
      · by_cases r2 : 0 ≤ up ∧ up ≤ (vals.length : Int) - 1
        · obtain ⟨kn, rfl⟩ := Int.eq_ofNat_of_zero_le r1.1
          obtain ⟨un, rfl⟩ := Int.eq_ofNat_of_zero_le r2.1
          have hkn : kn < vals.length := by omega
          have hun : un < vals.length := by omega
          obtain ⟨b1, o1, e1, l1, l2, m0⟩ := h5 kn hkn
          obtain ⟨b2, o2, e2, l3, l4, m1⟩ := h5 un hun
          subst e1
          injection e2 with e2
          injection e2 with e2 e3
          subst e2; subst e3
          have n0 := (hbn.cell (p := ⟨b1, _, none⟩) (by show b1 < _; omega)).trans m0
          have n1 := (hbn.cell (p := ⟨b1, _, none⟩) (by show b1 < _; omega)).trans m1
          have HM : Hid (tieMay vals ⟨kn, un⟩ = !(decide (0 < vals[kn]) && decide (vals[un] = 0))) := by
            unfold Hid tieMay
            show (!(inR (kn : Int) 0 _ && inR (un : Int) 0 _ && decide (0 < vals.getD (kn : Int).toNat 0) && decide (vals.getD (un : Int).toNat 0 = 0))) = _
            rw [inR_yes r1.1 r1.2, inR_yes r2.1 r2.2, Int.toNat_natCast, Int.toNat_natCast, getD_at hkn, getD_at hun]
            rfl
          have y1 : (kn : Int) ≤ (vals.length : Int) - 1 := r1.2
          have y2 : (un : Int) ≤ (vals.length : Int) - 1 := r2.2
          have y3 : (kn : Int) < (vals.length : Int) := by omega
          have y4 : (un : Int) < (vals.length : Int) := by omega
          have y5 : (0 : Int) ≤ (kn : Int) := by omega
          have y6 : (0 : Int) ≤ (un : Int) := by omega
          clear m0 m1 r1 r2
          generalize vals[kn] = v0 at *
          generalize vals[un] = v1 at *
          by_cases z0 : 0 < v0
          · by_cases z1 : v1 = 0
            · have HF := Lib.hid (HN.out (by rw [HM.out]; simp [z0, z1]))
              have z2 : (v1 == 0) = true := by rw [z1]; rfl
              clear z1 HM
              go_wp2_with (first | (go_at_call 57; refine (l01In_yes _ _ _ _ (by omega) (by omega)).mono ?_; rintro e w' ⟨rfl, rfl⟩) | fail)
              go_ret
              exact ⟨ret_bool HF.out.symm, by rw [← HB.out]; exact hbn⟩
            · have HF := Lib.hid (show tieMay vals ⟨kn, un⟩ = true by rw [HM.out]; simp [z1])
              have z2 : (v1 == 0) = false := beq_eq_false_iff_ne.2 z1
              clear z1 HM
              go_wp2_with (first | (go_at_call 57; refine (l01In_yes _ _ _ _ (by omega) (by omega)).mono ?_; rintro e w' ⟨rfl, rfl⟩) | fail)
              go_roundw
              case rel => exact ⟨k + 1, by omega, by go_num, allp_succ HT.out HA.out HF.out, hbn, hsn, qn⟩
              case measure => simp [intOf]; omega
          · have HF := Lib.hid (show tieMay vals ⟨kn, un⟩ = true by rw [HM.out]; simp [z0])
            have z2 : decide (0 < v0) = false := decide_eq_false z0
            clear HM
            go_wp2_with (first | (go_at_call 57; refine (l01In_yes _ _ _ _ (by omega) (by omega)).mono ?_; rintro e w' ⟨rfl, rfl⟩) | fail)
            go_roundw
            case rel => exact ⟨k + 1, by omega, by go_num, allp_succ HT.out HA.out HF.out, hbn, hsn, qn⟩
            case measure => simp [intOf]; omega
        · have HF : Hid (tieMay vals ⟨kid, up⟩ = true) := by unfold Hid tieMay; rw [inR_no r2]; simp
          have R2 := Lib.hid r2
          obtain ⟨r1a, r1b⟩ := r1
          clear r2
          go_wp2_with (first | (go_at_call_of 57 kid; refine (l01In_yes kid _ _ _ r1a r1b).mono ?_; rintro e w' ⟨rfl, rfl⟩) | (go_at_call_of 57 up; refine (l01In_no up _ _ _ R2.out).mono ?_; rintro e w' ⟨rfl, rfl⟩) | fail)
          go_roundw
          case rel => exact ⟨k + 1, by omega, by go_num, allp_succ HT.out HA.out HF.out, hbn, hsn, qn⟩
          case measure => simp [intOf]; omega
      · have HF : Hid (tieMay vals ⟨kid, up⟩ = true) := by unfold Hid tieMay; rw [inR_no r1]; simp
        have R1 := Lib.hid r1
        clear r1
        go_wp2_with (first | (go_at_call 57; refine (l01In_no _ _ _ _ R1.out).mono ?_; rintro e w' ⟨rfl, rfl⟩) | fail)
        go_roundw
        case rel => exact ⟨k + 1, by omega, by go_num, allp_succ HT.out HA.out HF.out, hbn, hsn, qn⟩
        case measure => simp [intOf]; omega
    · have HK := Lib.hid (show ties.take k = ties from List.take_of_length_le (by omega))
      have hki : ¬ (k : Int) < (ties.length : Int) := by omega
      have HF : Hid (tiesMay ties vals = true) := by have e := HA.out; rw [HK.out] at e; exact e
      go_wp2
      go_ret
      exact ⟨ret_bool HF.out.symm, by rw [← HB.out]; exact hb⟩
end Go.Proofs.Ytllpgomloblfjaa
