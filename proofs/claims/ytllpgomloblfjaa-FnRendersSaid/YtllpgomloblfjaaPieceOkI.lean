/- PieceOk of the program. By mk_pieceok.py. -/
import Derived.Test.YtllpgomloblfjaaPieceD
import Derived.Lib.Strings
namespace Go.Proofs.Ytllpgomloblfjaa
open Go.RowKit

theorem inRange_same (n a b : Int) (w : World) : Calls Try.prog 71 #[.int .i64 n, .int .i64 a, .int .i64 b] w fun e w' => e = .returned (.bool (inR n a b)) ∧ w' = w :=
  (inRange_any n a b w).mono fun _ _ ⟨h1, h2⟩ => ⟨h1, h2.symm⟩
set_option maxHeartbeats 1000000 in
set_option maxRecDepth 100000 in
theorem rulesOk_impl (x : Piece) (ra ca sa ta : Option Addr) (rc cc sc tc : Nat) (lo hi : Nat) (w : World) (hp : PFour x ra rc ca cc sa sc ta tc lo hi w) (hh : hi ≤ w.heap.size) :
    Calls Try.prog 97 #[x.v ra rc ca cc sa sc ta tc] w fun e w' => e = .returned (.bool (x.rules.all ruleOk && decide (x.rules.length ≤ 8))) ∧ Below w.heap.size w w' := by
  obtain ⟨hr, hc, hsp, ht⟩ := hp
  obtain ⟨hrl, hr5⟩ := at_rule hr
  obtain ⟨B, HB⟩ : ∃ B, Hid (B = w.heap.size) := ⟨_, rfl⟩
  have hBw : B ≤ w.heap.size := Nat.le_of_eq HB.out
  have hBw' : w.heap.size ≤ B := Nat.le_of_eq HB.out.symm
  unfold Piece.v
  go_enter Try.func97, Try.ntmps97
  go_wp2_with fail
  have hX0 := PBox.new x ra ca sa ta rc cc sc tc w
  have hb0 : Below B w (w.alloc (.cells #[.int .i64 x.indent, .slice ra x.rules.length rc, .slice ca x.chunks.length cc, .slice sa x.spans.length sc, .slice ta x.ties.length tc] 29)) := (Below.refl _ _).alloc hBw _
  generalize w.alloc (.cells #[.int .i64 x.indent, .slice ra x.rules.length rc, .slice ca x.chunks.length cc, .slice sa x.spans.length sc, .slice ta x.ties.length tc] 29) = w0 at *
  have hl0 := hX0.lt
  obtain ⟨p0, p1, p2, p3, p4⟩ := hX0.five
  go_loopw [8] (fun i wr => ∃ k : Nat, k ≤ x.rules.length ∧ i = .int .i64 k ∧ Hid ((x.rules.take k).all ruleOk = true) ∧ Below B w wr ∧ PBox x ra rc ca cc sa sc ta tc w.heap.size wr) (fun i _ => x.rules.length - (intOf i).toNat)
  case atStart => exact ⟨0, Nat.zero_le _, rfl, rfl, hb0, hX0⟩
  case round =>
    obtain ⟨k, hk, rfl, HA, hb, hX⟩ := hrel
    have hsz := hb.size
    have hxl := hX.lt
    obtain ⟨p0, p1, p2, p3, p4⟩ := hX.five
    by_cases hlt : k < x.rules.length
    · have hki : (k : Int) < (x.rules.length : Int) := by omega
      have hkz : (0 : Int) ≤ (k : Int) := by omega
      obtain ⟨b, off, rfl, hlo, hhi, c0, c1⟩ := hr5 k hlt
      have d0 := (hb.cell (p := ⟨b, _, none⟩) (by show b < _; omega)).trans c0
      have d1 := (hb.cell (p := ⟨b, _, none⟩) (by show b < _; omega)).trans c1
      have HT := Lib.hid (List.take_succ_eq_append_getElem hlt)
      have HN := Lib.hid (fun h : ruleOk x.rules[k] = false => (allp_no hlt h : x.rules.all (ruleOk) = false))
      clear c0 c1
      generalize x.rules[k] = r at *
      obtain ⟨values, cost⟩ := r
      simp only at d0 d1
      cases g1 : inR values 2 3 with
      | false =>
        have HF := Lib.hid (HN.out (by simp [ruleOk, g1]))
        go_wp2_with (first | (go_at_call 71; refine (inRange_any _ _ _ _).mono ?_; rintro e w' ⟨rfl, rfl⟩) | fail)
        go_ret
        exact ⟨ret_bool (by rw [HF.out]; rfl), by rw [← HB.out]; exact hb.alloc (by omega) _⟩
      | true =>
        cases g2 : inR cost 0 9 with
        | false =>
          have HF := Lib.hid (HN.out (by simp [ruleOk, g1, g2]))
          go_wp2_with (first | (go_at_call 71; refine (inRange_any _ _ _ _).mono ?_; rintro e w' ⟨rfl, rfl⟩) | fail)
          go_ret
          exact ⟨ret_bool (by rw [HF.out]; rfl), by rw [← HB.out]; exact hb.alloc (by omega) _⟩
        | true =>
          have HF := Lib.hid (show ruleOk ⟨values, cost⟩ = true by simp [ruleOk, g1, g2])
          go_wp2_with (first | (go_at_call 71; refine (inRange_any _ _ _ _).mono ?_; rintro e w' ⟨rfl, rfl⟩) | fail)
          go_roundw
          case rel => exact ⟨k + 1, by omega, by go_num, allp_succ HT.out HA.out HF.out, hb.alloc (by omega) _, hX.alloc _⟩
          case measure => simp [intOf]; omega
    · have hki : ¬ (k : Int) < (x.rules.length : Int) := by omega
      have HK := Lib.hid (show x.rules.take k = x.rules from List.take_of_length_le (by omega))
      have HF : Hid (x.rules.all ruleOk = true) := by have e := HA.out; rw [HK.out] at e; exact e
      go_wp2
      go_ret
      exact ⟨ret_bool (by rw [HF.out, Bool.true_and]; exact decide_eq_decide.2 (by omega)), by rw [← HB.out]; exact hb⟩
set_option maxHeartbeats 1000000 in
set_option maxRecDepth 100000 in
theorem isRule_impl (x : Piece) (ra ca sa ta : Option Addr) (rc cc sc tc : Nat) (i : Int) (lo hi : Nat) (w : World) (hp : PFour x ra rc ca cc sa sc ta tc lo hi w) (_hh : hi ≤ w.heap.size) :
    Calls Try.prog 99 #[x.v ra rc ca cc sa sc ta tc, .int .i64 i] w fun e w' => e = .returned (.bool (inR i 0 ((x.rules.length : Int) - 1))) ∧ Below w.heap.size w w' := by
  obtain ⟨hr, hc, hsp, ht⟩ := hp
  obtain ⟨hrl, hr5⟩ := at_rule hr
  obtain ⟨B, HB⟩ : ∃ B, Hid (B = w.heap.size) := ⟨_, rfl⟩
  have hBw : B ≤ w.heap.size := Nat.le_of_eq HB.out
  have hBw' : w.heap.size ≤ B := Nat.le_of_eq HB.out.symm
  unfold Piece.v
  go_enter Try.func99, Try.ntmps99
  go_wp2_with fail
  have hX0 := PBox.new x ra ca sa ta rc cc sc tc w
  have hb0 : Below B w (w.alloc (.cells #[.int .i64 x.indent, .slice ra x.rules.length rc, .slice ca x.chunks.length cc, .slice sa x.spans.length sc, .slice ta x.ties.length tc] 29)) := (Below.refl _ _).alloc hBw _
  generalize w.alloc (.cells #[.int .i64 x.indent, .slice ra x.rules.length rc, .slice ca x.chunks.length cc, .slice sa x.spans.length sc, .slice ta x.ties.length tc] 29) = w0 at *
  have hl0 := hX0.lt
  obtain ⟨p0, p1, p2, p3, p4⟩ := hX0.five
  refine (inRange_any _ _ _ _).mono ?_
  rintro e w' ⟨rfl, rfl⟩
  go_wp2
  go_ret
  exact ⟨rfl, by rw [← HB.out]; exact hb0⟩
set_option maxHeartbeats 2000000 in
set_option maxRecDepth 100000 in
theorem splitOk_impl (x : Piece) (ra ca sa ta : Option Addr) (rc cc sc tc : Nat) (s : Split) (lo hi : Nat) (w : World) (hp : PFour x ra rc ca cc sa sc ta tc lo hi w) (hh : hi ≤ w.heap.size) (hv : ∀ i (h : i < x.rules.length), 2 ≤ x.rules[i].values ∧ x.rules[i].values ≤ 3) :
    Calls Try.prog 128 #[x.v ra rc ca cc sa sc ta tc, s.v] w fun e w' => e = .returned (.bool (splitOk x.rules s)) ∧ Below w.heap.size w w' := by
  obtain ⟨rule, fro, space, nest⟩ := s
  unfold Split.v
  obtain ⟨hr, hc, hsp, ht⟩ := hp
  obtain ⟨hrl, hr5⟩ := at_rule hr
  obtain ⟨B, HB⟩ : ∃ B, Hid (B = w.heap.size) := ⟨_, rfl⟩
  have hBw : B ≤ w.heap.size := Nat.le_of_eq HB.out
  have hBw' : w.heap.size ≤ B := Nat.le_of_eq HB.out.symm
  unfold Piece.v
  go_enter Try.func128, Try.ntmps128
  have hX0 := PBox.new x ra ca sa ta rc cc sc tc w
  have hb0 : Below B w (w.alloc (.cells #[.int .i64 x.indent, .slice ra x.rules.length rc, .slice ca x.chunks.length cc, .slice sa x.spans.length sc, .slice ta x.ties.length tc] 29)) := (Below.refl _ _).alloc hBw _
  have hX1 := hX0.alloc (.cells #[.int .i64 rule, .int .i64 fro, .bool space, .int .i64 nest] 54)
  have hb1 := hb0.alloc (by simp; omega) (.cells #[.int .i64 rule, .int .i64 fro, .bool space, .int .i64 nest] 54)
  obtain ⟨p0, p1, p2, p3, p4⟩ := hX1.five
  clear hX0 hb0 hX1
  cases g1 : inR rule 0 ((x.rules.length : Int) - 1) with
  | false =>
    have HF := Lib.hid (show splitOk x.rules ⟨rule, fro, space, nest⟩ = false by simp [splitOk, g1])
    go_wp2_with (first | (go_at_call 71; refine (inRange_any _ _ _ _).mono ?_; rintro e w' ⟨rfl, rfl⟩) | fail)
    go_ret
    exact ⟨ret_bool HF.out.symm, by rw [← HB.out]; exact hb1⟩
  | true =>
    cases g2 : inR nest 0 40 with
    | false =>
      have HF := Lib.hid (show splitOk x.rules ⟨rule, fro, space, nest⟩ = false by simp [splitOk, g1, g2])
      go_wp2_with (first | (go_at_call 71; refine (inRange_any _ _ _ _).mono ?_; rintro e w' ⟨rfl, rfl⟩) | fail)
      go_ret
      exact ⟨ret_bool HF.out.symm, by rw [← HB.out]; exact hb1⟩
    | true =>
      obtain ⟨a1, a2⟩ := inR_of g1
      obtain ⟨rn, rfl⟩ := Int.eq_ofNat_of_zero_le a1
      have hlt : rn < x.rules.length := by omega
      obtain ⟨b, off, rfl, hlo, hhi, c0, c1⟩ := hr5 rn hlt
      have d0 := (hb1.cell (p := ⟨b, _, none⟩) (by show b < _; omega)).trans c0
      obtain ⟨v1, v2⟩ := hv rn hlt
      have HF : Hid (splitOk x.rules ⟨rn, fro, space, nest⟩ = inR fro 1 (x.rules[rn].values - 1)) := by
        have e : x.rules.getD rn Rule.zero = x.rules[rn] := by simp [List.getD, hlt]
        simp only [Hid, splitOk, Int.toNat_natCast, e]
        simp [g1, g2]
      have hrz : (0 : Int) ≤ (rn : Int) := by omega
      have hrl2 : (rn : Int) < (x.rules.length : Int) := by omega
      clear c0 c1 hr5
      generalize x.rules[rn] = r at *
      obtain ⟨values, cost⟩ := r
      simp only at d0 v1 v2 HF
      have wv : IntKind.i64.wrap (values - 1) = values - 1 := IntWalk.i64_in _ (by omega)
      go_wp2_with (first | (go_at_call 71; refine (inRange_any _ _ _ _).mono ?_; rintro e w' ⟨rfl, rfl⟩) | fail)
      go_quiet ((go_at_call 71; exact Calls.quiet_of_same (inRange_same _ _ _ _)))
      go_wp2
      go_ret
      exact ⟨ret_bool HF.out.symm, by rw [← HB.out]; exact blw_drewN hb1 _⟩
set_option maxHeartbeats 1500000 in
set_option maxRecDepth 100000 in
theorem chunksOk_impl (x : Piece) (ra ca sa ta : Option Addr) (rc cc sc tc : Nat) (lo hi : Nat) (w : World) (hp : PFour x ra rc ca cc sa sc ta tc lo hi w) (hh : hi ≤ w.heap.size) (hv : ∀ i (h : i < x.rules.length), 2 ≤ x.rules[i].values ∧ x.rules[i].values ≤ 3) (hT : ∀ c ∈ x.chunks, c.text.size ≤ maxLen) :
    Calls Try.prog 98 #[x.v ra rc ca cc sa sc ta tc] w fun e w' => e = .returned (.bool (chunksOk x.rules x.chunks)) ∧ Below w.heap.size w w' := by
  have hp0 := hp
  obtain ⟨hr, hc, hsp, ht⟩ := hp
  obtain ⟨hcl, hc5⟩ := at_chunk hc
  obtain ⟨B, HB⟩ : ∃ B, Hid (B = w.heap.size) := ⟨_, rfl⟩
  have hBw : B ≤ w.heap.size := Nat.le_of_eq HB.out
  have hBw' : w.heap.size ≤ B := Nat.le_of_eq HB.out.symm
  unfold Piece.v
  go_enter Try.func98, Try.ntmps98
  go_wp2_with fail
  have hX0 := PBox.new x ra ca sa ta rc cc sc tc w
  have hb0 : Below B w (w.alloc (.cells #[.int .i64 x.indent, .slice ra x.rules.length rc, .slice ca x.chunks.length cc, .slice sa x.spans.length sc, .slice ta x.ties.length tc] 29)) := (Below.refl _ _).alloc hBw _
  generalize w.alloc (.cells #[.int .i64 x.indent, .slice ra x.rules.length rc, .slice ca x.chunks.length cc, .slice sa x.spans.length sc, .slice ta x.ties.length tc] 29) = w0 at *
  have hl0 := hX0.lt
  obtain ⟨p0, p1, p2, p3, p4⟩ := hX0.five
  refine (inRange_any _ _ _ _).mono ?_
  rintro e w' ⟨rfl, rfl⟩
  cases g0 : inR (x.chunks.length : Int) 1 80 with
  | false =>
    have HF := Lib.hid (show chunksOk x.rules x.chunks = false by simp [chunksOk, g0])
    go_wp2
    go_ret
    exact ⟨ret_bool HF.out.symm, by rw [← HB.out]; exact hb0⟩
  | true =>
  have hn := inR_of g0
  go_wp2
  go_loopw [15] (fun i wr => ∃ k : Nat, k ≤ x.chunks.length ∧ i = .int .i64 k ∧ Hid ((List.range k).all (chunkOk x.rules x.chunks) = true) ∧ Below B w wr ∧ PBox x ra rc ca cc sa sc ta tc w.heap.size wr) (fun i _ => x.chunks.length - (intOf i).toNat)
  case atStart => exact ⟨0, Nat.zero_le _, rfl, rfl, hb0, hX0⟩
  case round =>
    obtain ⟨k, hk, rfl, HA, hb, hX⟩ := hrel
    have hsz := hb.size
    have hxl := hX.lt
    obtain ⟨p0, p1, p2, p3, p4⟩ := hX.five
    by_cases hlt : k < x.chunks.length
    · have hki : (k : Int) < (x.chunks.length : Int) := by omega
      have hkz : (0 : Int) ≤ (k : Int) := by omega
      obtain ⟨b, off, rfl, hlo, hhi, c0, c1, c2, c3, c4⟩ := hc5 k hlt
      have d0 := (hb.cell (p := ⟨b, _, none⟩) (by show b < _; omega)).trans c0
      have d1 := (hb.cell (p := ⟨b, _, none⟩) (by show b < _; omega)).trans c1
      have d2 := (hb.cell (p := ⟨b, _, none⟩) (by show b < _; omega)).trans c2
      have d3 := (hb.cell (p := ⟨b, _, none⟩) (by show b < _; omega)).trans c3
      have d4 := (hb.cell (p := ⟨b, _, none⟩) (by show b < _; omega)).trans c4
      have HN := Lib.hid (fun h : chunkOk x.rules x.chunks k = false => (range_all_no hlt h : (List.range x.chunks.length).all (chunkOk x.rules x.chunks) = false))
      have HC := Lib.hid (show chunkOk x.rules x.chunks k = (plainB x.chunks[k].text && (decide (x.chunks.length ≤ k + 1) || splitOk x.rules x.chunks[k].split)) by rw [chunkOk, chunkAt_lt hlt])
      have htx := hT _ (List.getElem_mem hlt)
      unfold maxLen at htx
      clear c0 c1 c2 c3 c4
      generalize x.chunks[k] = ck at *
      obtain ⟨text, rule, fro, space, nest⟩ := ck
      simp only at d0 d1 d2 d3 d4 htx
      have hX1 := hX.alloc (.cells #[.string text, .int .i64 rule, .int .i64 fro, .bool space, .int .i64 nest] 56)
      have hb1 := hb.alloc (by omega) (.cells #[.string text, .int .i64 rule, .int .i64 fro, .bool space, .int .i64 nest] 56)
      obtain ⟨q0, q1, q2, q3, q4⟩ := hX1.five
      have hl1 := hX1.lt
      go_wp2_with fail
      refine (isPlain_impl text _ htx).mono ?_
      rintro e w' ⟨rfl, rfl⟩
      cases g1 : plainB text with
      | false =>
        have HF := Lib.hid (show chunksOk x.rules x.chunks = false by rw [chunksOk, HN.out (by rw [HC.out]; simp [g1])]; simp)
        go_wp2
        go_ret
        exact ⟨ret_bool HF.out.symm, by rw [← HB.out]; exact hb1⟩
      | true =>
      by_cases g2 : (k : Int) < (x.chunks.length : Int) - 1
      · go_wp2_with fail
        refine (splitOk_impl x _ _ _ _ _ _ _ _ ⟨rule, fro, space, nest⟩ lo hi _ (hp0.below hb1 (by omega)) (by have := hb1.size; omega) hv).mono ?_
        rintro e w2 ⟨rfl, k2⟩
        have hb2 := hb1.trans (k2.mono (by have := hb1.size; omega))
        have hX2 := hX1.below k2
        cases g3 : splitOk x.rules ⟨rule, fro, space, nest⟩ with
        | false =>
          have HF := Lib.hid (show chunksOk x.rules x.chunks = false by rw [chunksOk, HN.out (by rw [HC.out]; simp [g1, Chunk.split, g3]; omega)]; simp)
          go_wp2
          go_ret
          exact ⟨ret_bool HF.out.symm, by rw [← HB.out]; exact hb2⟩
        | true =>
          have HF := Lib.hid (show chunkOk x.rules x.chunks k = true by rw [HC.out]; simp [g1, Chunk.split, g3])
          go_wp2
          go_roundw
          case rel => exact ⟨k + 1, by omega, by go_num, range_all_succ HA.out HF.out, hb2, hX2⟩
          case measure => simp [intOf]; omega
      · have g2d : decide ((k : Int) < (x.chunks.length : Int) - 1) = false := decide_eq_false g2
        have HF := Lib.hid (show chunkOk x.rules x.chunks k = true by rw [HC.out]; simp [g1]; omega)
        go_wp2
        go_roundw
        case rel => exact ⟨k + 1, by omega, by go_num, range_all_succ HA.out HF.out, hb1, hX1⟩
        case measure => simp [intOf]; omega
    · have hki : ¬ (k : Int) < (x.chunks.length : Int) := by omega
      have HF : Hid ((List.range x.chunks.length).all (chunkOk x.rules x.chunks) = true) := by have e := HA.out; rw [show k = x.chunks.length by omega] at e; exact e
      have hm : x.chunks.length - 1 < x.chunks.length := by omega
      obtain ⟨b, off, rfl, hlo, hhi, c0, c1, c2, c3, c4⟩ := hc5 _ hm
      have d1 := (hb.cell (p := ⟨b, _, none⟩) (by show b < _; omega)).trans c1
      have d2 := (hb.cell (p := ⟨b, _, none⟩) (by show b < _; omega)).trans c2
      have d3 := (hb.cell (p := ⟨b, _, none⟩) (by show b < _; omega)).trans c3
      have d4 := (hb.cell (p := ⟨b, _, none⟩) (by show b < _; omega)).trans c4
      have HL := Lib.hid (show lastOk x.chunks = (decide (x.chunks[x.chunks.length - 1].rule = 0) && decide (x.chunks[x.chunks.length - 1].fro = 0) && !x.chunks[x.chunks.length - 1].space && decide (x.chunks[x.chunks.length - 1].nest = 0)) by rw [lastOk, chunkAt_lt hm])
      have HG := Lib.hid g0
      have e1 : ((x.chunks.length : Int) - 1).toNat = x.chunks.length - 1 := by omega
      have e2 : (0 : Int) ≤ (x.chunks.length : Int) - 1 := by omega
      have e3 : (x.chunks.length : Int) - 1 < (x.chunks.length : Int) := by omega
      clear c0 c1 c2 c3 c4
      generalize x.chunks[x.chunks.length - 1] = ck at *
      obtain ⟨text, rule, fro, space, nest⟩ := ck
      simp only at d1 d2 d3 d4 HL
      have d2' : wr.cell? ⟨b, off + (x.chunks.length - 1) * 5 + 1 + 1, none⟩ = some (.int .i64 fro) := d2
      have d3' : wr.cell? ⟨b, off + (x.chunks.length - 1) * 5 + 1 + 2, none⟩ = some (.bool space) := d3
      have d4' : wr.cell? ⟨b, off + (x.chunks.length - 1) * 5 + 1 + 3, none⟩ = some (.int .i64 nest) := d4
      clear hn d2 d3 d4
      have HV := Lib.hid (show chunksOk x.rules x.chunks = (decide (rule = 0) && decide (fro = 0) && !space && decide (nest = 0)) by rw [chunksOk, HG.out, HF.out, HL.out]; rfl)
      clear g0 HA hc5 hv hT
      go_wp2
      all_goals
        go_ret
        refine ⟨ret_bool ?_, by rw [← HB.out]; exact hb⟩
        rw [HV.out]
        simp [*]
def rulesB (x : Piece) : Bool := x.rules.all ruleOk && decide (x.rules.length ≤ 8)
set_option maxHeartbeats 1500000 in
set_option maxRecDepth 100000 in
theorem pieceOk_impl (x : Piece) (ra ca sa ta : Option Addr) (rc cc sc tc : Nat) (lo hi : Nat) (w : World) (hp : PFour x ra rc ca cc sa sc ta tc lo hi w) (hh : hi ≤ w.heap.size) (hT : ∀ c ∈ x.chunks, c.text.size ≤ maxLen) :
    Calls Try.prog 55 #[x.v ra rc ca cc sa sc ta tc] w fun e w' => e = .returned (.bool (pieceOk x)) ∧ Below w.heap.size w w' := by
  have hp0 := hp
  obtain ⟨hr, hc, hsp, ht⟩ := hp
  obtain ⟨hrl, hr5⟩ := at_rule hr
  obtain ⟨hspl, hsp5⟩ := at_span hsp
  obtain ⟨htl, ht5⟩ := at_tie ht
  obtain ⟨B, HB⟩ : ∃ B, Hid (B = w.heap.size) := ⟨_, rfl⟩
  have hBw : B ≤ w.heap.size := Nat.le_of_eq HB.out
  have hBw' : w.heap.size ≤ B := Nat.le_of_eq HB.out.symm
  unfold Piece.v
  go_enter Try.func55, Try.ntmps55
  go_wp2_with fail
  have hX0 := PBox.new x ra ca sa ta rc cc sc tc w
  have hb0 : Below B w (w.alloc (.cells #[.int .i64 x.indent, .slice ra x.rules.length rc, .slice ca x.chunks.length cc, .slice sa x.spans.length sc, .slice ta x.ties.length tc] 29)) := (Below.refl _ _).alloc hBw _
  generalize w.alloc (.cells #[.int .i64 x.indent, .slice ra x.rules.length rc, .slice ca x.chunks.length cc, .slice sa x.spans.length sc, .slice ta x.ties.length tc] 29) = w0 at *
  have hl0 := hX0.lt
  obtain ⟨p0, p1, p2, p3, p4⟩ := hX0.five
  refine (inRange_any _ _ _ _).mono ?_
  rintro e w' ⟨rfl, rfl⟩
  cases g1 : inR x.indent 0 60 with
  | false =>
    have HF := Lib.hid (show pieceOk x = false by simp [pieceOk, g1])
    go_wp2
    go_ret
    exact ⟨ret_bool HF.out.symm, by rw [← HB.out]; exact hb0⟩
  | true =>
  go_wp2_with fail
  refine (rulesOk_impl x _ _ _ _ _ _ _ _ lo hi _ (hp0.below hb0 (by omega)) (by have := hb0.size; omega)).mono ?_
  rintro e w1 ⟨he, k1⟩
  obtain rfl : e = .returned (.bool (rulesB x)) := he
  have hb1 := hb0.trans (k1.mono (by have := hb0.size; omega))
  have hX1 := hX0.below k1
  have hl1 := hX1.lt
  clear p0 p1 p2 p3 p4
  obtain ⟨p0, p1, p2, p3, p4⟩ := hX1.five
  cases g2 : rulesB x with
  | false =>
    have HF := Lib.hid (show pieceOk x = false by
      rw [pieceOk, Bool.and_assoc (inR x.indent 0 60), show (x.rules.all ruleOk && decide (x.rules.length ≤ 8)) = false from g2]
      simp)
    go_wp2
    go_ret
    exact ⟨ret_bool HF.out.symm, by rw [← HB.out]; exact hb1⟩
  | true =>
  have g2' : (x.rules.all ruleOk && decide (x.rules.length ≤ 8)) = true := g2
  rw [Bool.and_eq_true, decide_eq_true_eq] at g2'
  obtain ⟨g2a, g2b⟩ := g2'
  have hv : ∀ i (h : i < x.rules.length), 2 ≤ x.rules[i].values ∧ x.rules[i].values ≤ 3 := fun i h => by
    have := List.all_eq_true.1 g2a _ (List.getElem_mem h)
    simp only [ruleOk, Bool.and_eq_true] at this
    exact inR_of this.1
  have G2a := Lib.hid g2a
  clear g2a g2
  go_wp2_with fail
  refine (chunksOk_impl x _ _ _ _ _ _ _ _ lo hi _ (hp0.below hb1 (by omega)) (by have := hb1.size; omega) hv hT).mono ?_
  rintro e w2 ⟨rfl, k2⟩
  have hb2 := hb1.trans (k2.mono (by have := hb1.size; omega))
  have hX2 := hX1.below k2
  have hl2 := hX2.lt
  clear p0 p1 p2 p3 p4
  obtain ⟨p0, p1, p2, p3, p4⟩ := hX2.five
  cases g3 : chunksOk x.rules x.chunks with
  | false =>
    have HF := Lib.hid (show pieceOk x = false by simp [pieceOk, g3])
    go_wp2
    go_ret
    exact ⟨ret_bool HF.out.symm, by rw [← HB.out]; exact hb2⟩
  | true =>
  have hcn : 1 ≤ x.chunks.length := by
    simp only [chunksOk, Bool.and_eq_true] at g3
    have := inR_of g3.1.1
    omega
  have hcl : x.chunks.length ≤ 80 := by
    simp only [chunksOk, Bool.and_eq_true] at g3
    have := inR_of g3.1.1
    omega
  by_cases g4 : (40 : Int) < (x.spans.length : Int)
  · have g4' : ¬ x.spans.length ≤ 40 := by omega
    have HF := Lib.hid (show pieceOk x = false by simp [pieceOk, g4'])
    go_wp2
    go_ret
    exact ⟨ret_bool HF.out.symm, by rw [← HB.out]; exact hb2⟩
  by_cases g5 : (20 : Int) < (x.ties.length : Int)
  · have g5' : ¬ x.ties.length ≤ 20 := by omega
    have g4d : decide ((40 : Int) < (x.spans.length : Int)) = false := decide_eq_false g4
    have HF := Lib.hid (show pieceOk x = false by simp [pieceOk, g5'])
    go_wp2
    go_ret
    exact ⟨ret_bool HF.out.symm, by rw [← HB.out]; exact hb2⟩
  have g4d : decide ((40 : Int) < (x.spans.length : Int)) = false := decide_eq_false g4
  have g5d : decide ((20 : Int) < (x.ties.length : Int)) = false := decide_eq_false g5
  have g4' : x.spans.length ≤ 40 := by omega
  have g5' : x.ties.length ≤ 20 := by omega
  have HP := Lib.hid (show pieceOk x = (x.spans.all (spanOk x.chunks.length) && x.ties.all (tieOk x.rules.length)) by simp [pieceOk, g1, G2a.out, g2b, g3, g4', g5'])
  clear hX0 hX1 hb0 hb1 k1 k2
  go_wp2
  go_loopw [36] (fun i wr => ∃ k : Nat, k ≤ x.spans.length ∧ i = .int .i64 k ∧ Hid ((x.spans.take k).all (spanOk x.chunks.length) = true) ∧ Below B w wr ∧ PBox x ra rc ca cc sa sc ta tc w.heap.size wr) (fun i _ => x.spans.length - (intOf i).toNat)
  case atStart => exact ⟨0, Nat.zero_le _, rfl, rfl, hb2, hX2⟩
  case round =>
    obtain ⟨k, hk, rfl, HA, hb, hX⟩ := hrel
    have hsz := hb.size
    have hxl := hX.lt
    obtain ⟨p0, p1, p2, p3, p4⟩ := hX.five
    by_cases hlt : k < x.spans.length
    · have hki : (k : Int) < (x.spans.length : Int) := by omega
      have hkz : (0 : Int) ≤ (k : Int) := by omega
      obtain ⟨b, off, rfl, hlo, hhi, c0, c1, c2⟩ := hsp5 k hlt
      have d0 := (hb.cell (p := ⟨b, _, none⟩) (by show b < _; omega)).trans c0
      have d1 := (hb.cell (p := ⟨b, _, none⟩) (by show b < _; omega)).trans c1
      have d2 := (hb.cell (p := ⟨b, _, none⟩) (by show b < _; omega)).trans c2
      have HT := Lib.hid (List.take_succ_eq_append_getElem hlt)
      have HN := Lib.hid (fun h : spanOk x.chunks.length x.spans[k] = false => (allp_no hlt h : x.spans.all (spanOk x.chunks.length) = false))
      clear c0 c1 c2
      generalize x.spans[k] = sp at *
      obtain ⟨fro, til, cost⟩ := sp
      simp only at d0 d1 d2
      have hX1 := hX.alloc (.cells #[.int .i64 fro, .int .i64 til, .int .i64 cost] 121)
      have hb1 := hb.alloc (by omega) (.cells #[.int .i64 fro, .int .i64 til, .int .i64 cost] 121)
      obtain ⟨q0, q1, q2, q3, q4⟩ := hX1.five
      have hl3 := hX1.lt
      by_cases f1 : fro < 0
      · have f1d : decide (fro < 0) = true := decide_eq_true f1
        have HF := Lib.hid (show pieceOk x = false by rw [HP.out, HN.out (by simp [spanOk, inR]; try omega)]; rfl)
        go_wp2_with (first | (go_at_call 71; refine (inRange_any _ _ _ _).mono ?_; rintro e w' ⟨rfl, rfl⟩) | fail)
        go_ret
        exact ⟨ret_bool HF.out.symm, by rw [← HB.out]; exact hb1⟩
      · have f1d : decide (fro < 0) = false := decide_eq_false f1
        by_cases f2 : til < fro
        · have f2d : decide (til < fro) = true := decide_eq_true f2
          have HF := Lib.hid (show pieceOk x = false by rw [HP.out, HN.out (by simp [spanOk, inR]; try omega)]; rfl)
          go_wp2_with (first | (go_at_call 71; refine (inRange_any _ _ _ _).mono ?_; rintro e w' ⟨rfl, rfl⟩) | fail)
          go_ret
          exact ⟨ret_bool HF.out.symm, by rw [← HB.out]; exact hb1⟩
        · have f2d : decide (til < fro) = false := decide_eq_false f2
          by_cases f3 : (x.chunks.length : Int) - 1 ≤ til
          · have f3d : decide ((x.chunks.length : Int) - 1 ≤ til) = true := decide_eq_true f3
            have HF := Lib.hid (show pieceOk x = false by rw [HP.out, HN.out (by simp [spanOk, inR]; try omega)]; rfl)
            go_wp2_with (first | (go_at_call 71; refine (inRange_any _ _ _ _).mono ?_; rintro e w' ⟨rfl, rfl⟩) | fail)
            go_ret
            exact ⟨ret_bool HF.out.symm, by rw [← HB.out]; exact hb1⟩
          · have f3d : decide ((x.chunks.length : Int) - 1 ≤ til) = false := decide_eq_false f3
            cases f4 : inR cost 0 9 with
            | false =>
              have HF := Lib.hid (show pieceOk x = false by rw [HP.out, HN.out (by simp [spanOk, f4])]; rfl)
              go_wp2_with (first | (go_at_call 71; refine (inRange_any _ _ _ _).mono ?_; rintro e w' ⟨rfl, rfl⟩) | fail)
              go_ret
              exact ⟨ret_bool HF.out.symm, by rw [← HB.out]; exact hb1⟩
            | true =>
              have HF := Lib.hid (show spanOk x.chunks.length ⟨fro, til, cost⟩ = true by show (inR til 0 _ && inR fro 0 til && inR cost 0 9) = true; rw [inR_yes (n := til) (by omega) (by omega), inR_yes (n := fro) (by omega) (by omega), f4]; rfl)
              go_wp2_with (first | (go_at_call 71; refine (inRange_any _ _ _ _).mono ?_; rintro e w' ⟨rfl, rfl⟩) | fail)
              go_roundw
              case rel => exact ⟨k + 1, by omega, by go_num, allp_succ HT.out HA.out HF.out, hb1, hX1⟩
              case measure => simp [intOf]; omega
    · have hki : ¬ (k : Int) < (x.spans.length : Int) := by omega
      have HS : Hid (x.spans.all (spanOk x.chunks.length) = true) := by have e := HA.out; rw [List.take_of_length_le (by omega)] at e; exact e
      clear HA
      go_wp2
      go_loopw [69] (fun i wr => ∃ k : Nat, k ≤ x.ties.length ∧ i = .int .i64 k ∧ Hid ((x.ties.take k).all (tieOk x.rules.length) = true) ∧ Below B w wr ∧ PBox x ra rc ca cc sa sc ta tc w.heap.size wr) (fun i _ => x.ties.length - (intOf i).toNat)
      case atStart => exact ⟨0, Nat.zero_le _, rfl, rfl, hb, hX⟩
      case round =>
        obtain ⟨k, hk, rfl, HA, hb, hX⟩ := hrel
        have hsz := hb.size
        have hxl := hX.lt
        obtain ⟨p0, p1, p2, p3, p4⟩ := hX.five
        by_cases hlt : k < x.ties.length
        · have hki : (k : Int) < (x.ties.length : Int) := by omega
          have hkz : (0 : Int) ≤ (k : Int) := by omega
          obtain ⟨b, off, rfl, hlo, hhi, c0, c1⟩ := ht5 k hlt
          have d0 := (hb.cell (p := ⟨b, _, none⟩) (by show b < _; omega)).trans c0
          have d1 := (hb.cell (p := ⟨b, _, none⟩) (by show b < _; omega)).trans c1
          have HT := Lib.hid (List.take_succ_eq_append_getElem hlt)
          have HN := Lib.hid (fun h : tieOk x.rules.length x.ties[k] = false => (allp_no hlt h : x.ties.all (tieOk x.rules.length) = false))
          clear c0 c1
          generalize x.ties[k] = tt at *
          obtain ⟨kid, up⟩ := tt
          simp only at d0 d1
          have hX1 := hX.alloc (.cells #[.int .i64 kid, .int .i64 up] 101)
          have hb1 := hb.alloc (by omega) (.cells #[.int .i64 kid, .int .i64 up] 101)
          have hT1 := heap_alloc_new wr (.cells #[.int .i64 kid, .int .i64 up] 101)
          obtain ⟨q0, q1, q2, q3, q4⟩ := hX1.five
          have hl3 := hX1.lt
          go_wp2_with fail
          generalize wr.alloc (.cells #[.int .i64 kid, .int .i64 up] 101) = wt at *
          refine (isRule_impl x _ _ _ _ _ _ _ _ kid lo hi _ (hp0.below hb1 (by omega)) (by have := hb1.size; omega)).mono ?_
          rintro e w5 ⟨rfl, k5⟩
          have hb5 := hb1.trans (k5.mono (by have := hb1.size; omega))
          have hX5 := hX1.below k5
          have hT5 := blk k5 hT1
          have hl5 := hX5.lt
          clear q0 q1 q2 q3 q4 p0 p1 p2 p3 p4 hX hb
          obtain ⟨q0, q1, q2, q3, q4⟩ := hX5.five
          have t0 := cell_heap (j := 0) hT5 rfl
          have t1 := cell_heap (j := 1) hT5 rfl
          cases f1 : inR kid 0 ((x.rules.length : Int) - 1) with
          | false =>
            have HF := Lib.hid (show pieceOk x = false by rw [HP.out, HN.out (by simp [tieOk, f1])]; simp)
            go_wp2
            go_ret
            exact ⟨ret_bool HF.out.symm, by rw [← HB.out]; exact hb5⟩
          | true =>
          go_wp2_with fail
          refine (isRule_impl x _ _ _ _ _ _ _ _ up lo hi _ (hp0.below hb5 (by omega)) (by have := hb5.size; omega)).mono ?_
          rintro e w6 ⟨rfl, k6⟩
          have hb6 := hb5.trans (k6.mono (by have := hb5.size; omega))
          have hX6 := hX5.below k6
          have hT6 := blk k6 hT5
          have hl6 := hX6.lt
          clear q0 q1 q2 q3 q4 t0 t1
          have t0 := cell_heap (j := 0) hT6 rfl
          have t1 := cell_heap (j := 1) hT6 rfl
          cases f2 : inR up 0 ((x.rules.length : Int) - 1) with
          | false =>
            have HF := Lib.hid (show pieceOk x = false by rw [HP.out, HN.out (by simp [tieOk, f2])]; simp)
            go_wp2
            go_ret
            exact ⟨ret_bool HF.out.symm, by rw [← HB.out]; exact hb6⟩
          | true =>
          by_cases f3 : kid = up
          · have HF := Lib.hid (show pieceOk x = false by rw [HP.out, HN.out (by simp [tieOk, f3])]; simp)
            have f3d : (kid == up) = true := by rw [f3]; simp
            clear f3
            go_wp2
            go_ret
            exact ⟨ret_bool HF.out.symm, by rw [← HB.out]; exact hb6⟩
          · have HF := Lib.hid (show tieOk x.rules.length ⟨kid, up⟩ = true by simp [tieOk, f1, f2, f3])
            have f3d : (kid == up) = false := beq_eq_false_iff_ne.2 f3
            clear f3
            go_wp2
            go_roundw
            case rel => exact ⟨k + 1, by omega, by go_num, allp_succ HT.out HA.out HF.out, hb6, hX6⟩
            case measure => simp [intOf]; omega
        · have hki : ¬ (k : Int) < (x.ties.length : Int) := by omega
          have HF : Hid (pieceOk x = true) := by have e := HA.out; rw [List.take_of_length_le (by omega)] at e; unfold Hid; rw [HP.out, HS.out, e]; rfl
          go_wp2
          go_ret
          exact ⟨ret_bool HF.out.symm, by rw [← HB.out]; exact hb⟩
end Go.Proofs.Ytllpgomloblfjaa
