/- Bound of the program, and all that it calls. -/
import Derived.Test.YtllpgomloblfjaaBoundD
import Derived.Test.YtllpgomloblfjaaPieceOkI
namespace Go.Proofs.Ytllpgomloblfjaa
open Go.RowKit

set_option maxHeartbeats 1000000 in
set_option maxRecDepth 100000 in
theorem splits_impl (x : Piece) (vals : List Int) (ra ca sa ta va : Option Addr) (rc cc sc tc vc i lo hi lo' hi' : Nat) (w : World) (hp : PFour x ra rc ca cc sa sc ta tc lo hi w) (hh : hi ≤ w.heap.size) (hv : Rd intF.shape lo' hi' w (.slice va vals.length vc) vals) (hh' : hi' ≤ w.heap.size) (hi1 : i < x.chunks.length) (h0 : 0 ≤ x.chunks[i].rule) (h1 : x.chunks[i].rule < (vals.length : Int)) :
    Calls Try.prog 114 #[x.v ra rc ca cc sa sc ta tc, .slice va vals.length vc, .int .i64 i] w fun e w' => e = .returned (.bool (splitsAt x vals i)) ∧ Below w.heap.size w w' := by
  obtain ⟨hr, hc, hsp, ht⟩ := hp
  obtain ⟨hcl, hc5⟩ := at_chunk hc
  obtain ⟨hvl, hv5⟩ := at_int hv
  obtain ⟨B, HB⟩ : ∃ B, Hid (B = w.heap.size) := ⟨_, rfl⟩
  have hBw : B ≤ w.heap.size := Nat.le_of_eq HB.out
  have hBw' : w.heap.size ≤ B := Nat.le_of_eq HB.out.symm
  have HS := Lib.hid (show splitsAt x vals i = decide (x.chunks[i].fro ≤ vals.getD x.chunks[i].rule.toNat 0) by rw [splitsAt, chunkAt_lt hi1])
  obtain ⟨b, off, rfl, hlo, hhi, c0, c1, c2, c3, c4⟩ := hc5 i hi1
  have hki : (i : Int) < (x.chunks.length : Int) := by omega
  have hkz : (0 : Int) ≤ (i : Int) := by omega
  clear hc5 c0
  generalize x.chunks[i] = ck at *
  obtain ⟨text, rule, fro, space, nest⟩ := ck
  simp only at c1 c2 c3 c4 h0 h1 HS
  obtain ⟨rn, rfl⟩ := Int.eq_ofNat_of_zero_le h0
  have hrn : rn < vals.length := by omega
  have HS2 : Hid (splitsAt x vals i = decide (fro ≤ vals[rn])) := HS.out.trans (by rw [Int.toNat_natCast, getD_at hrn])
  obtain ⟨b1, o1, rfl, l1, l2, m0⟩ := hv5 rn hrn
  clear HS hv5
  generalize vals[rn] = vr at *
  have hb0 : Below B w (w.alloc (.cells #[.int .i64 x.indent, .slice ra x.rules.length rc, .slice (some ⟨b, off, none⟩) x.chunks.length cc, .slice sa x.spans.length sc, .slice ta x.ties.length tc] 29)) := (Below.refl _ _).alloc hBw _
  have hb1 := hb0.alloc (by simp; omega) (.cells #[.int .i64 rn, .int .i64 fro, .bool space, .int .i64 nest] 54)
  have d1 := (hb0.cell (p := ⟨b, _, none⟩) (by show b < _; omega)).trans c1
  have d2 := (hb0.cell (p := ⟨b, _, none⟩) (by show b < _; omega)).trans c2
  have d3 := (hb0.cell (p := ⟨b, _, none⟩) (by show b < _; omega)).trans (show w.cell? ⟨b, off + i * 5 + 1 + 2, none⟩ = some (.bool space) from c3)
  have d4 := (hb0.cell (p := ⟨b, _, none⟩) (by show b < _; omega)).trans (show w.cell? ⟨b, off + i * 5 + 1 + 3, none⟩ = some (.int .i64 nest) from c4)
  have n0 := (hb1.cell (p := ⟨b1, _, none⟩) (by show b1 < _; omega)).trans m0
  clear c1 c2 c3 c4 m0 hb0
  unfold Piece.v
  go_enter Try.func114, Try.ntmps114
  go_wp2
  go_quiet (fail)
  go_wp2
  go_ret
  exact ⟨ret_bool HS2.out.symm, by rw [← HB.out]; exact blw_drewN hb1 _⟩
set_option maxHeartbeats 1000000 in
set_option maxRecDepth 100000 in
theorem valuesOk_impl (x : Piece) (vals : List Int) (ra ca sa ta va : Option Addr) (rc cc sc tc vc lo hi lo' hi' : Nat) (w : World) (hrl : x.rules.length ≤ 9223372036854775807) (hr5 : ∀ k (h : k < x.rules.length), ∃ b off, ra = some ⟨b, off, none⟩ ∧ lo ≤ b ∧ b < hi ∧ w.cell? ⟨b, off + k * 2, none⟩ = some (.int .i64 x.rules[k].values)) (hh : hi ≤ w.heap.size) (hv : Rd intF.shape lo' hi' w (.slice va vals.length vc) vals) (hh' : hi' ≤ w.heap.size) :
    Calls Try.prog 73 #[x.v ra rc ca cc sa sc ta tc, .slice va vals.length vc] w fun e w' => e = .returned (.bool (valuesOk x.rules vals)) ∧ Below w.heap.size w w' := by
  obtain ⟨hvl, hv5⟩ := at_int hv
  obtain ⟨B, HB⟩ : ∃ B, Hid (B = w.heap.size) := ⟨_, rfl⟩
  have hBw : B ≤ w.heap.size := Nat.le_of_eq HB.out
  have hBw' : w.heap.size ≤ B := Nat.le_of_eq HB.out.symm
  unfold Piece.v
  by_cases hn : vals.length = x.rules.length
  case neg =>
    have HF := Lib.hid (show valuesOk x.rules vals = false by rw [valuesOk_eq, decide_eq_false hn]; rfl)
    have hni : ((vals.length : Int) != (x.rules.length : Int)) = true := by simp; omega
    go_enter Try.func73, Try.ntmps73
    go_wp2
    go_ret
    exact ⟨ret_bool HF.out.symm, by rw [← HB.out]; exact (Below.refl _ _).alloc hBw _⟩
  have HV := Lib.hid (show valuesOk x.rules vals = (List.range vals.length).all (valAt x.rules vals) by rw [valuesOk_eq, decide_eq_true hn]; rfl)
  have hni : ((vals.length : Int) != (x.rules.length : Int)) = false := by simp; omega
  have hn1 : vals.length ≤ x.rules.length := by omega
  have hn2 : x.rules.length ≤ vals.length := by omega
  clear hn
  have hX0 := PBox.new x ra ca sa ta rc cc sc tc w
  have hb0 : Below B w (w.alloc (.cells #[.int .i64 x.indent, .slice ra x.rules.length rc, .slice ca x.chunks.length cc, .slice sa x.spans.length sc, .slice ta x.ties.length tc] 29)) := (Below.refl _ _).alloc hBw _
  go_enter Try.func73, Try.ntmps73
  go_wp2
  generalize w.alloc (.cells #[.int .i64 x.indent, .slice ra x.rules.length rc, .slice ca x.chunks.length cc, .slice sa x.spans.length sc, .slice ta x.ties.length tc] 29) = w0 at *
  clear hni
  go_loopw [15] (fun i wr => ∃ k : Nat, k ≤ vals.length ∧ i = .int .i64 k ∧ Hid ((List.range k).all (valAt x.rules vals) = true) ∧ Below B w wr ∧ PBox x ra rc ca cc sa sc ta tc w.heap.size wr) (fun i _ => vals.length - (intOf i).toNat)
  case atStart => exact ⟨0, Nat.zero_le _, rfl, rfl, hb0, hX0⟩
  case round =>
    obtain ⟨k, hk, rfl, HA, hb, hX⟩ := hrel
    have hsz := hb.size
    have hxl := hX.lt
    obtain ⟨p0, p1, p2, p3, p4⟩ := hX.five
    by_cases hlt : k < vals.length
    · have hki : (k : Int) < (vals.length : Int) := by omega
      have hkz : (0 : Int) ≤ (k : Int) := by omega
      have hkr : k < x.rules.length := by omega
      have hkri : (k : Int) < (x.rules.length : Int) := by omega
      obtain ⟨b, off, rfl, hlo, hhi, c0⟩ := hr5 k hkr
      obtain ⟨b1, o1, rfl, l1, l2, m0⟩ := hv5 k hlt
      have d0 := (hb.cell (p := ⟨b, _, none⟩) (by show b < _; omega)).trans c0
      have n0 := (hb.cell (p := ⟨b1, _, none⟩) (by show b1 < _; omega)).trans m0
      have HN := Lib.hid (fun h : valAt x.rules vals k = false => (HV.out.trans (range_all_no hlt h) : valuesOk x.rules vals = false))
      have HI := Lib.hid (valAt_at hlt hkr)
      clear c0 m0 hr5 hv5 HV
      generalize x.rules[k].values = rv at *
      generalize vals[k] = vk at *
      obtain ⟨m, hm⟩ : ∃ m, m = wrap64 (rv - 1) := ⟨_, rfl⟩
      rw [← hm] at HI
      have hm2 : IntKind.i64.wrap (rv - 1) = m := (IntWalk.i64_left _).trans hm.symm
      replace hm := hm.symm
      go_wp2_with fail
      refine (inRange_any vk 0 m _).mono ?_
      rintro e w' ⟨rfl, rfl⟩
      cases g1 : inR vk 0 m with
      | false =>
        have HF := Lib.hid (HN.out (HI.out.trans g1))
        go_wp2
        go_ret
        exact ⟨ret_bool HF.out.symm, by rw [← HB.out]; exact hb⟩
      | true =>
        have G1 := Lib.hid (HI.out.trans g1)
        go_wp2
        go_roundw
        case rel => exact ⟨k + 1, by omega, by go_num, range_all_succ HA.out G1.out, hb, hX⟩
        case measure => simp [intOf]; omega
    · have hki : ¬ (k : Int) < (vals.length : Int) := by omega
      have HF : Hid (valuesOk x.rules vals = true) := by have e := HA.out; rw [show k = vals.length by omega] at e; exact HV.out.trans e
      go_wp2
      go_ret
      exact ⟨ret_bool HF.out.symm, by rw [← HB.out]; exact hb⟩
set_option maxHeartbeats 1000000 in
set_option maxRecDepth 100000 in
theorem valsOk_impl (x : Piece) (vals : List Int) (ra ca sa ta va : Option Addr) (rc cc sc tc vc lo hi lo' hi' : Nat) (w : World) (hp : PFour x ra rc ca cc sa sc ta tc lo hi w) (hh : hi ≤ w.heap.size) (hv : Rd intF.shape lo' hi' w (.slice va vals.length vc) vals) (hh' : hi' ≤ w.heap.size) :
    Calls Try.prog 68 #[x.v ra rc ca cc sa sc ta tc, .slice va vals.length vc] w fun e w' => e = .returned (.bool (firstOk x.rules vals)) ∧ Below w.heap.size w w' := by
  obtain ⟨hr, hc, hsp, ht⟩ := hp
  obtain ⟨hrl, hr5⟩ := at_rule hr
  obtain ⟨ra1, rc1, er, k2, k3, k4, k5⟩ := hr.ruleF
  obtain ⟨rfl, _, rfl⟩ : ra = ra1 ∧ x.rules.length = x.rules.length ∧ rc = rc1 := by injection er with e1 _ e2; exact ⟨e1, rfl, e2⟩
  clear er k5
  unfold maxLen at k3
  have hvl := hv.len_le
  obtain ⟨B, HB⟩ : ∃ B, Hid (B = w.heap.size) := ⟨_, rfl⟩
  have hBw : B ≤ w.heap.size := Nat.le_of_eq HB.out
  have hBw' : w.heap.size ≤ B := Nat.le_of_eq HB.out.symm
  unfold Piece.v
  have hX0 := PBox.new x ra ca sa ta rc cc sc tc w
  have hb0 : Below B w (w.alloc (.cells #[.int .i64 x.indent, .slice ra x.rules.length rc, .slice ca x.chunks.length cc, .slice sa x.spans.length sc, .slice ta x.ties.length tc] 29)) := (Below.refl _ _).alloc hBw _
  have hs0 := hb0.size
  by_cases hn : x.rules.length < vals.length
  · have HF := Lib.hid (firstOk_no hn)
    have hni : (x.rules.length : Int) < (vals.length : Int) := by omega
    go_enter Try.func68, Try.ntmps68
    go_wp2
    go_ret
    exact ⟨ret_bool HF.out.symm, by rw [← HB.out]; exact hb0⟩
  have hni : ¬ (x.rules.length : Int) < (vals.length : Int) := by omega
  have hcp : (vals.length : Int) ≤ (rc : Int) := by omega
  have HV := Lib.hid (valuesOk_take (rs := x.rules) (vals := vals) (by omega))
  go_enter Try.func68, Try.ntmps68
  go_wp2_with fail
  have hl : (x.rules.take vals.length).length = vals.length := by rw [List.length_take]; omega
  have HC := valuesOk_impl ⟨0, x.rules.take vals.length, [], [], []⟩ vals ra none none none va rc 0 0 0 vc lo hi lo' hi' (w.alloc (.cells #[.int .i64 x.indent, .slice ra x.rules.length rc, .slice ca x.chunks.length cc, .slice sa x.spans.length sc, .slice ta x.ties.length tc] 29))
    (by rw [hl]; exact hvl) (fun k hk => by
      have hk' : k < x.rules.length := by rw [hl] at hk; omega
      obtain ⟨b, off, e1, e2, e3, c0, _⟩ := hr5 k hk'
      refine ⟨b, off, e1, e2, e3, ?_⟩
      rw [List.getElem_take]
      exact (hb0.cell (p := ⟨b, _, none⟩) (by show b < _; omega)).trans c0) (by omega) (hv.below hb0 (by omega)) (by omega)
  unfold Piece.v at HC
  simp only [hl, List.length_nil] at HC
  refine HC.mono ?_
  rintro e w1 ⟨rfl, k1⟩
  rw [HV.out]
  go_wp2
  go_ret
  exact ⟨rfl, by rw [← HB.out]; exact hb0.trans (k1.mono (by omega))⟩
set_option maxHeartbeats 1000000 in
set_option maxRecDepth 100000 in
theorem spanSplits_impl (x : Piece) (vals : List Int) (ra ca sa ta va : Option Addr) (rc cc sc tc vc lo hi lo' hi' : Nat) (s : Span) (w : World) (hp : PFour x ra rc ca cc sa sc ta tc lo hi w) (hh : hi ≤ w.heap.size) (hv : Rd intF.shape lo' hi' w (.slice va vals.length vc) vals) (hh' : hi' ≤ w.heap.size) (hx : Right x) (s1 : 0 ≤ s.fro) (s2 : s.fro ≤ s.til) (s3 : s.til + 2 ≤ (x.chunks.length : Int)) :
    Calls Try.prog 111 #[x.v ra rc ca cc sa sc ta tc, .slice va vals.length vc, s.v] w fun e w' => e = .returned (.bool (splitSpan x vals s)) ∧ Below w.heap.size w w' := by
  have hp0 := hp
  obtain ⟨hr, hc, hsp, ht⟩ := hp
  obtain ⟨hcl, hc5⟩ := at_chunk hc
  have hvl := hv.len_le
  have hnl := hx.chunks.2
  obtain ⟨fro, til, cost⟩ := s
  simp only at s1 s2 s3
  obtain ⟨fa, rfl⟩ := Int.eq_ofNat_of_zero_le s1
  obtain ⟨tb, rfl⟩ := Int.eq_ofNat_of_zero_le (Int.le_trans s1 s2)
  have HG : Hid (splitSpan x vals ⟨fa, tb, cost⟩ = anyAt x vals fa (tb + 1)) := rfl
  obtain ⟨B, HB⟩ : ∃ B, Hid (B = w.heap.size) := ⟨_, rfl⟩
  have hBw : B ≤ w.heap.size := Nat.le_of_eq HB.out
  have hBw' : w.heap.size ≤ B := Nat.le_of_eq HB.out.symm
  unfold Piece.v Span.v
  obtain ⟨A0, Z0⟩ := heap_two w (.cells #[.int .i64 x.indent, .slice ra x.rules.length rc, .slice ca x.chunks.length cc, .slice sa x.spans.length sc, .slice ta x.ties.length tc] 29) (.cells #[.int .i64 fa, .int .i64 tb, .int .i64 cost] 121)
  have hX0 : PBox x ra rc ca cc sa sc ta tc w.heap.size ((w.alloc (.cells #[.int .i64 x.indent, .slice ra x.rules.length rc, .slice ca x.chunks.length cc, .slice sa x.spans.length sc, .slice ta x.ties.length tc] 29)).alloc (.cells #[.int .i64 fa, .int .i64 tb, .int .i64 cost] 121)) := A0
  have hb0 : Below B w ((w.alloc (.cells #[.int .i64 x.indent, .slice ra x.rules.length rc, .slice ca x.chunks.length cc, .slice sa x.spans.length sc, .slice ta x.ties.length tc] 29)).alloc (.cells #[.int .i64 fa, .int .i64 tb, .int .i64 cost] 121)) := ((Below.refl _ _).alloc hBw _).alloc (by simp; omega) _
  clear A0
  go_enter Try.func111, Try.ntmps111
  go_wp2
  generalize (w.alloc (.cells #[.int .i64 x.indent, .slice ra x.rules.length rc, .slice ca x.chunks.length cc, .slice sa x.spans.length sc, .slice ta x.ties.length tc] 29)).alloc (.cells #[.int .i64 fa, .int .i64 tb, .int .i64 cost] 121) = w0 at *
  go_loopw [7] (fun i wr => ∃ k : Nat, fa ≤ k ∧ k ≤ tb + 1 ∧ i = .int .i64 k ∧ Hid (anyAt x vals fa k = false) ∧ Below B w wr ∧ PBox x ra rc ca cc sa sc ta tc w.heap.size wr ∧ wr.heap[w.heap.size + 1]? = some (.cells #[.int .i64 fa, .int .i64 tb, .int .i64 cost] 121)) (fun i _ => tb + 1 - (intOf i).toNat)
  case atStart => exact ⟨fa, Nat.le_refl _, by omega, rfl, anyAt_none (Nat.le_refl _), hb0, hX0, Z0⟩
  case round =>
    obtain ⟨k, hk1, hk2, rfl, HA, hb, hX, hS⟩ := hrel
    have hsz := hb.size
    have hxl := hX.lt
    obtain ⟨p0, p1, p2, p3, p4⟩ := hX.five
    have q1 := cell_heap (j := 1) hS rfl
    by_cases hlt : k < tb + 1
    · have hki : (k : Int) ≤ (tb : Int) := by omega
      have hkz : (0 : Int) ≤ (k : Int) := by omega
      have hkc : k < x.chunks.length := by omega
      have hkci : (k : Int) < (x.chunks.length : Int) := by omega
      have hck := chunk_of hx (i := k) (by omega)
      have HI := Lib.hid (show spanAt x vals k = (decide (x.chunks[k].rule < (vals.length : Int)) && splitsAt x vals k) by rw [spanAt, chunkAt_lt hkc])
      have HY := Lib.hid (fun h : spanAt x vals k = true => HG.out.trans (anyAt_yes hk1 hlt h))
      have HN := Lib.hid (fun h : spanAt x vals k = false => (by rw [anyAt_succ hk1, HA.out, h]; rfl : anyAt x vals fa (k + 1) = false))
      have HK := Lib.hid (fun z : x.chunks[k].rule < (vals.length : Int) => splits_impl x vals ra ca sa ta va rc cc sc tc vc k lo hi lo' hi' wr (hp0.below hb (by omega)) (by omega) (hv.below hb (by omega)) (by omega) hkc hck.1 z)
      unfold Piece.v at HK
      obtain ⟨b, off, rfl, hlo, hhi, c0, c1, c2, c3, c4⟩ := hc5 k hkc
      have d1 := (hb.cell (p := ⟨b, _, none⟩) (by show b < _; omega)).trans c1
      clear c0 c1 c2 c3 c4 hc5 hck
      generalize x.chunks[k].rule = rl at *
      by_cases z : rl < (vals.length : Int)
      · go_wp2_with fail
        refine (HK.out z).mono ?_
        rintro e w2 ⟨rfl, k2⟩
        cases g1 : splitsAt x vals k with
        | true =>
          have HF := Lib.hid (HY.out (by rw [HI.out, g1, decide_eq_true z]; rfl))
          go_wp2
          go_ret
          exact ⟨ret_bool HF.out.symm, by rw [← HB.out]; exact hb.trans (k2.mono (by omega))⟩
        | false =>
          have HF := Lib.hid (HN.out (by rw [HI.out, g1]; simp))
          have hb2 := hb.trans (k2.mono (by omega))
          have hX2 := hX.below k2
          have hS2 := blk k2 hS
          go_wp2
          go_roundw
          case rel => exact ⟨k + 1, by omega, by omega, by go_num, HF.out, hb2, hX2, hS2⟩
          case measure => simp [intOf]; omega
      · have HF := Lib.hid (HN.out (by rw [HI.out, decide_eq_false z]; rfl))
        have zd : decide (rl < (vals.length : Int)) = false := decide_eq_false z
        go_wp2
        go_roundw
        case rel => exact ⟨k + 1, by omega, by omega, by go_num, HF.out, hb, hX, hS⟩
        case measure => simp [intOf]; omega
    · have hki : ¬ (k : Int) ≤ (tb : Int) := by omega
      have HF : Hid (splitSpan x vals ⟨fa, tb, cost⟩ = false) := by have e := HA.out; rw [show k = tb + 1 by omega] at e; exact HG.out.trans e
      go_wp2
      go_ret
      exact ⟨ret_bool HF.out.symm, by rw [← HB.out]; exact hb⟩
set_option maxHeartbeats 1000000 in
set_option maxRecDepth 100000 in
theorem bound_impl (x : Piece) (vals : List Int) (ra ca sa ta va : Option Addr) (rc cc sc tc vc lo hi lo' hi' : Nat) (w : World) (hp : PFour x ra rc ca cc sa sc ta tc lo hi w) (hh : hi ≤ w.heap.size) (hv : Rd intF.shape lo' hi' w (.slice va vals.length vc) vals) (hh' : hi' ≤ w.heap.size) (hx : Right x) (hvr : RightV x vals) :
    Calls Try.prog 69 #[x.v ra rc ca cc sa sc ta tc, .slice va vals.length vc] w fun e w' => e = .returned (.int .i64 (boundOf x vals)) ∧ Below w.heap.size w w' := by
  have hp0 := hp
  obtain ⟨hr, hc, hsp, ht⟩ := hp
  obtain ⟨hrl, hr5⟩ := at_rule hr
  obtain ⟨hspl, hsp5⟩ := at_span hsp
  obtain ⟨hvl, hv5⟩ := at_int hv
  have hl1 := hx.rules
  have hl2 := hx.spans
  have hl3 := hvr.len
  obtain ⟨B, HB⟩ : ∃ B, Hid (B = w.heap.size) := ⟨_, rfl⟩
  have hBw : B ≤ w.heap.size := Nat.le_of_eq HB.out
  have hBw' : w.heap.size ≤ B := Nat.le_of_eq HB.out.symm
  unfold Piece.v
  have hX0 := PBox.new x ra ca sa ta rc cc sc tc w
  have hb0 : Below B w (w.alloc (.cells #[.int .i64 x.indent, .slice ra x.rules.length rc, .slice ca x.chunks.length cc, .slice sa x.spans.length sc, .slice ta x.ties.length tc] 29)) := (Below.refl _ _).alloc hBw _
  have hs0 := hb0.size
  go_enter Try.func69, Try.ntmps69
  go_wp2
  generalize w.alloc (.cells #[.int .i64 x.indent, .slice ra x.rules.length rc, .slice ca x.chunks.length cc, .slice sa x.spans.length sc, .slice ta x.ties.length tc] 29) = w0 at *
  have hxl0 := hX0.lt
  obtain ⟨p0, p1, p2, p3, p4⟩ := hX0.five
  go_loopw [5, 12] (fun sm i wr => ∃ k : Nat, k ≤ vals.length ∧ i = .int .i64 k ∧ sm = .int .i64 (costTo x vals k) ∧ w0 = wr) (fun _ i _ => vals.length - (intOf i).toNat)
  case atStart => exact ⟨0, Nat.zero_le _, rfl, rfl, rfl⟩
  case round =>
    obtain ⟨k, hk, rfl, rfl, rfl⟩ := hrel
    by_cases hlt : k < vals.length
    · have hki : (k : Int) < (vals.length : Int) := by omega
      have hkz : (0 : Int) ≤ (k : Int) := by omega
      have hkr : k < x.rules.length := by omega
      have hkri : (k : Int) < (x.rules.length : Int) := by omega
      have HS := Lib.hid (costTo_succ (x := x) hlt hkr)
      obtain ⟨n1, n2⟩ := costTo_bd hx hvr k hk
      obtain ⟨m1, m2⟩ := mul_bd (hvr.val k hlt) (hx.rule k hkr).2.2
      obtain ⟨b, off, rfl, hlo, hhi, c0, c1⟩ := hr5 k hkr
      obtain ⟨b1, o1, rfl, l1, l2, m0⟩ := hv5 k hlt
      have d1 := (hb0.cell (p := ⟨b, _, none⟩) (by show b < _; omega)).trans c1
      have n0 := (hb0.cell (p := ⟨b1, _, none⟩) (by show b1 < _; omega)).trans m0
      clear c0 c1 m0 hr5 hv5
      generalize x.rules[k].cost = ck at *
      generalize vals[k] = vk at *
      generalize costTo x vals k = sk at *
      have wm : IntKind.i64.wrap (vk * ck) = vk * ck := IntWalk.i64_in _ (by omega)
      have ws : IntKind.i64.wrap (sk + vk * ck) = sk + vk * ck := IntWalk.i64_in _ (by omega)
      go_wp2
      go_roundw
      case rel => exact ⟨k + 1, by omega, by go_num, by rw [HS.out], trivial⟩
      case measure => simp [intOf]; omega
    · have hki : ¬ (k : Int) < (vals.length : Int) := by omega
      have HK := Lib.hid (show costTo x vals k = costTo x vals vals.length by rw [show k = vals.length by omega])
      obtain ⟨n1, n2⟩ := costTo_bd hx hvr k hk
      generalize costTo x vals k = sk at *
      go_wp2
      clear p0 p1 p2 p3 p4
      go_loopw [5, 31] (fun sm i wr => ∃ k : Nat, k ≤ x.spans.length ∧ i = .int .i64 k ∧ sm = .int .i64 (sk + spanTo x vals k) ∧ Below B w wr ∧ PBox x ra rc ca cc sa sc ta tc w.heap.size wr) (fun _ i _ => x.spans.length - (intOf i).toNat)
      case atStart => exact ⟨0, Nat.zero_le _, rfl, by rw [show spanTo x vals 0 = 0 from rfl, Int.add_zero], hb0, hX0⟩
      case round =>
        obtain ⟨j, hj, rfl, rfl, hb, hX⟩ := hrel
        have hsz := hb.size
        have hxl := hX.lt
        obtain ⟨p0, p1, p2, p3, p4⟩ := hX.five
        obtain ⟨r1, r2⟩ := spanTo_bd (v := vals) hx j hj
        by_cases hjt : j < x.spans.length
        · have hji : (j : Int) < (x.spans.length : Int) := by omega
          have hjz : (0 : Int) ≤ (j : Int) := by omega
          have HS := Lib.hid (spanTo_succ (v := vals) hjt)
          obtain ⟨y1, y2, y3, y4, y5⟩ := hx.span j hjt
          obtain ⟨b, off, rfl, hlo, hhi, c0, c1, c2⟩ := hsp5 j hjt
          have d0 := (hb.cell (p := ⟨b, _, none⟩) (by show b < _; omega)).trans c0
          have d1 := (hb.cell (p := ⟨b, _, none⟩) (by show b < _; omega)).trans c1
          have d2 := (hb.cell (p := ⟨b, _, none⟩) (by show b < _; omega)).trans c2
          have d2' : wr.cell? ⟨b, off + j * 3 + 2, none⟩ = some (.int .i64 x.spans[j].cost) := d2
          clear c0 c1 c2 hsp5
          generalize spanTo x vals j = tj at *
          generalize x.spans[j] = s at *
          obtain ⟨fro, til, cost⟩ := s
          simp only at d0 d1 d2 d2' y1 y2 y3 y4 y5 HS
          have hX1 := hX.alloc (.cells #[.int .i64 fro, .int .i64 til, .int .i64 cost] 121)
          have hb1 := hb.alloc (by omega) (.cells #[.int .i64 fro, .int .i64 til, .int .i64 cost] 121)
          have hS1 := heap_alloc_new wr (.cells #[.int .i64 fro, .int .i64 til, .int .i64 cost] 121)
          obtain ⟨q0, q1, q2, q3, q4⟩ := hX1.five
          have hs1 := hb1.size
          have HK := Lib.hid (spanSplits_impl x vals ra ca (some ⟨b, off, none⟩) ta va rc cc sc tc vc lo hi lo' hi' ⟨fro, til, cost⟩ _ (hp0.below hb1 (by omega)) (by omega) (hv.below hb1 (by omega)) (by omega) hx y1 y2 y3)
          unfold Piece.v Span.v at HK
          go_wp2_with fail
          refine HK.out.mono ?_
          rintro e w2 ⟨rfl, k2⟩
          have hb2 := hb1.trans (k2.mono (by omega))
          have hX2 := hX1.below k2
          have hS2 := cell_heap (j := 2) (blk k2 hS1) rfl
          cases g1 : splitSpan x vals ⟨fro, til, cost⟩ with
          | true =>
            have HT := Lib.hid (show spanTo x vals (j + 1) = tj + cost by rw [HS.out, g1]; rfl)
            clear HS g1
            have ws : IntKind.i64.wrap (sk + tj + cost) = sk + tj + cost := IntWalk.i64_in _ (by omega)
            go_wp2
            go_roundw
            case rel => exact ⟨j + 1, by omega, by go_num, by rw [HT.out, Int.add_assoc], hb2, hX2⟩
            case measure => simp [intOf]; omega
          | false =>
            have HT := Lib.hid (show spanTo x vals (j + 1) = tj by rw [HS.out, g1]; exact Int.add_zero _)
            clear HS g1
            go_wp2
            go_roundw
            case rel => exact ⟨j + 1, by omega, by go_num, by rw [HT.out], hb2, hX2⟩
            case measure => simp [intOf]; omega
        · have hji : ¬ (j : Int) < (x.spans.length : Int) := by omega
          have HF := Lib.hid (show boundOf x vals = sk + spanTo x vals j by rw [boundOf, HK.out, show j = x.spans.length by omega])
          go_wp2
          go_ret
          exact ⟨ret_int HF.out.symm, by rw [← HB.out]; exact hb⟩
set_option maxHeartbeats 1000000 in
set_option maxRecDepth 100000 in
theorem bound_top (x : Piece) (vals : List Int) (ra ca sa ta va : Option Addr) (rc cc sc tc vc lo hi lo' hi' : Nat) (w : World) (hp : PFour x ra rc ca cc sa sc ta tc lo hi w) (hh : hi ≤ w.heap.size) (hv : Rd intF.shape lo' hi' w (.slice va vals.length vc) vals) (hh' : hi' ≤ w.heap.size) (hT : ∀ c ∈ x.chunks, c.text.size ≤ maxLen) :
    Calls Try.prog 23 #[x.v ra rc ca cc sa sc ta tc, .slice va vals.length vc] w fun e w' => e = .returned (.int .i64 (boundB x vals)) ∧ Below w.heap.size w w' := by
  obtain ⟨B, HB⟩ : ∃ B, Hid (B = w.heap.size) := ⟨_, rfl⟩
  have hBw : B ≤ w.heap.size := Nat.le_of_eq HB.out
  have hBw' : w.heap.size ≤ B := Nat.le_of_eq HB.out.symm
  unfold Piece.v
  have hX0 := PBox.new x ra ca sa ta rc cc sc tc w
  have hb0 : Below B w (w.alloc (.cells #[.int .i64 x.indent, .slice ra x.rules.length rc, .slice ca x.chunks.length cc, .slice sa x.spans.length sc, .slice ta x.ties.length tc] 29)) := (Below.refl _ _).alloc hBw _
  have hs0 := hb0.size
  go_enter Try.func23, Try.ntmps23
  go_wp2_with fail
  generalize w.alloc (.cells #[.int .i64 x.indent, .slice ra x.rules.length rc, .slice ca x.chunks.length cc, .slice sa x.spans.length sc, .slice ta x.ties.length tc] 29) = w0 at *
  have HK := valsOk_impl x vals ra ca sa ta va rc cc sc tc vc lo hi lo' hi' _ (hp.below hb0 (by omega)) (by omega) (hv.below hb0 (by omega)) (by omega)
  unfold Piece.v at HK
  refine HK.mono ?_
  clear HK
  rintro e w1 ⟨rfl, k1⟩
  have hb1 := hb0.trans (k1.mono (by omega))
  have hs1 := hb1.size
  have hX1 := hX0.below k1
  obtain ⟨p0, p1, p2, p3, p4⟩ := hX1.five
  cases g1 : firstOk x.rules vals with
  | false =>
    have HF := Lib.hid (show boundB x vals = 0 by rw [boundB, g1]; rfl)
    go_wp2
    go_ret
    exact ⟨ret_int HF.out.symm, by rw [← HB.out]; exact hb1⟩
  | true =>
  have HK := pieceOk_impl x ra ca sa ta rc cc sc tc lo hi _ (hp.below hb1 (by omega)) (by omega) hT
  unfold Piece.v at HK
  replace HK := Lib.hid HK
  go_wp2_with fail
  refine HK.out.mono ?_
  clear HK
  rintro e w2 ⟨rfl, k2⟩
  have hb2 := hb1.trans (k2.mono (by omega))
  have hs2 := hb2.size
  have hX2 := hX1.below k2
  clear p0 p1 p2 p3 p4
  obtain ⟨p0, p1, p2, p3, p4⟩ := hX2.five
  cases g2 : pieceOk x with
  | false =>
    have HF := Lib.hid (show boundB x vals = 0 by rw [boundB, g1, g2]; rfl)
    go_wp2
    go_ret
    exact ⟨ret_int HF.out.symm, by rw [← HB.out]; exact hb2⟩
  | true =>
  have HF := Lib.hid (show boundB x vals = boundOf x vals by rw [boundB, g1, g2]; rfl)
  have hx := right_of g2
  have HK := bound_impl x vals ra ca sa ta va rc cc sc tc vc lo hi lo' hi' _ (hp.below hb2 (by omega)) (by omega) (hv.below hb2 (by omega)) (by omega) hx (rightV_of hx g1)
  unfold Piece.v at HK
  replace HK := Lib.hid HK
  clear g1 g2
  go_wp2_with fail
  refine HK.out.mono ?_
  clear HK
  rintro e w3 ⟨rfl, k3⟩
  go_wp2
  go_ret
  exact ⟨ret_int HF.out.symm, by rw [← HB.out]; exact hb2.trans (k3.mono (by omega))⟩
end Go.Proofs.Ytllpgomloblfjaa
