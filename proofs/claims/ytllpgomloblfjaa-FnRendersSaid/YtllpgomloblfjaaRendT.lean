/- By how much lines are too long, and what values cost, of the reference. -/
import Derived.Test.YtllpgomloblfjaaRendJ
import Derived.Test.YtllpgomloblfjaaBoundS
import Derived.BigQuiet
import Derived.Deep.Cut
namespace Go.Proofs.Ytllpgomloblfjaa
open Go.RowKit

set_option maxHeartbeats 1000000 in
set_option maxRecDepth 100000 in
theorem l08At_any (x : Piece) (vals : List Int) (ra ca sa ta va : Option Addr) (rc cc sc tc vc i lo hi lo' hi' : Nat) (w : World) (hp : PFour x ra rc ca cc sa sc ta tc lo hi w) (hh : hi ≤ w.heap.size) (hv : Rd intF.shape lo' hi' w (.slice va vals.length vc) vals) (hh' : hi' ≤ w.heap.size) (hi1 : i < x.chunks.length) (h0 : 0 ≤ x.chunks[i].rule) (h1 : x.chunks[i].rule < (vals.length : Int)) :
    Calls Try.prog 75 #[x.v ra rc ca cc sa sc ta tc, .slice va vals.length vc, .int .i64 i] w fun e w' => e = .returned (.bool (splitsAt x vals i)) ∧ Below w.heap.size w w' := by
  obtain ⟨hr, hc, hsp, ht⟩ := hp
  obtain ⟨hcl, hc5⟩ := at_chunk hc
  obtain ⟨hvl, hv5⟩ := at_int hv
  obtain ⟨B, HB⟩ : ∃ B, Hid (B = w.heap.size) := ⟨_, rfl⟩
  have hBw : B ≤ w.heap.size := Nat.le_of_eq HB.out
  have hBw' : w.heap.size ≤ B := Nat.le_of_eq HB.out.symm
  have HS := Lib.hid (show splitsAt x vals i = decide (x.chunks[i].fro ≤ vals.getD x.chunks[i].rule.toNat 0) by rw [splitsAt, chunkAt_lt hi1])
  obtain ⟨b, off, rfl, hlo, hhi, c0, c1, c2, c3, c4⟩ := hc5 i hi1
  have hki : (i : Int) < (x.chunks.length : Int) := by omega
  have hkz : (0 : Int) ≤ (i : Int) := by omega
  clear hc5 c0
  generalize x.chunks[i] = ck at *
  obtain ⟨text, rule, fro, space, nest⟩ := ck
  simp only at c1 c2 c3 c4 h0 h1 HS
  obtain ⟨rn, rfl⟩ := Int.eq_ofNat_of_zero_le h0
  have hrn : rn < vals.length := by omega
  have HS2 : Hid (splitsAt x vals i = decide (fro ≤ vals[rn])) := HS.out.trans (by rw [Int.toNat_natCast, getD_at hrn])
  obtain ⟨b1, o1, rfl, l1, l2, m0⟩ := hv5 rn hrn
  clear HS hv5
  generalize vals[rn] = vr at *
  have hb0 : Below B w (w.alloc (.cells #[.int .i64 x.indent, .slice ra x.rules.length rc, .slice (some ⟨b, off, none⟩) x.chunks.length cc, .slice sa x.spans.length sc, .slice ta x.ties.length tc] 29)) := (Below.refl _ _).alloc hBw _
  have hb1 := hb0.alloc (by simp; omega) (.cells #[.int .i64 rn, .int .i64 fro, .bool space, .int .i64 nest] 54)
  have d1 := (hb0.cell (p := ⟨b, _, none⟩) (by show b < _; omega)).trans c1
  have d2 := (hb0.cell (p := ⟨b, _, none⟩) (by show b < _; omega)).trans c2
  have d3 := (hb0.cell (p := ⟨b, _, none⟩) (by show b < _; omega)).trans (show w.cell? ⟨b, off + i * 5 + 1 + 2, none⟩ = some (.bool space) from c3)
  have d4 := (hb0.cell (p := ⟨b, _, none⟩) (by show b < _; omega)).trans (show w.cell? ⟨b, off + i * 5 + 1 + 3, none⟩ = some (.int .i64 nest) from c4)
  have n0 := (hb1.cell (p := ⟨b1, _, none⟩) (by show b1 < _; omega)).trans m0
  clear c1 c2 c3 c4 m0 hb0
  unfold Piece.v
  go_enter Try.func75, Try.ntmps75
  go_wp2
  go_quiet (fail)
  go_wp2
  go_ret
  exact ⟨ret_bool HS2.out.symm, by rw [← HB.out]; exact blw_drewN hb1 _⟩
set_option maxHeartbeats 2000000 in
set_option maxRecDepth 100000 in
theorem l09Sum_any (x : Piece) (vals : List Int) (ra ca sa ta va : Option Addr) (rc cc sc tc vc lo hi lo' hi' : Nat) (w : World) (hp : PFour x ra rc ca cc sa sc ta tc lo hi w) (hh : hi ≤ w.heap.size) (hv : Rd intF.shape lo' hi' w (.slice va vals.length vc) vals) (hh' : hi' ≤ w.heap.size) (hx : Right x) (hvr : RightV x vals) (hfull : vals.length = x.rules.length) :
    Calls Try.prog 108 #[x.v ra rc ca cc sa sc ta tc, .slice va vals.length vc] w fun e w' => e = .returned (.int .i64 (boundOf x vals)) ∧ Below w.heap.size w w' := by
  have hp0 := hp
  have HFU := Lib.hid hfull
  clear hfull
  obtain ⟨hr, hc, hsp, ht⟩ := hp
  obtain ⟨hrl, hr5⟩ := at_rule hr
  obtain ⟨hspl, hsp5⟩ := at_span hsp
  obtain ⟨hcl, hc5⟩ := at_chunk hc
  obtain ⟨hvl, hv5⟩ := at_int hv
  have hl1 := hx.rules
  have hl2 := hx.spans
  have hl3 := hvr.len
  have hl4 := hx.chunks.2
  obtain ⟨B, HB⟩ : ∃ B, Hid (B = w.heap.size) := ⟨_, rfl⟩
  have hBw : B ≤ w.heap.size := Nat.le_of_eq HB.out
  have hBw' : w.heap.size ≤ B := Nat.le_of_eq HB.out.symm
  unfold Piece.v
  have hX0 := PBox.new x ra ca sa ta rc cc sc tc w
  have hb0 : Below B w (w.alloc (.cells #[.int .i64 x.indent, .slice ra x.rules.length rc, .slice ca x.chunks.length cc, .slice sa x.spans.length sc, .slice ta x.ties.length tc] 29)) := (Below.refl _ _).alloc hBw _
  have hs0 := hb0.size
  go_enter Try.func108, Try.ntmps108
  go_wp2
  generalize w.alloc (.cells #[.int .i64 x.indent, .slice ra x.rules.length rc, .slice ca x.chunks.length cc, .slice sa x.spans.length sc, .slice ta x.ties.length tc] 29) = w0 at *
  go_loopw [5, 6] (fun sm i wr => ∃ k : Nat, k ≤ vals.length ∧ i = .int .i64 k ∧ sm = .int .i64 (costTo x vals k) ∧ Below B w wr ∧ PBox x ra rc ca cc sa sc ta tc w.heap.size wr) (fun _ i _ => vals.length - (intOf i).toNat)
  case atStart => exact ⟨0, Nat.zero_le _, rfl, rfl, hb0, hX0⟩
  case round =>
    clear hb0 hX0 hs0
    obtain ⟨k, hk, rfl, rfl, hb, hX⟩ := hrel
    have hsz := hb.size
    have hxl := hX.lt
    obtain ⟨p0, p1, p2, p3, p4⟩ := hX.five
    by_cases hlt : k < vals.length
    · have hki : (k : Int) < (vals.length : Int) := by omega
      have hkz : (0 : Int) ≤ (k : Int) := by omega
      have hkr : k < x.rules.length := by omega
      have hkri : (k : Int) < (x.rules.length : Int) := by omega
      have HS := Lib.hid (costTo_succ (x := x) hlt hkr)
      obtain ⟨n1, n2⟩ := costTo_bd hx hvr k hk
      obtain ⟨m1, m2⟩ := mul_bd (hvr.val k hlt) (hx.rule k hkr).2.2
      obtain ⟨b, off, rfl, hlo, hhi, c0, c1⟩ := hr5 k hkr
      obtain ⟨b1, o1, rfl, l1, l2, m0⟩ := hv5 k hlt
      have d1 := (hb.cell (p := ⟨b, _, none⟩) (by show b < _; omega)).trans c1
      have n0 := (hb.cell (p := ⟨b1, _, none⟩) (by show b1 < _; omega)).trans m0
      clear c0 c1 m0 hr5 hv5 hc5 hsp5
      generalize x.rules[k].cost = ck at *
      generalize vals[k] = vk at *
      generalize costTo x vals k = sk at *
      rw [Int.mul_comm vk ck] at HS m1 m2
      have wm : IntKind.i64.wrap (ck * vk) = ck * vk := IntWalk.i64_in _ (by omega)
      have ws : IntKind.i64.wrap (sk + ck * vk) = sk + ck * vk := IntWalk.i64_in _ (by omega)
      go_wp2
      go_quiet (fail)
      go_wp2
      go_roundw
      case rel => exact ⟨k + 1, by omega, by go_num, by rw [HS.out], blw_drewN hb _, hX.drewN _⟩
      case measure => simp [intOf]; omega
    · have hki : ¬ (k : Int) < (vals.length : Int) := by omega
      have HK := Lib.hid (show costTo x vals k = costTo x vals vals.length by rw [show k = vals.length by omega])
      obtain ⟨n1, n2⟩ := costTo_bd hx hvr k hk
      generalize costTo x vals k = sk at *
      go_wp2
      clear p0 p1 p2 p3 p4
      go_loopw [5, 7] (fun sm i wr => ∃ k : Nat, k ≤ x.spans.length ∧ i = .int .i64 k ∧ sm = .int .i64 (sk + spanTo x vals k) ∧ Below B w wr ∧ PBox x ra rc ca cc sa sc ta tc w.heap.size wr) (fun _ i _ => x.spans.length - (intOf i).toNat)
      case atStart => exact ⟨0, Nat.zero_le _, rfl, by rw [show spanTo x vals 0 = 0 from rfl, Int.add_zero], hb, hX⟩
      case round =>
        clear hb hX hsz hxl
        obtain ⟨j, hj, rfl, rfl, hb, hX⟩ := hrel
        have hsz := hb.size
        have hxl := hX.lt
        obtain ⟨p0, p1, p2, p3, p4⟩ := hX.five
        obtain ⟨r1, r2⟩ := spanTo_bd (v := vals) hx j hj
        by_cases hjt : j < x.spans.length
        · have hji : (j : Int) < (x.spans.length : Int) := by omega
          have hjz : (0 : Int) ≤ (j : Int) := by omega
          have HS := Lib.hid (spanTo_succ (v := vals) hjt)
          obtain ⟨y1, y2, y3, y4, y5⟩ := hx.span j hjt
          obtain ⟨b, off, rfl, hlo, hhi, c0, c1, c2⟩ := hsp5 j hjt
          have d0 := (hb.cell (p := ⟨b, _, none⟩) (by show b < _; omega)).trans c0
          clear hsp5
          generalize spanTo x vals j = tj at *
          generalize x.spans[j] = s at *
          obtain ⟨fro, til, cost⟩ := s
          simp only at d0 c0 c1 c2 y1 y2 y3 y4 y5 HS
          obtain ⟨fa, rfl⟩ := Int.eq_ofNat_of_zero_le y1
          obtain ⟨tb, rfl⟩ := Int.eq_ofNat_of_zero_le (Int.le_trans y1 y2)
          have HG : Hid (splitSpan x vals ⟨fa, tb, cost⟩ = anyAt x vals fa (tb + 1)) := rfl
          go_wp2
          clear p0 p1 p2 p3 p4 d0
          go_loopw [8, 9] (fun cu i wr => ∃ k : Nat, fa ≤ k ∧ k ≤ tb + 1 ∧ i = .int .i64 k ∧ cu = .bool (anyAt x vals fa k) ∧ Below B w wr ∧ PBox x ra rc ca cc (some ⟨b, off, none⟩) sc ta tc w.heap.size wr) (fun _ i _ => tb + 1 - (intOf i).toNat)
          case atStart => exact ⟨fa, Nat.le_refl _, by omega, rfl, by rw [anyAt_none (Nat.le_refl _)], hb, hX⟩
          case round =>
            clear hb hX hsz hxl
            obtain ⟨i, hi1, hi2, rfl, rfl, hb, hX⟩ := hrel
            have hsz := hb.size
            have hxl := hX.lt
            obtain ⟨p0, p1, p2, p3, p4⟩ := hX.five
            have e1 := (hb.cell (p := ⟨b, _, none⟩) (by show b < _; omega)).trans c1
            have e2 := (hb.cell (p := ⟨b, _, none⟩) (by show b < _; omega)).trans c2
            have e2' : wr.cell? ⟨b, off + j * 3 + 2, none⟩ = some (.int .i64 cost) := e2
            by_cases hit : i < tb + 1
            · have hii : (i : Int) ≤ (tb : Int) := by omega
              have hiz : (0 : Int) ≤ (i : Int) := by omega
              have hic : i < x.chunks.length := by omega
              have hici : (i : Int) < (x.chunks.length : Int) := by omega
              have hck := chunk_of hx (i := i) (by omega)
              have HU := Lib.hid (anyAt_succ (x := x) (v := vals) hi1)
              have HI : Hid (spanAt x vals i = splitsAt x vals i) := by
                show _ = _
                rw [spanAt, chunkAt_lt hic, decide_eq_true (by rw [HFU.out]; exact hck.2.1), Bool.true_and]
              have HAT := Lib.hid (l08At_any x vals ra ca (some ⟨b, off, none⟩) ta va rc cc sc tc vc i lo hi lo' hi' wr (hp0.below hb (by omega)) (by omega) (hv.below hb (by omega)) (by omega) hic hck.1 (by rw [HFU.out]; exact hck.2.1))
              unfold Piece.v at HAT
              clear hck
              cases a1 : anyAt x vals fa i with
              | true =>
                have HF := Lib.hid (show anyAt x vals fa (i + 1) = true by rw [HU.out, a1]; rfl)
                clear a1
                go_wp2
                go_roundw
                case rel => exact ⟨i + 1, by omega, by omega, by go_num, by rw [HF.out], hb, hX⟩
                case measure => simp [intOf]; omega
              | false =>
                have HZ := Lib.hid (show anyAt x vals fa (i + 1) = splitsAt x vals i by rw [HU.out, a1, HI.out]; rfl)
                clear a1
                go_wp2_with fail
                refine HAT.out.mono ?_
                rintro e w2 ⟨rfl, k2⟩
                have hb2 := hb.trans (k2.mono (by omega))
                have hX2 := hX.below k2
                go_wp2
                go_roundw
                case rel => exact ⟨i + 1, by omega, by omega, by go_num, by rw [HZ.out], hb2, hX2⟩
                case measure => simp [intOf]; omega
            · have hii : ¬ (i : Int) ≤ (tb : Int) := by omega
              have HA := Lib.hid (show splitSpan x vals ⟨fa, tb, cost⟩ = anyAt x vals fa i by rw [HG.out, show i = tb + 1 by omega])
              cases a1 : anyAt x vals fa i with
              | true =>
                have HT := Lib.hid (show spanTo x vals (j + 1) = tj + cost by rw [HS.out, HA.out, a1]; rfl)
                clear HS
                have ws : IntKind.i64.wrap (sk + tj + cost) = sk + tj + cost := IntWalk.i64_in _ (by omega)
                go_wp2
                go_roundw
                case rel => exact ⟨j + 1, by omega, by go_num, by rw [HT.out, Int.add_assoc], hb, hX⟩
                case measure => simp [intOf]; omega
              | false =>
                have HT := Lib.hid (show spanTo x vals (j + 1) = tj by rw [HS.out, HA.out, a1]; exact Int.add_zero _)
                clear HS
                go_wp2
                go_roundw
                case rel => exact ⟨j + 1, by omega, by go_num, by rw [HT.out], hb, hX⟩
                case measure => simp [intOf]; omega
        · have hji : ¬ (j : Int) < (x.spans.length : Int) := by omega
          have HF := Lib.hid (show boundOf x vals = sk + spanTo x vals j by rw [boundOf, HK.out, show j = x.spans.length by omega])
          go_wp2
          go_ret
          exact ⟨ret_int HF.out.symm, by rw [← HB.out]; exact hb⟩
set_option maxHeartbeats 1000000 in
set_option maxRecDepth 100000 in
theorem l09Width_any (z : Int) (w : World) : Calls Try.prog 107 #[.int .i64 z] w fun e w' => e = .returned (.int .i64 (clampW z)) ∧ w' = w := by
  by_cases h0 : z < 0
  · have HF : Hid (clampW z = 0) := if_pos h0
    go_enter Try.func107, Try.ntmps107
    go_wp2
    go_ret
    exact ⟨by rw [HF.out]; rfl, rfl⟩
  · by_cases h1 : z > 100000
    · have HF : Hid (clampW z = 100000) := by show _ = _; unfold clampW; rw [if_neg h0, if_pos h1]
      go_enter Try.func107, Try.ntmps107
      go_wp2
      go_ret
      exact ⟨by rw [HF.out]; rfl, rfl⟩
    · have HF : Hid (clampW z = z) := by show _ = _; unfold clampW; rw [if_neg h0, if_neg h1]
      go_enter Try.func107, Try.ntmps107
      go_wp2
      go_ret
      exact ⟨by rw [HF.out]; rfl, rfl⟩
end Go.Proofs.Ytllpgomloblfjaa
namespace Go.Proofs.Ytllpgomloblfjaa
open Go.RowKit

set_option maxHeartbeats 4000000 in
set_option maxRecDepth 100000 in
theorem l09Over_any (x : Piece) (vals : List Int) (ra ca sa ta va : Option Addr) (rc cc sc tc vc lo hi lo' hi' : Nat) (W : Int) (w : World) (hp : PFour x ra rc ca cc sa sc ta tc lo hi w) (hh : hi ≤ w.heap.size) (hv : Rd intF.shape lo' hi' w (.slice va vals.length vc) vals) (hh' : hi' ≤ w.heap.size) (hx : Right x) (hfull : vals.length = x.rules.length) (hz : Sized x) (hW0 : 0 ≤ W) (hW1 : W ≤ 100000) :
    Calls Try.prog 106 #[x.v ra rc ca cc sa sc ta tc, .slice va vals.length vc, .int .i64 W] w fun e w' => e = .returned (.int .i64 (overS W (linesR x vals))) ∧ Below w.heap.size w w' := by
  have hp0 := hp
  obtain ⟨hr, hc, hsp, ht⟩ := hp
  obtain ⟨hcl, hc5⟩ := at_chunk hc
  obtain ⟨hin1, hin2⟩ := hx.indent
  obtain ⟨hcn1, hcn2⟩ := hx.chunks
  obtain ⟨B, HB⟩ : ∃ B, Hid (B = w.heap.size) := ⟨_, rfl⟩
  have hBw : B ≤ w.heap.size := Nat.le_of_eq HB.out
  have hBw' : w.heap.size ≤ B := Nat.le_of_eq HB.out.symm
  have HFU := Lib.hid hfull
  clear hfull
  unfold Piece.v
  have hX0 := PBox.new x ra ca sa ta rc cc sc tc w
  have hb0 : Below B w (w.alloc (.cells #[.int .i64 x.indent, .slice ra x.rules.length rc, .slice ca x.chunks.length cc, .slice sa x.spans.length sc, .slice ta x.ties.length tc] 29)) := (Below.refl _ _).alloc hBw _
  go_enter Try.func106, Try.ntmps106
  go_wp2
  generalize w.alloc (.cells #[.int .i64 x.indent, .slice ra x.rules.length rc, .slice ca x.chunks.length cc, .slice sa x.spans.length sc, .slice ta x.ties.length tc] 29) = w0 at *
  go_loopw [7, 8, 9] (fun zv nv i wr => ∃ (k : Nat) (z n : Int), k ≤ x.chunks.length ∧ i = .int .i64 k ∧ zv = .int .i64 z ∧ nv = .int .i64 n ∧ 0 ≤ z ∧ z ≤ 200000000 * (k : Int) ∧ 0 ≤ n ∧ n ≤ 100000000 ∧ Hid (k < x.chunks.length → z = overS W (rendTo x vals k).1 ∧ n = ((rendTo x vals k).2.size : Int)) ∧ Hid (k = x.chunks.length → overS W (linesR x vals) = z) ∧ Below B w wr ∧ PBox x ra rc ca cc sa sc ta tc w.heap.size wr) (fun _ _ i _ => x.chunks.length - (intOf i).toNat)
  case atStart => exact ⟨0, 0, x.indent, Nat.zero_le _, rfl, rfl, rfl, Int.le_refl _, by omega, hin1, by omega, fun _ => ⟨rfl, by show _ = ((padB _).size : Int); rw [padB_size]; omega⟩, fun h => absurd h (by omega), hb0, hX0⟩
  case round =>
    clear hb0 hX0
    obtain ⟨k, z, n, hk, rfl, rfl, rfl, hz0, hzk, hn0, hnk, HS, HE, hb, hX⟩ := hrel
    have hsz := hb.size
    have hxl := hX.lt
    obtain ⟨p0, p1, p2, p3, p4⟩ := hX.five
    by_cases hlt : k < x.chunks.length
    · have hki : (k : Int) < (x.chunks.length : Int) := by omega
      have hkz : (0 : Int) ≤ (k : Int) := by omega
      obtain ⟨z1, -, -⟩ := rend_size hx hz vals k hlt
      obtain ⟨b, off, rfl, hlo, hhi, c0, c1, c2, c3, c4⟩ := hc5 k hlt
      have d0 := (hb.cell (p := ⟨b, _, none⟩) (by show b < _; omega)).trans c0
      have d3 := (hb.cell (p := ⟨b, _, none⟩) (by show b < _; omega)).trans c3
      have d4 := (hb.cell (p := ⟨b, _, none⟩) (by show b < _; omega)).trans c4
      have htx := hz.text _ (List.getElem_mem hlt)
      obtain ⟨hs1, hs2⟩ := HS.out hlt
      obtain ⟨ls, l, HT⟩ : ∃ ls l, Hid (rendTo x vals k = (ls, l)) := ⟨_, _, rfl⟩
      rw [HT.out] at hs1 hs2 z1
      simp only at hs1 hs2 z1
      have hz1 := Lib.hid hs1
      have hn1 := Lib.hid hs2
      clear hs1 hs2 HS HE
      have HSP : Hid (splitsAt x vals k = true → rendTo x vals (k + 1) = (ls ++ [l ++ x.chunks[k].text], padB (x.indent + x.chunks[k].nest).toNat)) := fun h => by rw [rend_split hlt h, HT.out]
      have HJO : Hid (splitsAt x vals k = false → rendTo x vals (k + 1) = (ls, if x.chunks[k].space then l ++ x.chunks[k].text ++ ⟨#[32]⟩ else l ++ x.chunks[k].text)) := fun h => by rw [rend_join hlt h, HT.out]
      have HLA : Hid (k = x.chunks.length - 1 → linesR x vals = ls ++ [l ++ x.chunks[k].text]) := fun h => by rw [rend_last hlt h, HT.out]
      have HCH : Hid (k + 1 < x.chunks.length → 0 ≤ x.chunks[k].rule ∧ x.chunks[k].rule < x.rules.length ∧ 1 ≤ x.chunks[k].fro ∧ x.chunks[k].fro ≤ 2 ∧ 0 ≤ x.chunks[k].nest ∧ x.chunks[k].nest ≤ 40) := fun h => chunk_of hx h
      have HLN : Hid (k = x.chunks.length - 1 → x.chunks[k].nest = 0) := fun h => by
        have h1 := hx.last
        unfold lastOk at h1
        rw [← h, chunkAt_lt hlt] at h1
        simp only [Bool.and_eq_true, decide_eq_true_eq] at h1
        exact h1.2
      have HAT := Lib.hid (fun (h0 : 0 ≤ x.chunks[k].rule) (h1 : x.chunks[k].rule < (vals.length : Int)) => l08At_any x vals ra _ sa ta va rc cc sc tc vc k lo hi lo' hi' wr (hp0.below hb (by omega)) (by omega) (hv.below hb (by omega)) (by omega) hlt h0 h1)
      unfold Piece.v at HAT
      clear c0 c1 c2 c3 c4 hc5
      have hk1 : k + 1 ≤ x.chunks.length := hlt
      generalize x.chunks[k] = ck at d0 d3 d4 htx HSP HJO HLA HCH HLN HAT
      obtain ⟨text, rule, fro, space, nest⟩ := ck
      simp only at d0 d3 d4 htx HSP HJO HLA HCH HLN HAT
      replace d3 : wr.cell? ⟨b, off + k * 5 + 1 + 2, none⟩ = some (.bool space) := d3
      replace d4 : wr.cell? ⟨b, off + k * 5 + 1 + 3, none⟩ = some (.int .i64 nest) := d4
      obtain ⟨n1, HN⟩ : ∃ n1 : Int, Hid (n1 = n + (text.size : Int)) := ⟨_, rfl⟩
      have hnb : 0 ≤ n1 ∧ n1 ≤ 95000000 := by have h1 := HN.out; have h2 := hn1.out; omega
      have hnw : IntKind.i64.wrap (n + (text.size : Int)) = n1 := by rw [IntWalk.i64_in _ (by omega)]; exact HN.out.symm
      have hnw2 : n + (text.size : Int) = n1 := HN.out.symm
      have HN1 : Hid (((l ++ text).size : Int) = n1) := by show _ = _; rw [ByteArray.size_append, HN.out, hn1.out]; simp
      have hz2 : z ≤ 16000000000 := by omega
      by_cases g2 : k = x.chunks.length - 1
      · have g2d : ((k : Int) + 1 == (x.chunks.length : Int)) = true := beq_iff_eq.2 (by omega)
        have HEQ := Lib.hid (HLA.out g2)
        obtain rfl : nest = 0 := HLN.out g2
        have hb1 := hb
        have hX1 := hX
        have hu1 : IntKind.i64.wrap ((k : Int) + 1) = (k : Int) + 1 := IntWalk.i64_in _ (by omega)
        have hk9 : ¬ k + 1 < x.chunks.length := by omega
        clear HSP HJO HLA HCH HLN HAT hb hX g2
        by_cases hg : n1 > W
        · have hgt : n1 > W := hg
          have HZ9 : Hid (overS W ls + overOf W n1 = z + n1 - W) := by show _ = _; rw [← hz1.out]; unfold overOf; rw [if_pos (show W < n1 from hgt)]; omega
          go_wp2
          go_quiet (fail)
          go_wp2
          go_roundw
          case rel => exact ⟨k + 1, z + n1 - W, x.indent, by omega, by go_num, by go_num, by go_num, by omega, by omega, by omega, by omega, fun h => absurd h (by omega), fun _ => by rw [HEQ.out, overS_snoc, HN1.out, HZ9.out], blw_drewN hb1 _, hX1.drewN _⟩
          case measure => simp [intOf]; omega
        · have hgt : ¬ n1 > W := hg
          have HZ9 : Hid (overS W ls + overOf W n1 = z) := by show _ = _; rw [← hz1.out]; unfold overOf; rw [if_neg (show ¬ W < n1 from hgt)]; omega
          go_wp2
          go_quiet (fail)
          go_wp2
          go_roundw
          case rel => exact ⟨k + 1, z, x.indent, by omega, by go_num, by go_num, by go_num, by omega, by omega, by omega, by omega, fun h => absurd h (by omega), fun _ => by rw [HEQ.out, overS_snoc, HN1.out, HZ9.out], blw_drewN hb1 _, hX1.drewN _⟩
          case measure => simp [intOf]; omega
      · have g2d : ((k : Int) + 1 == (x.chunks.length : Int)) = false := by simp; omega
        obtain ⟨r1, r2, -, -, r5, r6⟩ := HCH.out (by omega)
        have hu1 : IntKind.i64.wrap ((k : Int) + 1) = (k : Int) + 1 := IntWalk.i64_in _ (by omega)
        have HC := Lib.hid (HAT.out r1 (by rw [HFU.out]; exact r2))
        clear HAT HLA HCH HLN
        go_wp2_with fail
        refine HC.out.mono ?_
        rintro e w2 ⟨rfl, k2⟩
        have hb1 := hb.trans (k2.mono (by omega))
        have hX1 := hX.below k2
        have hbl : b < wr.heap.size := by omega
        have hs2 := k2.size
        replace d3 := (k2.cell (p := ⟨b, _, none⟩) hbl).trans d3
        replace d4 := (k2.cell (p := ⟨b, _, none⟩) hbl).trans d4
        obtain ⟨q0, q1, q2, q3, q4⟩ := hX1.five
        clear d0 p0 p1 p2 p3 p4 HC k2 hb hX
        cases gs : splitsAt x vals k with
        | true =>
          have HEQ := Lib.hid (HSP.out gs)
          clear HSP HJO gs
          by_cases hg : n1 > W
          · have hgt : n1 > W := hg
            have HZ9 : Hid (overS W ls + overOf W n1 = z + n1 - W) := by show _ = _; rw [← hz1.out]; unfold overOf; rw [if_pos (show W < n1 from hgt)]; omega
            go_wp2
            go_quiet (fail)
            go_wp2
            go_roundw
            case rel => exact ⟨k + 1, z + n1 - W, x.indent + nest, by omega, by go_num, by go_num, by go_num, by omega, by omega, by omega, by omega, fun _ => ⟨by rw [HEQ.out]; show _ = overS W (ls ++ [_]); rw [overS_snoc, HN1.out, HZ9.out], by rw [HEQ.out]; show _ = ((padB _).size : Int); rw [padB_size]; omega⟩, fun h => absurd h (by omega), blw_drewN hb1 _, hX1.drewN _⟩
            case measure => simp [intOf]; omega
          · have hgt : ¬ n1 > W := hg
            have HZ9 : Hid (overS W ls + overOf W n1 = z) := by show _ = _; rw [← hz1.out]; unfold overOf; rw [if_neg (show ¬ W < n1 from hgt)]; omega
            go_wp2
            go_quiet (fail)
            go_wp2
            go_roundw
            case rel => exact ⟨k + 1, z, x.indent + nest, by omega, by go_num, by go_num, by go_num, by omega, by omega, by omega, by omega, fun _ => ⟨by rw [HEQ.out]; show _ = overS W (ls ++ [_]); rw [overS_snoc, HN1.out, HZ9.out], by rw [HEQ.out]; show _ = ((padB _).size : Int); rw [padB_size]; omega⟩, fun h => absurd h (by omega), blw_drewN hb1 _, hX1.drewN _⟩
            case measure => simp [intOf]; omega
        | false =>
          have HEQ := Lib.hid (HJO.out gs)
          clear HSP HJO gs
          cases space with
          | true =>
            have HW1 : Hid ((((l ++ text ++ ⟨#[32]⟩ : ByteArray).size : Nat) : Int) = n1 + 1) := by
              show _ = _
              rw [ByteArray.size_append]
              have h1 := HN1.out
              have : (⟨#[32]⟩ : ByteArray).size = 1 := rfl
              omega
            go_wp2
            go_roundw
            case rel => exact ⟨k + 1, z, n1 + 1, hk1, by go_num, rfl, by go_num, hz0, by omega, by omega, by omega, fun _ => ⟨by rw [HEQ.out]; exact hz1.out, by rw [HEQ.out]; exact HW1.out.symm⟩, fun h => absurd h (by omega), hb1, hX1⟩
            case measure => simp [intOf]; omega
          | false =>
            go_wp2
            go_roundw
            case rel => exact ⟨k + 1, z, n1, hk1, by go_num, rfl, rfl, hz0, by omega, by omega, by omega, fun _ => ⟨by rw [HEQ.out]; exact hz1.out, by rw [HEQ.out]; exact HN1.out.symm⟩, fun h => absurd h (by omega), hb1, hX1⟩
            case measure => simp [intOf]; omega
    · have hki : ¬ (k : Int) < (x.chunks.length : Int) := by omega
      have HF := Lib.hid (HE.out (by omega))
      go_wp2
      go_ret
      exact ⟨ret_int HF.out.symm, by rw [← HB.out]; exact hb⟩
set_option maxHeartbeats 2000000 in
set_option maxRecDepth 100000 in
theorem l09Cost_any (x : Piece) (vals : List Int) (ra ca sa ta va : Option Addr) (rc cc sc tc vc lo hi lo' hi' : Nat) (width : Int) (w : World) (hp : PFour x ra rc ca cc sa sc ta tc lo hi w) (hh : hi ≤ w.heap.size) (hv : Rd intF.shape lo' hi' w (.slice va vals.length vc) vals) (hh' : hi' ≤ w.heap.size) (hx : Right x) (hvr : RightV x vals) (hfull : vals.length = x.rules.length) (hz : Sized x) :
    Calls Try.prog 60 #[x.v ra rc ca cc sa sc ta tc, .slice va vals.length vc, .int .i64 width] w fun e w' => e = .returned (.agg #[.int .i64 (costR x vals width).over, .int .i64 (costR x vals width).sum]) ∧ Below w.heap.size w w' := by
  have hcw := clampW_bd width
  have HOV := Lib.hid (fun (w2 : World) (h2 : Below w.heap.size w w2) => l09Over_any x vals ra ca sa ta va rc cc sc tc vc lo hi lo' hi' (clampW width) w2 (hp.below h2 hh) (Nat.le_trans hh h2.size) (hv.below h2 hh') (Nat.le_trans hh' h2.size) hx hfull hz hcw.1 hcw.2)
  have HSU := Lib.hid (fun (w2 : World) (h2 : Below w.heap.size w w2) => l09Sum_any x vals ra ca sa ta va rc cc sc tc vc lo hi lo' hi' w2 (hp.below h2 hh) (Nat.le_trans hh h2.size) (hv.below h2 hh') (Nat.le_trans hh' h2.size) hx hvr hfull)
  have HWI := Lib.hid (fun (w2 : World) => l09Width_any width w2)
  have HCD : Hid (costR x vals width = ⟨overS (clampW width) (linesR x vals), boundOf x vals⟩) := rfl
  clear hp hv hvr hfull hx hz
  unfold Piece.v at HOV HSU ⊢
  go_enter Try.func60, Try.ntmps60
  go_upto_region 1 with fail
  obtain ⟨hA, hB⟩ := heap_two w (.cells #[.int .i64 x.indent, .slice ra x.rules.length rc, .slice ca x.chunks.length cc, .slice sa x.spans.length sc, .slice ta x.ties.length tc] 29) (.cells #[.int .i64 0, .int .i64 0] 37)
  have hbA : Below w.heap.size w ((w.alloc (.cells #[.int .i64 x.indent, .slice ra x.rules.length rc, .slice ca x.chunks.length cc, .slice sa x.spans.length sc, .slice ta x.ties.length tc] 29)).alloc (.cells #[.int .i64 0, .int .i64 0] 37)) := ((Below.refl _ _).alloc (Nat.le_refl _) _).alloc (by simp) _
  have hsA : w.heap.size + 1 < ((w.alloc (.cells #[.int .i64 x.indent, .slice ra x.rules.length rc, .slice ca x.chunks.length cc, .slice sa x.spans.length sc, .slice ta x.ties.length tc] 29)).alloc (.cells #[.int .i64 0, .int .i64 0] 37)).heap.size := by simp
  generalize (w.alloc (.cells #[.int .i64 x.indent, .slice ra x.rules.length rc, .slice ca x.chunks.length cc, .slice sa x.spans.length sc, .slice ta x.ties.length tc] 29)).alloc (.cells #[.int .i64 0, .int .i64 0] 37) = w0 at *
  have hX0 : PBox x ra rc ca cc sa sc ta tc w.heap.size w0.drew := hA
  have z0 : w0.drew.cell? ⟨w.heap.size + 1, 0, none⟩ = some (.int .i64 0) := cell_heap0 hB rfl
  have z1 : w0.drew.cell? ⟨w.heap.size + 1, 1, none⟩ = some (.int .i64 0) := cell_heap0 hB rfl
  have g0 : w0.drew.frozen? ⟨w.heap.size + 1, 0, none⟩ = false := frozen_heap0 hB
  have g1 : w0.drew.frozen? ⟨w.heap.size + 1, 1, none⟩ = false := frozen_heap0 hB
  have hbD := hbA.drew
  have hsD : w.heap.size + 1 < w0.drew.heap.size := hsA
  clear hA hB hbA hsA
  generalize boundOf x vals = bnd at *
  generalize linesR x vals = ls at *
  generalize clampW width = W at *
  go_wp2_with fail
  refine wp_region_held_drew (S := fun w' => PBox x ra rc ca cc sa sc ta tc w.heap.size w') (by kernel_rfl) ?_ (fun hHeld => ?_)
  · exact hX0
  generalize w0.drew = wD at *
  refine wpAnyH_take (i := 0) (v := ?v1) (at_op rfl) (by kernel_rfl) (by kernel_rfl) (by kernel_rfl) (fun _ _ _ h => h) (Or.inl ⟨by rfl, ?y1⟩) (by assumption) ?r1
  case y1 =>
    intro wx hSx
    obtain ⟨p0, p1, p2, p3, p4⟩ := PBox.five hSx
    go_simp
    try with_reducible rfl
  try simp only [Act.put, List.setIfInBounds_toArray, List.set_cons_zero, List.set_cons_succ]
  refine wpAnyH_take (i := 1) (v := ?v2) (at_op rfl) (by kernel_rfl) (by kernel_rfl) (by kernel_rfl) (fun _ _ _ h => h) (Or.inl ⟨by rfl, ?y2⟩) (by assumption) ?r2
  case y2 =>
    intro wx hSx
    obtain ⟨p0, p1, p2, p3, p4⟩ := PBox.five hSx
    go_simp
    try with_reducible rfl
  try simp only [Act.put, List.setIfInBounds_toArray, List.set_cons_zero, List.set_cons_succ]
  refine wpAnyH_take (i := 2) (v := ?v3) (at_op rfl) (by kernel_rfl) (by kernel_rfl) (by kernel_rfl) (fun _ _ _ h => h) (Or.inl ⟨by rfl, ?y3⟩) (by assumption) ?r3
  case y3 =>
    intro wx hSx
    obtain ⟨p0, p1, p2, p3, p4⟩ := PBox.five hSx
    go_simp
    try with_reducible rfl
  try simp only [Act.put, List.setIfInBounds_toArray, List.set_cons_zero, List.set_cons_succ]
  refine wpAnyH_take (i := 5) (v := ?v4) (at_op rfl) (by kernel_rfl) (by kernel_rfl) (by kernel_rfl) (fun _ _ _ h => h) (Or.inl ⟨by rfl, ?y4⟩) (by assumption) ?r4
  case y4 =>
    intro wx hSx
    obtain ⟨p0, p1, p2, p3, p4⟩ := PBox.five hSx
    go_simp
    try with_reducible rfl
  try simp only [Act.put, List.setIfInBounds_toArray, List.set_cons_zero, List.set_cons_succ]
  refine wpAnyH_take (i := 6) (v := ?v5) (at_op rfl) (by kernel_rfl) (by kernel_rfl) (by kernel_rfl) (fun _ _ _ h => h) (Or.inl ⟨by rfl, ?y5⟩) (by assumption) ?r5
  case y5 =>
    intro wx hSx
    obtain ⟨p0, p1, p2, p3, p4⟩ := PBox.five hSx
    go_simp
    try with_reducible rfl
  try simp only [Act.put, List.setIfInBounds_toArray, List.set_cons_zero, List.set_cons_succ]
  refine wpAnyH_ready (rs := [3]) (by kernel_rfl) (by simp) ?_
  refine AllReadyH.cons (at_op rfl) (fun K hK => ?_) AllReadyH.nil
  go_simp
  refine (HWI.out _).mono ?_
  rintro e w' ⟨rfl, rfl⟩
  go_wp2_with fail
  refine hK.out _ _ hX0 (fun _ => ?_)
  clear hK K
  try simp only [Act.put, List.setIfInBounds_toArray, List.set_cons_zero, List.set_cons_succ]
  refine wpAnyH_ready (rs := [4]) (by kernel_rfl) (by simp) ?_
  refine AllReadyH.cons (at_op rfl) (fun K hK => ?_) AllReadyH.nil
  go_simp
  refine (HOV.out _ hbD).mono ?_
  rintro e w5 ⟨rfl, h5⟩
  replace hbD := hbD.trans (h5.mono (by omega))
  have s5 := h5.size
  replace z0 := (h5.cell (p := ⟨w.heap.size + 1, 0, none⟩) hsD).trans z0
  replace z1 := (h5.cell (p := ⟨w.heap.size + 1, 1, none⟩) hsD).trans z1
  replace g0 := (h5.frozen (p := ⟨w.heap.size + 1, 0, none⟩) hsD).trans g0
  replace g1 := (h5.frozen (p := ⟨w.heap.size + 1, 1, none⟩) hsD).trans g1
  replace hX0 := PBox.below hX0 h5
  replace hsD := Nat.lt_of_lt_of_le hsD s5
  go_wp2_with fail
  refine hK.out _ _ hX0 (fun _ => ?_)
  clear hK K
  try simp only [Act.put, List.setIfInBounds_toArray, List.set_cons_zero, List.set_cons_succ]
  refine wpAnyH_ready (rs := [7]) (by kernel_rfl) (by simp) ?_
  refine AllReadyH.cons (at_op rfl) (fun K hK => ?_) AllReadyH.nil
  go_simp
  refine (HSU.out _ hbD).mono ?_
  rintro e w6 ⟨rfl, h6⟩
  replace hbD := hbD.trans (h6.mono (by omega))
  have s6 := h6.size
  replace z0 := (h6.cell (p := ⟨w.heap.size + 1, 0, none⟩) hsD).trans z0
  replace z1 := (h6.cell (p := ⟨w.heap.size + 1, 1, none⟩) hsD).trans z1
  replace g0 := (h6.frozen (p := ⟨w.heap.size + 1, 0, none⟩) hsD).trans g0
  replace g1 := (h6.frozen (p := ⟨w.heap.size + 1, 1, none⟩) hsD).trans g1
  replace hX0 := PBox.below hX0 h6
  replace hsD := Nat.lt_of_lt_of_le hsD s6
  go_wp2_with fail
  refine hK.out _ _ hX0 (fun _ => ?_)
  clear hK K
  try simp only [Act.put, List.setIfInBounds_toArray, List.set_cons_zero, List.set_cons_succ]
  refine wpAnyH_take (i := 8) (v := ?v6) (at_op rfl) (by kernel_rfl) (by kernel_rfl) (by kernel_rfl) (fun _ _ _ h => h) (Or.inl ⟨by rfl, ?y6⟩) (by assumption) ?r6
  case y6 =>
    intro wx hSx
    obtain ⟨p0, p1, p2, p3, p4⟩ := PBox.five hSx
    go_simp
    try with_reducible rfl
  try simp only [Act.put, List.setIfInBounds_toArray, List.set_cons_zero, List.set_cons_succ]
  refine wpAnyH_ready (rs := [9]) (by kernel_rfl) (by simp) ?_
  refine AllReadyH.cons (at_op rfl) (fun K hK => ?_) AllReadyH.nil
  go_wp2_with fail
  refine hK.out _ _ ((hX0.far (by omega) _).far (by omega) _) (fun _ => ?_)
  clear hK K
  try simp only [Act.put, List.setIfInBounds_toArray, List.set_cons_zero, List.set_cons_succ]
  refine wpAnyH_done (by kernel_rfl) ?_ _
  have r0 : ((w6.setCell ⟨w.heap.size + 1, 0, none⟩ (.int .i64 (overS W ls))).setCell ⟨w.heap.size + 1, 1, none⟩ (.int .i64 bnd)).cell? ⟨w.heap.size + 1, 0, none⟩ = some (.int .i64 (overS W ls)) :=
    (World.cell?_setCell_other _ _ _ _ (fun c => by injection c with _ c _; omega)).trans (World.cell?_setCell_same (w := w6) (a := ⟨w.heap.size + 1, 0, none⟩) (v := .int .i64 (overS W ls)) z0)
  have r1 : ((w6.setCell ⟨w.heap.size + 1, 0, none⟩ (.int .i64 (overS W ls))).setCell ⟨w.heap.size + 1, 1, none⟩ (.int .i64 bnd)).cell? ⟨w.heap.size + 1, 1, none⟩ = some (.int .i64 bnd) :=
    World.cell?_setCell_same (w := w6.setCell ⟨w.heap.size + 1, 0, none⟩ (.int .i64 (overS W ls))) (a := ⟨w.heap.size + 1, 1, none⟩) (v := .int .i64 bnd) ((World.cell?_setCell_other _ _ _ _ (fun c => by injection c with _ c _; omega)).trans z1)
  have hBF : Hid (Below w.heap.size w ((w6.setCell ⟨w.heap.size + 1, 0, none⟩ (.int .i64 (overS W ls))).setCell ⟨w.heap.size + 1, 1, none⟩ (.int .i64 bnd))) := (hbD.setCell (p := ⟨w.heap.size + 1, 0, none⟩) (Nat.le_succ _) _).setCell (p := ⟨w.heap.size + 1, 1, none⟩) (Nat.le_succ _) _
  go_wp2
  refine bodyPost_ret (v := .agg #[.int .i64 (overS W ls), .int .i64 bnd]) (by simp [results, Try.results60, go_sem, r0, r1]) rfl ?_
  exact ⟨by rw [HCD.out], hBF.out⟩
end Go.Proofs.Ytllpgomloblfjaa
