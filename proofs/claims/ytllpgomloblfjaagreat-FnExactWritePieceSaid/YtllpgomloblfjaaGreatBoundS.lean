/- Bound of the reference, and all that it calls. -/
import Derived.Test.YtllpgomloblfjaaGreatBoundD
import Derived.Test.YtllpgomloblfjaaGreatPieceOkS
namespace Go.Proofs.YtllpgomloblfjaaGreat
open Go.RowKit

set_option maxHeartbeats 2000000 in
set_option maxRecDepth 100000 in
theorem l12Bound_spec (x : Piece) (vals : List Int) (ra ca sa ta va : Option Addr) (rc cc sc tc vc lo hi lo' hi' : Nat) (w : World) (hp : PFour x ra rc ca cc sa sc ta tc lo hi w) (hh : hi ≤ w.heap.size) (hv : Rd intF.shape lo' hi' w (.slice va vals.length vc) vals) (hh' : hi' ≤ w.heap.size) (hx : Right x) (hvr : RightV x vals) :
    Calls Tryz.prog 58 #[x.v ra rc ca cc sa sc ta tc, .slice va vals.length vc] w fun e w' => e = .returned (.int .i64 (boundOf x vals)) ∧ Below w.heap.size w w' := by
  obtain ⟨hr, hc, hsp, ht⟩ := hp
  obtain ⟨hrl, hr5⟩ := at_rule hr
  obtain ⟨hspl, hsp5⟩ := at_span hsp
  obtain ⟨hcl, hc5⟩ := at_chunk hc
  obtain ⟨hvl, hv5⟩ := at_int hv
  have hl1 := hx.rules
  have hl2 := hx.spans
  have hl3 := hvr.len
  have hl4 := hx.chunks.2
  obtain ⟨B, HB⟩ : ∃ B, Hid (B = w.heap.size) := ⟨_, rfl⟩
  have hBw : B ≤ w.heap.size := Nat.le_of_eq HB.out
  have hBw' : w.heap.size ≤ B := Nat.le_of_eq HB.out.symm
  unfold Piece.v
  have hX0 := PBox.new x ra ca sa ta rc cc sc tc w
  have hb0 : Below B w (w.alloc (.cells #[.int .i64 x.indent, .slice ra x.rules.length rc, .slice ca x.chunks.length cc, .slice sa x.spans.length sc, .slice ta x.ties.length tc] 38)) := (Below.refl _ _).alloc hBw _
  have hs0 := hb0.size
  go_enter Tryz.func58, Tryz.ntmps58
  go_wp2
  generalize w.alloc (.cells #[.int .i64 x.indent, .slice ra x.rules.length rc, .slice ca x.chunks.length cc, .slice sa x.spans.length sc, .slice ta x.ties.length tc] 38) = w0 at *
  go_loopw [5, 6] (fun sm i wr => ∃ k : Nat, k ≤ vals.length ∧ i = .int .i64 k ∧ sm = .int .i64 (costTo x vals k) ∧ Below B w wr ∧ PBox x ra rc ca cc sa sc ta tc w.heap.size wr) (fun _ i _ => vals.length - (intOf i).toNat)
  case atStart => exact ⟨0, Nat.zero_le _, rfl, rfl, hb0, hX0⟩
  case round =>
    clear hb0 hX0 hs0
    obtain ⟨k, hk, rfl, rfl, hb, hX⟩ := hrel
    have hsz := hb.size
    have hxl := hX.lt
    obtain ⟨p0, p1, p2, p3, p4⟩ := hX.five
    by_cases hlt : k < vals.length
    · have hki : (k : Int) < (vals.length : Int) := by omega
      have hkz : (0 : Int) ≤ (k : Int) := by omega
      have hkr : k < x.rules.length := by omega
      have hkri : (k : Int) < (x.rules.length : Int) := by omega
      have HS := Lib.hid (costTo_succ (x := x) hlt hkr)
      obtain ⟨n1, n2⟩ := costTo_bd hx hvr k hk
      obtain ⟨m1, m2⟩ := mul_bd (hvr.val k hlt) (hx.rule k hkr).2.2
      obtain ⟨b, off, rfl, hlo, hhi, c0, c1⟩ := hr5 k hkr
      obtain ⟨b1, o1, rfl, l1, l2, m0⟩ := hv5 k hlt
      have d1 := (hb.cell (p := ⟨b, _, none⟩) (by show b < _; omega)).trans c1
      have n0 := (hb.cell (p := ⟨b1, _, none⟩) (by show b1 < _; omega)).trans m0
      clear c0 c1 m0 hr5 hv5 hc5 hsp5
      generalize x.rules[k].cost = ck at *
      generalize vals[k] = vk at *
      generalize costTo x vals k = sk at *
      rw [Int.mul_comm vk ck] at HS m1 m2
      have wm : IntKind.i64.wrap (ck * vk) = ck * vk := IntWalk.i64_in _ (by omega)
      have ws : IntKind.i64.wrap (sk + ck * vk) = sk + ck * vk := IntWalk.i64_in _ (by omega)
      go_wp2
      go_quiet (fail)
      go_wp2
      go_roundw
      case rel => exact ⟨k + 1, by omega, by go_num, by rw [HS.out], blw_drewN hb _, hX.drewN _⟩
      case measure => simp [intOf]; omega
    · have hki : ¬ (k : Int) < (vals.length : Int) := by omega
      have HK := Lib.hid (show costTo x vals k = costTo x vals vals.length by rw [show k = vals.length by omega])
      obtain ⟨n1, n2⟩ := costTo_bd hx hvr k hk
      generalize costTo x vals k = sk at *
      go_wp2
      clear p0 p1 p2 p3 p4
      go_loopw [5, 7] (fun sm i wr => ∃ k : Nat, k ≤ x.spans.length ∧ i = .int .i64 k ∧ sm = .int .i64 (sk + spanTo x vals k) ∧ Below B w wr ∧ PBox x ra rc ca cc sa sc ta tc w.heap.size wr) (fun _ i _ => x.spans.length - (intOf i).toNat)
      case atStart => exact ⟨0, Nat.zero_le _, rfl, by rw [show spanTo x vals 0 = 0 from rfl, Int.add_zero], hb, hX⟩
      case round =>
        clear hb hX hsz hxl
        obtain ⟨j, hj, rfl, rfl, hb, hX⟩ := hrel
        have hsz := hb.size
        have hxl := hX.lt
        obtain ⟨p0, p1, p2, p3, p4⟩ := hX.five
        obtain ⟨r1, r2⟩ := spanTo_bd (v := vals) hx j hj
        by_cases hjt : j < x.spans.length
        · have hji : (j : Int) < (x.spans.length : Int) := by omega
          have hjz : (0 : Int) ≤ (j : Int) := by omega
          have HS := Lib.hid (spanTo_succ (v := vals) hjt)
          obtain ⟨y1, y2, y3, y4, y5⟩ := hx.span j hjt
          obtain ⟨b, off, rfl, hlo, hhi, c0, c1, c2⟩ := hsp5 j hjt
          have d0 := (hb.cell (p := ⟨b, _, none⟩) (by show b < _; omega)).trans c0
          clear hsp5
          generalize spanTo x vals j = tj at *
          generalize x.spans[j] = s at *
          obtain ⟨fro, til, cost⟩ := s
          simp only at d0 c0 c1 c2 y1 y2 y3 y4 y5 HS
          obtain ⟨fa, rfl⟩ := Int.eq_ofNat_of_zero_le y1
          obtain ⟨tb, rfl⟩ := Int.eq_ofNat_of_zero_le (Int.le_trans y1 y2)
          have HG : Hid (splitSpan x vals ⟨fa, tb, cost⟩ = anyAt x vals fa (tb + 1)) := rfl
          go_wp2
          clear p0 p1 p2 p3 p4 d0
          go_loopw [8, 9] (fun cu i wr => ∃ k : Nat, fa ≤ k ∧ k ≤ tb + 1 ∧ i = .int .i64 k ∧ cu = .bool (anyAt x vals fa k) ∧ Below B w wr ∧ PBox x ra rc ca cc (some ⟨b, off, none⟩) sc ta tc w.heap.size wr) (fun _ i _ => tb + 1 - (intOf i).toNat)
          case atStart => exact ⟨fa, Nat.le_refl _, by omega, rfl, by rw [anyAt_none (Nat.le_refl _)], hb, hX⟩
          case round =>
            clear hb hX hsz hxl
            obtain ⟨i, hi1, hi2, rfl, rfl, hb, hX⟩ := hrel
            have hsz := hb.size
            have hxl := hX.lt
            obtain ⟨p0, p1, p2, p3, p4⟩ := hX.five
            have e1 := (hb.cell (p := ⟨b, _, none⟩) (by show b < _; omega)).trans c1
            have e2 := (hb.cell (p := ⟨b, _, none⟩) (by show b < _; omega)).trans c2
            have e2' : wr.cell? ⟨b, off + j * 3 + 2, none⟩ = some (.int .i64 cost) := e2
            by_cases hit : i < tb + 1
            · have hii : (i : Int) ≤ (tb : Int) := by omega
              have hiz : (0 : Int) ≤ (i : Int) := by omega
              have hic : i < x.chunks.length := by omega
              have hici : (i : Int) < (x.chunks.length : Int) := by omega
              have hck := chunk_of hx (i := i) (by omega)
              have HI := Lib.hid (show spanAt x vals i = (decide (x.chunks[i].rule < (vals.length : Int)) && decide (x.chunks[i].fro ≤ vals.getD x.chunks[i].rule.toNat 0)) by rw [spanAt, splitsAt, chunkAt_lt hic])
              have HU := Lib.hid (anyAt_succ (x := x) (v := vals) hi1)
              obtain ⟨b2, o2, rfl, hlo2, hhi2, f0, f1, f2, f3, f4⟩ := hc5 i hic
              have g1 := (hb.cell (p := ⟨b2, _, none⟩) (by show b2 < _; omega)).trans f1
              have g2 := (hb.cell (p := ⟨b2, _, none⟩) (by show b2 < _; omega)).trans f2
              have g3 := (hb.cell (p := ⟨b2, _, none⟩) (by show b2 < _; omega)).trans (show w.cell? ⟨b2, o2 + i * 5 + 1 + 2, none⟩ = _ from f3)
              have g4 := (hb.cell (p := ⟨b2, _, none⟩) (by show b2 < _; omega)).trans (show w.cell? ⟨b2, o2 + i * 5 + 1 + 3, none⟩ = _ from f4)
              clear f0 f1 f2 f3 f4
              generalize x.chunks[i] = cki at *
              obtain ⟨text, rule, cfro, space, nest⟩ := cki
              simp only at g1 g2 g3 g4 hck HI
              obtain ⟨rn, rfl⟩ := Int.eq_ofNat_of_zero_le hck.1
              have hX1 := hX.alloc (.cells #[.int .i64 rn, .int .i64 cfro, .bool space, .int .i64 nest] 88)
              have hb1 := hb.alloc (by omega) (.cells #[.int .i64 rn, .int .i64 cfro, .bool space, .int .i64 nest] 88)
              cases a1 : anyAt x vals fa i with
              | true =>
                have HF := Lib.hid (show anyAt x vals fa (i + 1) = true by rw [HU.out, a1]; rfl)
                clear a1
                go_wp2
                go_quiet (fail)
                go_wp2
                go_roundw
                case rel => exact ⟨i + 1, by omega, by omega, by go_num, by rw [HF.out], blw_drewN hb1 _, hX1.drewN _⟩
                case measure => simp [intOf]; omega
              | false =>
                by_cases z : rn < vals.length
                · have HZ := Lib.hid (show anyAt x vals fa (i + 1) = decide (cfro ≤ vals[rn]) by
                    rw [HU.out, a1, HI.out, decide_eq_true (by omega : (rn : Int) < (vals.length : Int)), Int.toNat_natCast, getD_at z]; rfl)
                  obtain ⟨b1, o1, rfl, l1, l2, m0⟩ := hv5 rn z
                  have n0 := (hb1.cell (p := ⟨b1, _, none⟩) (by show b1 < _; omega)).trans m0
                  have zi : (rn : Int) < (vals.length : Int) := by omega
                  have zz : (0 : Int) ≤ (rn : Int) := by omega
                  clear a1 m0
                  generalize vals[rn] = vr at *
                  go_wp2
                  go_quiet (fail)
                  go_wp2
                  go_roundw
                  case rel => exact ⟨i + 1, by omega, by omega, by go_num, by rw [HZ.out], blw_drewN hb1 _, hX1.drewN _⟩
                  case measure => simp [intOf]; omega
                · have zi : ¬ (rn : Int) < (vals.length : Int) := by omega
                  have zd : decide ((rn : Int) < (vals.length : Int)) = false := decide_eq_false zi
                  have HF := Lib.hid (show anyAt x vals fa (i + 1) = false by rw [HU.out, a1, HI.out, zd]; rfl)
                  clear a1
                  go_wp2
                  go_quiet (fail)
                  go_wp2
                  go_roundw
                  case rel => exact ⟨i + 1, by omega, by omega, by go_num, by rw [HF.out], blw_drewN hb1 _, hX1.drewN _⟩
                  case measure => simp [intOf]; omega
            · have hii : ¬ (i : Int) ≤ (tb : Int) := by omega
              have HA := Lib.hid (show splitSpan x vals ⟨fa, tb, cost⟩ = anyAt x vals fa i by rw [HG.out, show i = tb + 1 by omega])
              cases a1 : anyAt x vals fa i with
              | true =>
                have HT := Lib.hid (show spanTo x vals (j + 1) = tj + cost by rw [HS.out, HA.out, a1]; rfl)
                clear HS
                have ws : IntKind.i64.wrap (sk + tj + cost) = sk + tj + cost := IntWalk.i64_in _ (by omega)
                go_wp2
                go_roundw
                case rel => exact ⟨j + 1, by omega, by go_num, by rw [HT.out, Int.add_assoc], hb, hX⟩
                case measure => simp [intOf]; omega
              | false =>
                have HT := Lib.hid (show spanTo x vals (j + 1) = tj by rw [HS.out, HA.out, a1]; exact Int.add_zero _)
                clear HS
                go_wp2
                go_roundw
                case rel => exact ⟨j + 1, by omega, by go_num, by rw [HT.out], hb, hX⟩
                case measure => simp [intOf]; omega
        · have hji : ¬ (j : Int) < (x.spans.length : Int) := by omega
          have HF := Lib.hid (show boundOf x vals = sk + spanTo x vals j by rw [boundOf, HK.out, show j = x.spans.length by omega])
          go_wp2
          go_ret
          exact ⟨ret_int HF.out.symm, by rw [← HB.out]; exact hb⟩
end Go.Proofs.YtllpgomloblfjaaGreat
