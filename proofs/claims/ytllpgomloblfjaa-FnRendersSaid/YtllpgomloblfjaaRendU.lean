/- Costs compared; the values that split all. -/
import Derived.Test.YtllpgomloblfjaaRendT
import Derived.Test.YtllpgomloblfjaaHuntP
namespace Go.Proofs.Ytllpgomloblfjaa
open Go.RowKit

set_option maxHeartbeats 1000000 in
set_option maxRecDepth 100000 in
theorem costLess_impl (y c : CostL) (w : World) : Calls Try.prog 40 #[.agg #[.int .i64 y.over, .int .i64 y.sum], .agg #[.int .i64 c.over, .int .i64 c.sum]] w fun e w' => e = .returned (.bool (costLess y c)) ∧ Below w.heap.size w w' := by
  obtain ⟨a, b⟩ := y
  obtain ⟨a', b'⟩ := c
  simp only
  have HB : Hid (Below w.heap.size w ((w.alloc (.cells #[.int .i64 a, .int .i64 b] 37)).alloc (.cells #[.int .i64 a', .int .i64 b'] 37))) := ((Below.refl _ _).alloc (Nat.le_refl _) _).alloc (by simp) _
  by_cases h1 : a < a'
  · have HF : Hid (costLess ⟨a, b⟩ ⟨a', b'⟩ = true) := by show (decide (a < a') || _) = true; rw [decide_eq_true h1]; rfl
    go_enter Try.func40, Try.ntmps40
    go_wp2
    go_ret
    exact ⟨by rw [HF.out]; rfl, HB.out⟩
  · by_cases h2 : a = a'
    · subst h2
      have HF : Hid (costLess ⟨a, b⟩ ⟨a, b'⟩ = decide (b < b')) := by show (decide (a < a) || (decide (a = a) && decide (b < b'))) = _; simp
      go_enter Try.func40, Try.ntmps40
      go_wp2
      go_ret
      exact ⟨by rw [HF.out]; first | rfl | simp, HB.out⟩
    · have he : (a == a') = false := beq_eq_false_iff_ne.2 h2
      have HF : Hid (costLess ⟨a, b⟩ ⟨a', b'⟩ = false) := by show (decide (a < a') || (decide (a = a') && decide (b < b'))) = _; rw [decide_eq_false h1, decide_eq_false h2]; rfl
      clear h2
      go_enter Try.func40, Try.ntmps40
      go_wp2
      go_ret
      exact ⟨by rw [HF.out]; rfl, HB.out⟩
set_option maxHeartbeats 1000000 in
set_option maxRecDepth 100000 in
theorem costLess_spec (y c : CostL) (w : World) : Calls Try.prog 21 #[.agg #[.int .i64 y.over, .int .i64 y.sum], .agg #[.int .i64 c.over, .int .i64 c.sum]] w fun e w' => e = .returned (.bool (costLess y c)) ∧ Below w.heap.size w w' := by
  obtain ⟨a, b⟩ := y
  obtain ⟨a', b'⟩ := c
  simp only
  have HB : Hid (Below w.heap.size w ((w.alloc (.cells #[.int .i64 a, .int .i64 b] 37)).alloc (.cells #[.int .i64 a', .int .i64 b'] 37))) := ((Below.refl _ _).alloc (Nat.le_refl _) _).alloc (by simp) _
  by_cases h1 : a < a'
  · have HF : Hid (costLess ⟨a, b⟩ ⟨a', b'⟩ = true) := by show (decide (a < a') || _) = true; rw [decide_eq_true h1]; rfl
    go_enter Try.func21, Try.ntmps21
    go_wp2
    go_ret
    exact ⟨by rw [HF.out]; rfl, HB.out⟩
  · by_cases h2 : a = a'
    · subst h2
      have HF : Hid (costLess ⟨a, b⟩ ⟨a, b'⟩ = decide (b < b')) := by show (decide (a < a) || (decide (a = a) && decide (b < b'))) = _; simp
      go_enter Try.func21, Try.ntmps21
      go_wp2
      go_ret
      exact ⟨by rw [HF.out]; first | rfl | simp, HB.out⟩
    · have he : (a == a') = false := beq_eq_false_iff_ne.2 h2
      have HF : Hid (costLess ⟨a, b⟩ ⟨a', b'⟩ = false) := by show (decide (a < a') || (decide (a = a') && decide (b < b'))) = _; rw [decide_eq_false h1, decide_eq_false h2]; rfl
      clear h2
      go_enter Try.func21, Try.ntmps21
      go_wp2
      go_ret
      exact ⟨by rw [HF.out]; rfl, HB.out⟩
set_option maxHeartbeats 1000000 in
set_option maxRecDepth 100000 in
theorem allSplit_impl (x : Piece) (ra ca sa ta : Option Addr) (rc cc sc tc lo hi : Nat) (w : World) (hp : PFour x ra rc ca cc sa sc ta tc lo hi w) (hh : hi ≤ w.heap.size) (hx : Right x) :
    Calls Try.prog 100 #[x.v ra rc ca cc sa sc ta tc] w fun e w' => ∃ u, e = .returned u ∧ Below w.heap.size w w' ∧ Own intF 3 w.heap.size w'.heap.size w' u (allL x) := by
  obtain ⟨i0, hi0, hz0, hz1, hz2⟩ := info_parts Try.infoInt1
  obtain ⟨hr, hc, hsp, ht⟩ := hp
  obtain ⟨hrl, hr5⟩ := at_rule hr
  have hl1 := hx.rules
  have HAL : Hid (allL x = x.rules.map fun r => r.values - 1) := rfl
  obtain ⟨B, HB⟩ : ∃ B, Hid (B = w.heap.size) := ⟨_, rfl⟩
  have hBw : B ≤ w.heap.size := Nat.le_of_eq HB.out
  have hBw' : w.heap.size ≤ B := Nat.le_of_eq HB.out.symm
  unfold Piece.v
  have hX0 := PBox.new x ra ca sa ta rc cc sc tc w
  have hb0 : Below B w (w.alloc (.cells #[.int .i64 x.indent, .slice ra x.rules.length rc, .slice ca x.chunks.length cc, .slice sa x.spans.length sc, .slice ta x.ties.length tc] 29)) := (Below.refl _ _).alloc hBw _
  go_enter Try.func100, Try.ntmps100
  go_wp2
  generalize w.alloc (.cells #[.int .i64 x.indent, .slice ra x.rules.length rc, .slice ca x.chunks.length cc, .slice sa x.spans.length sc, .slice ta x.ties.length tc] 29) = w1 at *
  have hX1 := hX0
  have hB1 := hb0
  obtain ⟨C, HC⟩ : ∃ C, Hid (C = w1.heap.size) := ⟨_, rfl⟩
  have hxl0 := hX0.lt
  have hBC : w.heap.size < C := by have := HC.out; omega
  have hCw : C ≤ w1.heap.size := by have := HC.out; omega
  have hO1 : Own intF 3 C w1.heap.size w1 (.slice none 0 0) ((x.rules.take 0).map fun r => r.values - 1) := Own.nil _ _ _ _ _
  clear hX0 hb0 hxl0
  go_loopw [3, 9] (fun out i wr => ∃ k : Nat, k ≤ x.rules.length ∧ i = .int .i64 k ∧ Own intF 3 C wr.heap.size wr out ((x.rules.take k).map fun r => r.values - 1) ∧ Below C w1 wr) (fun _ i _ => x.rules.length - (intOf i).toNat)
  case atStart => exact ⟨0, Nat.zero_le _, rfl, hO1, Below.refl _ _⟩
  case round =>
    clear hO1
    obtain ⟨k, hk, rfl, hO, hbc⟩ := hrel
    have hX : PBox x ra rc ca cc sa sc ta tc w.heap.size wr := (hbc.block w.heap.size hBC).trans hX1
    have hb := hB1.trans (hbc.mono (by omega))
    have hsz := hb.size
    have hcsz := hbc.size
    have hxl := hX.lt
    obtain ⟨p0, p1, p2, p3, p4⟩ := hX.five
    by_cases hlt : k < x.rules.length
    · have hki : (k : Int) < (x.rules.length : Int) := by omega
      have hkz : (0 : Int) ≤ (k : Int) := by omega
      obtain ⟨b, off, rfl, hlo, hhi, c0, c1⟩ := hr5 k hlt
      have d0 := (hb.cell (p := ⟨b, _, none⟩) (by show b < _; omega)).trans c0
      have d1 := (hb.cell (p := ⟨b, _, none⟩) (by show b < _; omega)).trans c1
      have HS := Lib.hid (map_take_succ (fun r : Rule => r.values - 1) hlt)
      obtain ⟨r1, r2, -, -⟩ := hx.rule k hlt
      have hml : ((x.rules.take k).map fun r => r.values - 1).length ≤ 8 := by rw [List.length_map, List.length_take]; omega
      clear c0 c1 hr5
      generalize (x.rules.take k).map (fun r : Rule => r.values - 1) = ys at *
      have hk1 : k + 1 ≤ x.rules.length := hlt
      generalize x.rules[k] = rk at d0 d1 HS r1 r2
      obtain ⟨val, cost⟩ := rk
      simp only at d0 d1 HS r1 r2
      have wv : IntKind.i64.wrap (val - 1) = val - 1 := IntWalk.i64_in _ (by omega)
      go_wp2_with (at_builtin; refine wp_app1 (F := intF) (P := Try.prog) (y := val - 1) rfl (.tmp 13) (.tmp 17) 32 rfl Try.underlying32 hi0 hz0 hz1 hz2 rfl (by decide) rfl ((hO.alloc _).alloc _) (wr.heap.size + 1) rfl (heap_alloc2_new _ _ _) rfl (by omega) (by omega) (by simp; omega) ?_; intro v' w9 hO9 hb9)
      have hB9 : Below C wr w9 := blw_al2 hb9 (by omega)
      have hbf := hbc.trans hB9
      go_wp2
      go_roundw
      case rel => exact ⟨k + 1, hk1, by go_num, by rw [HS.out]; exact hO9, hbf⟩
      case measure => simp [intOf]; omega
    · obtain rfl : k = x.rules.length := by omega
      rw [List.take_length, ← HAL.out] at hO
      go_wp2
      go_ret
      exact ⟨_, rfl, by rw [← HB.out]; exact hb, hO.wide (by omega) (Nat.le_refl _)⟩
set_option maxHeartbeats 1000000 in
set_option maxRecDepth 100000 in
theorem allSplit_spec (x : Piece) (ra ca sa ta : Option Addr) (rc cc sc tc lo hi : Nat) (w : World) (hp : PFour x ra rc ca cc sa sc ta tc lo hi w) (hh : hi ≤ w.heap.size) (hx : Right x) :
    Calls Try.prog 16 #[x.v ra rc ca cc sa sc ta tc] w fun e w' => ∃ u, e = .returned u ∧ Below w.heap.size w w' ∧ Own intF 3 w.heap.size w'.heap.size w' u (allL x) := by
  obtain ⟨i0, hi0, hz0, hz1, hz2⟩ := info_parts Try.infoInt1
  obtain ⟨hr, hc, hsp, ht⟩ := hp
  obtain ⟨hrl, hr5⟩ := at_rule hr
  have hl1 := hx.rules
  have HAL : Hid (allL x = x.rules.map fun r => r.values - 1) := rfl
  obtain ⟨B, HB⟩ : ∃ B, Hid (B = w.heap.size) := ⟨_, rfl⟩
  have hBw : B ≤ w.heap.size := Nat.le_of_eq HB.out
  have hBw' : w.heap.size ≤ B := Nat.le_of_eq HB.out.symm
  unfold Piece.v
  have hX0 := PBox.new x ra ca sa ta rc cc sc tc w
  have hb0 : Below B w (w.alloc (.cells #[.int .i64 x.indent, .slice ra x.rules.length rc, .slice ca x.chunks.length cc, .slice sa x.spans.length sc, .slice ta x.ties.length tc] 29)) := (Below.refl _ _).alloc hBw _
  go_enter Try.func16, Try.ntmps16
  go_wp2
  have hO0 := empty2 intF 3 (lo := w.heap.size + 1) (w := w) (A := (.cells #[.int .i64 x.indent, .slice ra x.rules.length rc, .slice ca x.chunks.length cc, .slice sa x.spans.length sc, .slice ta x.ties.length tc] 29)) (Nat.le_refl _)
  have hX1 := hX0.alloc (.cells #[] 3)
  have hB1 := hb0.alloc (by simp; omega) (.cells #[] 3)
  have hsw : w.heap.size + 1 ≤ ((w.alloc (.cells #[.int .i64 x.indent, .slice ra x.rules.length rc, .slice ca x.chunks.length cc, .slice sa x.spans.length sc, .slice ta x.ties.length tc] 29)).alloc (.cells #[] 3)).heap.size := by simp
  clear hX0 hb0
  generalize (w.alloc (.cells #[.int .i64 x.indent, .slice ra x.rules.length rc, .slice ca x.chunks.length cc, .slice sa x.spans.length sc, .slice ta x.ties.length tc] 29)).alloc (.cells #[] 3) = w1 at *
  obtain ⟨C, HC⟩ : ∃ C, Hid (C = w.heap.size + 1) := ⟨_, rfl⟩
  have hBC : w.heap.size < C := by have := HC.out; omega
  have hCw : C ≤ w1.heap.size := by have := HC.out; omega
  have hO1 : Own intF 3 C w1.heap.size w1 (.slice (some ⟨w.heap.size + 1, 0, none⟩) 0 0) ((x.rules.take 0).map fun r => r.values - 1) := by rw [HC.out]; exact hO0
  clear hO0 hsw
  go_loopw [3, 4] (fun out i wr => ∃ k : Nat, k ≤ x.rules.length ∧ i = .int .i64 k ∧ Own intF 3 C wr.heap.size wr out ((x.rules.take k).map fun r => r.values - 1) ∧ Below C w1 wr) (fun _ i _ => x.rules.length - (intOf i).toNat)
  case atStart => exact ⟨0, Nat.zero_le _, rfl, hO1, Below.refl _ _⟩
  case round =>
    clear hO1
    obtain ⟨k, hk, rfl, hO, hbc⟩ := hrel
    have hX : PBox x ra rc ca cc sa sc ta tc w.heap.size wr := (hbc.block w.heap.size hBC).trans hX1
    have hb := hB1.trans (hbc.mono (by omega))
    have hsz := hb.size
    have hcsz := hbc.size
    have hxl := hX.lt
    obtain ⟨p0, p1, p2, p3, p4⟩ := hX.five
    by_cases hlt : k < x.rules.length
    · have hki : (k : Int) < (x.rules.length : Int) := by omega
      have hkz : (0 : Int) ≤ (k : Int) := by omega
      obtain ⟨b, off, rfl, hlo, hhi, c0, c1⟩ := hr5 k hlt
      have d0 := (hb.cell (p := ⟨b, _, none⟩) (by show b < _; omega)).trans c0
      have d1 := (hb.cell (p := ⟨b, _, none⟩) (by show b < _; omega)).trans c1
      have HS := Lib.hid (map_take_succ (fun r : Rule => r.values - 1) hlt)
      obtain ⟨r1, r2, -, -⟩ := hx.rule k hlt
      have hml : ((x.rules.take k).map fun r => r.values - 1).length ≤ 8 := by rw [List.length_map, List.length_take]; omega
      clear c0 c1 hr5
      generalize (x.rules.take k).map (fun r : Rule => r.values - 1) = ys at *
      have hk1 : k + 1 ≤ x.rules.length := hlt
      generalize x.rules[k] = rk at d0 d1 HS r1 r2
      obtain ⟨val, cost⟩ := rk
      simp only at d0 d1 HS r1 r2
      have wv : IntKind.i64.wrap (val - 1) = val - 1 := IntWalk.i64_in _ (by omega)
      go_wp2_with (at_builtin; refine wp_app1 (F := intF) (P := Try.prog) (y := val - 1) rfl (.tmp 13) (.tmp 21) 32 rfl Try.underlying32 hi0 hz0 hz1 hz2 rfl (by decide) rfl (hO.alloc _) wr.heap.size rfl (heap_alloc_new _ _) rfl (by omega) (by omega) (by simp; omega) ?_; intro v' w9 hO9 hb9)
      have hB9 : Below C wr w9 := blw_al1 hb9 (by omega)
      have hbf := hbc.trans hB9
      go_wp2
      go_roundw
      case rel => exact ⟨k + 1, hk1, by go_num, by rw [HS.out]; exact hO9, hbf⟩
      case measure => simp [intOf]; omega
    · obtain rfl : k = x.rules.length := by omega
      rw [List.take_length, ← HAL.out] at hO
      go_wp2
      go_ret
      exact ⟨_, rfl, by rw [← HB.out]; exact hb, hO.wide (by omega) (Nat.le_refl _)⟩
end Go.Proofs.Ytllpgomloblfjaa
