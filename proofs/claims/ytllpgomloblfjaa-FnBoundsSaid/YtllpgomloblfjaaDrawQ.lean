/- Draws that other laws use too: below a great number, places, whether code is big. -/
import Derived.Test.YtllpgomloblfjaaDrawB
import Derived.Test.YtllpgomloblfjaaApp
namespace Go.Proofs.Ytllpgomloblfjaa
open Go.RowKit

theorem Try.infoIntQ : (Try.prog.info? 3).map (fun i => (i.zero, i.size, i.bytes)) = some (some (.int .i64 0), 1, 8) := by kernel_rfl
set_option maxHeartbeats 1000000 in
set_option maxRecDepth 100000 in
/-- what is drawn below a number above 256 -/
theorem l01Below_big {g lo hi : Nat} {xs : List Int} {w : World} {n : Int} (hc : Cur g lo hi xs w) (h1 : 256 < n) (h2 : n ≤ 1048576) :
    Calls Try.prog 62 #[.pointer (some ⟨g, 0, none⟩), .int .i64 n] w fun e w' => ∃ x : Int, e = .returned (.int .i64 x) ∧ 0 ≤ x ∧ x < n ∧ Out g (g + 1) w w' ∧ Cur g lo hi xs w' := by
  have hn0 : ¬ n ≤ 0 := by omega
  have hn1 : ¬ n ≤ 256 := by omega
  go_enter Try.func62, Try.ntmps62
  go_wp2_with fail
  refine (l01Byte_any hc).mono ?_
  rintro e w1 ⟨x1, rfl, ⟨a1, a2⟩, ho1, hc1⟩
  go_wp2_with fail
  refine (l01Byte_any hc1).mono ?_
  rintro e w2 ⟨x2, rfl, ⟨b1, b2⟩, ho2, hc2⟩
  go_wp2_with fail
  refine (l01Byte_any hc2).mono ?_
  rintro e w3 ⟨x3, rfl, ⟨c1, c2⟩, ho3, hc3⟩
  go_wp2_with fail
  refine (l01Byte_any hc3).mono ?_
  rintro e w4 ⟨x4, rfl, ⟨d1, d2⟩, ho4, hc4⟩
  have m1 := Int.emod_nonneg (x1 * 16777216 + x2 * 65536 + x3 * 256 + x4) (show n ≠ 0 by omega)
  have m2 := Int.emod_lt_of_pos (x1 * 16777216 + x2 * 65536 + x3 * 256 + x4) (show 0 < n by omega)
  go_wp2
  go_ret
  exact ⟨_, rfl, m1, m2, ((ho1.trans ho2).trans ho3).trans ho4, hc4⟩
theorem big_any {lo hi : Nat} {xs : List Int} {w : World} {v : Value} (hr : Rd bytS lo hi w v xs) :
    Calls Try.prog 8 #[v] w fun e w' => e = .returned (.bool (decide (1048576 < xs.length))) ∧ w = w' := by
  have hl := hr.len_le
  obtain ⟨a, c, rfl, _⟩ := hr
  go_enter Try.func8, Try.ntmps8
  go_wp2
  go_ret
  exact ⟨ret_bool (by simp; omega), rfl⟩
set_option maxHeartbeats 1000000 in
set_option maxRecDepth 100000 in
theorem drawPlaces_any {lo hi : Nat} {xs : List Int} {w : World} {v : Value} (hr : Rd bytS lo hi w v xs) (hh : hi ≤ w.heap.size) (hx : ∀ x ∈ xs, U8 x) (hl : xs.length ≤ 1048576) :
    Calls Try.prog 14 #[v] w fun e w' => ∃ r ps, e = .returned r ∧ ps.length = 12 ∧ (∀ p ∈ ps, 0 ≤ p ∧ p < 10000) ∧ Own intF 3 w.heap.size w'.heap.size w' r ps ∧ Below w.heap.size w w' := by
  obtain ⟨i0, hi0, hz0, hz1, hz2⟩ := info_parts Try.infoIntQ
  obtain ⟨B, HB⟩ : ∃ B, Hid (B = w.heap.size) := ⟨_, rfl⟩
  have hB1 : B ≤ w.heap.size := Nat.le_of_eq HB.out
  have hB2 : w.heap.size ≤ B := Nat.le_of_eq HB.out.symm
  go_enter Try.func14, Try.ntmps14
  go_wp2_with fail
  refine (l01New_any hr hh hx hl).mono ?_
  rintro e w1 ⟨rfl, hb1, hc1, hs1⟩
  go_wp2_with fail
  refine (l01Byte_any hc1).mono ?_
  rintro e w2 ⟨x0, rfl, _, ho2, hc2⟩
  have hs2 := ho2.size
  have hgl := hc2.lt
  have hb2 := blw_out hb1 ho2 (Nat.le_refl _) (by omega)
  go_wp2
  have hb0 : Below w2.heap.size w2 (w2.alloc (.cells #[] 3)) := (Below.refl _ _).alloc (Nat.le_refl _) _
  have hc0 := hc2.below hb0 hgl
  have hb3 : Below B w (w2.alloc (.cells #[] 3)) := (hb2.mono hB1).trans (hb0.mono (by omega))
  have hE0 := Own.empty intF 3 (w.heap.size + 1) w2 (by omega)
  obtain ⟨C, HC⟩ : ∃ C, Hid (C = (w2.alloc (.cells #[] 3)).heap.size) := ⟨_, rfl⟩
  have hC1 : C ≤ (w2.alloc (.cells #[] 3)).heap.size := Nat.le_of_eq HC.out
  have hC2 : (w2.alloc (.cells #[] 3)).heap.size ≤ C := Nat.le_of_eq HC.out.symm
  have hOE : OutE intF 3 (w.heap.size + 1) C (w2.alloc (.cells #[] 3)) (.slice (some ⟨w2.heap.size, 0, none⟩) 0 0) [] := .inr ⟨rfl, ⟨_, rfl⟩, hE0.wide (Nat.le_refl _) hC2⟩
  have hBC : w.heap.size + 1 ≤ C := by have := hb0.size; omega
  clear hE0 hb0
  generalize w2.alloc (.cells #[] 3) = w3 at *
  generalize hg : w.heap.size = g at *
  go_loopw [4, 5] (fun out i wr => ∃ (k : Nat) (ys : List Int), k ≤ 12 ∧ i = .int .i64 k ∧ ys.length = k ∧ Hid (∀ s ∈ ys, 0 ≤ s ∧ s < 10000) ∧ Below B w wr ∧ Cur g lo hi xs wr ∧ C ≤ wr.heap.size ∧ OutE intF 3 (g + 1) C wr out ys) (fun _ i _ => 12 - (intOf i).toNat)
  case atStart => exact ⟨0, [], Nat.zero_le _, rfl, rfl, (by intro s hs; cases hs), hb3, hc0, hC1, hOE⟩
  case round =>
    obtain ⟨k, ys, hk, rfl, hyl, HS, hb, hcu, hCw, hO⟩ := hrel
    by_cases hlt : k < 12
    · have hki : (k : Int) < 12 := by omega
      go_wp2_with fail
      refine (l01Below_big hcu (by omega) (by omega)).mono ?_
      rintro e w4 ⟨x, rfl, x1, x2, ho4, hc4⟩
      have hO4 := hO.out ho4 (Nat.le_refl _) hBC hCw
      have hs4 := ho4.size
      have hb4 : Below B w w4 := blw_out hb ho4 (by omega) (by omega)
      go_wp2_with (at_builtin; refine wp_app1e (F := intF) (P := Try.prog) (y := x) rfl (.tmp 15) (.tmp 18) 32 rfl Try.underlying32 hi0 hz0 hz1 hz2 rfl (by decide) rfl (hO4.keep (w' := w4.alloc _) ((Below.refl _ _).alloc (Nat.le_refl _) _) (by omega)) w4.heap.size rfl (heap_alloc_new _ _) rfl (by omega) (by omega) (by simp; omega) ?_; intro v' w' hO' hb')
      have hbs : Below C w4 w' := ((Below.refl C w4).alloc (by omega) _).trans hb'
      have hsw := hbs.size
      go_roundw
      case rel => exact ⟨k + 1, ys ++ [x], by omega, by go_num, by simp; omega, (by intro t ht; rcases List.mem_append.1 ht with h | h; exact HS.out t h; obtain rfl := List.mem_singleton.1 h; exact ⟨x1, x2⟩), hb4.trans (hbs.mono (by omega)), hc4.below hbs (by omega), by omega, hO'⟩
      case measure => simp [intOf]; omega
    · have hki : ¬ (k : Int) < 12 := by omega
      obtain rfl : k = 12 := by omega
      go_wp2
      go_ret
      have hown := hO.own hBC (by omega)
      subst hg
      have e := HB.out
      subst e
      have hw := hown.wide (lo' := w.heap.size) (by omega) (Nat.le_refl _)
      first
        | exact ⟨_, ys, rfl, hyl, HS.out, hw, hb⟩
        | exact ⟨_, rfl, ys, hyl, HS.out, hw, hb⟩
end Go.Proofs.Ytllpgomloblfjaa
