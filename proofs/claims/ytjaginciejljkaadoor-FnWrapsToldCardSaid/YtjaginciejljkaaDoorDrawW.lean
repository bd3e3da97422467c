/- What is drawn for the laws on wraps: words, widths, places. -/
import Derived.Test.YtjaginciejljkaaDoorDrawB
import Derived.Test.YtjaginciejljkaaDoorRagX
namespace Go.Proofs.YtjaginciejljkaaDoor
open Go.RowKit

set_option maxHeartbeats 1000000 in
set_option maxRecDepth 100000 in
/-- what is drawn below a number above 256 -/
theorem l01Below_big {g lo hi : Nat} {xs : List Int} {w : World} {n : Int} (hc : Cur g lo hi xs w) (h1 : 256 < n) (h2 : n ≤ 1048576) :
    Calls Tryd.prog 28 #[.pointer (some ⟨g, 0, none⟩), .int .i64 n] w fun e w' => ∃ x : Int, e = .returned (.int .i64 x) ∧ 0 ≤ x ∧ x < n ∧ Out g (g + 1) w w' ∧ Cur g lo hi xs w' := by
  have hn0 : ¬ n ≤ 0 := by omega
  have hn1 : ¬ n ≤ 256 := by omega
  go_enter Tryd.func28, Tryd.ntmps28
  go_wp2_with fail
  refine (l01Byte_any hc).mono ?_
  rintro e w1 ⟨x1, rfl, ⟨a1, a2⟩, ho1, hc1⟩
  go_wp2_with fail
  refine (l01Byte_any hc1).mono ?_
  rintro e w2 ⟨x2, rfl, ⟨b1, b2⟩, ho2, hc2⟩
  go_wp2_with fail
  refine (l01Byte_any hc2).mono ?_
  rintro e w3 ⟨x3, rfl, ⟨c1, c2⟩, ho3, hc3⟩
  go_wp2_with fail
  refine (l01Byte_any hc3).mono ?_
  rintro e w4 ⟨x4, rfl, ⟨d1, d2⟩, ho4, hc4⟩
  have m1 := Int.emod_nonneg (x1 * 16777216 + x2 * 65536 + x3 * 256 + x4) (show n ≠ 0 by omega)
  have m2 := Int.emod_lt_of_pos (x1 * 16777216 + x2 * 65536 + x3 * 256 + x4) (show 0 < n by omega)
  go_wp2
  go_ret
  exact ⟨_, rfl, m1, m2, ((ho1.trans ho2).trans ho3).trans ho4, hc4⟩
set_option maxHeartbeats 1000000 in
set_option maxRecDepth 100000 in
theorem l01PickInt_any {g lo hi lo' hi' : Nat} {xs : List Int} {w : World} {v : Value} {ls : List Int} (hc : Cur g lo hi xs w) (hr : Rd intF.shape lo' hi' w v ls) (hh : hi' ≤ w.heap.size) (hf : hi' ≤ g ∨ g + 1 ≤ lo') (h1 : 1 ≤ ls.length) (h2 : ls.length ≤ 256) :
    Calls Tryd.prog 37 #[.pointer (some ⟨g, 0, none⟩), v] w fun e w' => ∃ n : Int, e = .returned (.int .i64 n) ∧ n ∈ ls ∧ Out g (g + 1) w w' ∧ Cur g lo hi xs w' := by
  have hr0 := hr
  obtain ⟨a, c, rfl, k2, k3, k4, k5⟩ := hr
  unfold maxLen at k3
  go_enter Tryd.func37, Tryd.ntmps37
  go_wp2_with fail
  refine (l01Below_any hc (by omega) (by omega)).mono ?_
  rintro e w1 ⟨x, rfl, x1, x2, ho, hc1⟩
  obtain ⟨k, rfl⟩ := Int.eq_ofNat_of_zero_le x1
  have hk : k < ls.length := by omega
  obtain ⟨b, off, cs, rfl, hlo, hhi, rfl, q0⟩ := k5 k hk
  have q1 : w1.cell? ⟨b, off + k, none⟩ = some (.int .i64 ls[k]) := (World.cell?_of_block (ho.same hh (hf.elim .inl .inr) b hlo hhi)).trans (by have := q0 0 _ rfl; simpa [intF, Flat.shape] using this)
  have hm : ls[k] ∈ ls := List.getElem_mem hk
  clear k5 q0
  generalize ls[k] = s at *
  go_wp2
  go_ret
  exact ⟨s, rfl, hm, ho, hc1⟩
/-- a word that may be drawn -/
def WordD (s : ByteArray) : Prop := fineW s = true ∧ s.size ≤ 20
set_option maxHeartbeats 1000000 in
set_option maxRecDepth 100000 in
theorem l17Words_any {g lo hi : Nat} {xs : List Int} {w : World} (hc : Cur g lo hi xs w) :
    Calls Tryd.prog 25 #[.pointer (some ⟨g, 0, none⟩)] w fun e w' => ∃ r ls, e = .returned r ∧ ls.length ≤ 11 ∧ (∀ s ∈ ls, WordD s) ∧ Own strF 9 w.heap.size w'.heap.size w' r ls ∧ Out g (g + 1) w w' ∧ Cur g lo hi xs w' := by
  obtain ⟨i0, hi0, hz0, hz1, hz2⟩ := info_parts Tryd.infoStr1
  have hgl := hc.lt
  obtain ⟨B, HB⟩ : ∃ B, Hid (B = w.heap.size) := ⟨_, rfl⟩
  have hB1 : B ≤ w.heap.size := Nat.le_of_eq HB.out
  have hB2 : w.heap.size ≤ B := Nat.le_of_eq HB.out.symm
  go_enter Tryd.func25, Tryd.ntmps25
  go_wp2
  have hb0 : Below w.heap.size w (w.alloc (.cells #[] 9)) := (Below.refl _ _).alloc (Nat.le_refl _) _
  have hc0 := hc.below hb0 hgl
  have ho0 : Out g (g + 1) w (w.alloc (.cells #[] 9)) := Out.of_below hb0
  have hE0 := Own.empty strF 9 B w hB1
  obtain ⟨C, HC⟩ : ∃ C, Hid (C = (w.alloc (.cells #[] 9)).heap.size) := ⟨_, rfl⟩
  have hC1 : C ≤ (w.alloc (.cells #[] 9)).heap.size := Nat.le_of_eq HC.out
  have hC2 : (w.alloc (.cells #[] 9)).heap.size ≤ C := Nat.le_of_eq HC.out.symm
  have hOE : OutE strF 9 B C (w.alloc (.cells #[] 9)) (.slice (some ⟨w.heap.size, 0, none⟩) 0 0) [] := .inr ⟨rfl, ⟨_, rfl⟩, hE0.wide (Nat.le_refl _) hC2⟩
  have hBC : B ≤ C := Nat.le_trans hB1 (Nat.le_trans hb0.size hC2)
  clear hE0
  generalize w.alloc (.cells #[] 9) = w0 at *
  go_loopw [3, 4] (fun out i wr => ∃ (k : Nat) (ys : List ByteArray), k ≤ 11 ∧ i = .int .i64 k ∧ ys.length = k ∧ Hid (∀ s ∈ ys, WordD s) ∧ Out g (g + 1) w wr ∧ Cur g lo hi xs wr ∧ C ≤ wr.heap.size ∧ OutE strF 9 B C wr out ys) (fun _ i _ => 12 - (intOf i).toNat)
  case atStart => exact ⟨0, [], Nat.zero_le _, rfl, rfl, (by intro s hs; cases hs), ho0, hc0, hC1, hOE⟩
  case round =>
    obtain ⟨k, ys, hk, rfl, hyl, HS, ho, hcu, hCw, hO⟩ := hrel
    go_wp2_with fail
    refine (l01Below_any hcu (by omega) (by omega)).mono ?_
    rintro e w1 ⟨x, rfl, x1, x2, ho1, hc1⟩
    have hO1 := hO.out ho1 (by omega) hBC hCw
    have hs1 := ho1.size
    have ho1' := ho.trans ho1
    by_cases hlt : (k : Int) < x
    · go_wp2_with fail
      have hrl := rd_lit strF w1 [ByteArray.mk #[97], ByteArray.mk #[119, 111, 114, 100], ByteArray.mk #[111, 102], ByteArray.mk #[115, 111, 109, 101, 119, 104, 97, 116], ByteArray.mk #[105, 116], ByteArray.mk #[101, 120, 116, 114, 97, 111, 114, 100, 105, 110, 97, 114, 121]] #[.string (ByteArray.mk #[97]), .string (ByteArray.mk #[119, 111, 114, 100]), .string (ByteArray.mk #[111, 102]), .string (ByteArray.mk #[115, 111, 109, 101, 119, 104, 97, 116]), .string (ByteArray.mk #[105, 116]), .string (ByteArray.mk #[101, 120, 116, 114, 97, 111, 114, 100, 105, 110, 97, 114, 121])] 9 rfl (by decide)
      obtain ⟨A, HA⟩ : ∃ A : Obj, A = .cells #[.string (ByteArray.mk #[97]), .string (ByteArray.mk #[119, 111, 114, 100]), .string (ByteArray.mk #[111, 102]), .string (ByteArray.mk #[115, 111, 109, 101, 119, 104, 97, 116]), .string (ByteArray.mk #[105, 116]), .string (ByteArray.mk #[101, 120, 116, 114, 97, 111, 114, 100, 105, 110, 97, 114, 121])] 9 := ⟨_, rfl⟩
      rw [← HA] at hrl
      rw [← HA]
      clear HA
      have hba : Below w1.heap.size w1 (w1.alloc A) := (Below.refl _ _).alloc (Nat.le_refl _) _
      have hsa : (w1.alloc A).heap.size = w1.heap.size + 1 := by simp
      have hc2 := hc1.below hba hc1.lt
      have hgl1 := hc1.lt
      have ho2 := ho1'.then hba (by have := ho1'.size; omega)
      have hO2 := hO1.keep hba (by omega)
      refine (l01Pick_any hc2 hrl (by omega) (.inr (by omega)) (by decide) (by decide)).mono ?_
      rintro e w2 ⟨s, rfl, hsm, ho3, hc3⟩
      have hsz : WordD s := by
        simp only [List.mem_cons, List.not_mem_nil, or_false] at hsm
        rcases hsm with rfl | rfl | rfl | rfl | rfl | rfl <;> exact ⟨by kernel_rfl, by decide⟩
      have hsz2 : s.size ≤ 20 := hsz.2
      have hO3 := hO2.out ho3 (by omega) hBC (by omega)
      have hs3 := ho3.size
      have ho4 := ho2.trans ho3
      clear hrl hba hO2 hO1 hO hsm ho2 ho1' ho1
      have HSZ := Lib.hid hsz
      clear hsz
      go_wp2_with (at_builtin; refine wp_app1e (F := strF) (P := Tryd.prog) (y := s) rfl (.tmp 12) (.tmp 16) 24 rfl Tryd.underlying24 hi0 hz0 hz1 hz2 rfl (by decide) rfl (hO3.keep (w' := w2.alloc _) ((Below.refl _ _).alloc (Nat.le_refl _) _) (by omega)) w2.heap.size rfl (heap_alloc_new _ _) rfl (by omega) (by omega) (by simp; omega) ?_; intro v' w' hO' hb')
      have hbs : Below C w2 w' := ((Below.refl C w2).alloc (by omega) _).trans hb'
      have hsw := hbs.size
      go_roundw
      case rel => exact ⟨k + 1, ys ++ [s], by omega, by go_num, by simp; omega, (by intro t ht; rcases List.mem_append.1 ht with h | h; exact HS.out t h; obtain rfl := List.mem_singleton.1 h; exact HSZ.out), ho4.then hbs (by omega), hc3.below hbs (by omega), by omega, hO'⟩
      case measure => simp [intOf]; omega
    · have hkd : decide ((k : Int) < x) = false := decide_eq_false hlt
      go_wp2
      go_ret
      have hown := hO1.own hBC (by omega)
      have hHS := HS.out
      rw [HB.out] at hown
      exact ⟨_, ys, rfl, by omega, hHS, hown, ho1', hc1⟩
end Go.Proofs.YtjaginciejljkaaDoor
