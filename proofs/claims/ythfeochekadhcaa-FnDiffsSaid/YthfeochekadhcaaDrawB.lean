/- Frames for what draws and builds; l18Lines. -/
import Derived.Test.YthfeochekadhcaaDraw
namespace Go.Proofs.Ythfeochekadhcaa
open Go.RowKit
theorem Cur.below {g lo hi B : Nat} {xs : List Int} {w w' : World} (h : Cur g lo hi xs w) (hb : Below B w w') (hg : g < B) : Cur g lo hi xs w' := by
  obtain ⟨h1, h2, h3, sa, sc, i, h, a1, a2, a3, a4, a5, a6, a7, a8⟩ := h
  exact ⟨h1, Nat.lt_of_lt_of_le h2 hb.size, h3, sa, sc, i, h, a1, a2, (hb.cell (p := ⟨g, 0, none⟩) hg).trans a3, (hb.cell (p := ⟨g, 1, none⟩) hg).trans a4, (hb.cell (p := ⟨g, 2, none⟩) hg).trans a5, (hb.frozen (p := ⟨g, 1, none⟩) hg).trans a6, (hb.frozen (p := ⟨g, 2, none⟩) hg).trans a7, a8.below hb (by omega)⟩
theorem Cur.lt {g lo hi : Nat} {xs : List Int} {w : World} (h : Cur g lo hi xs w) : g < w.heap.size := h.2.1
theorem Out.then {lo hi C : Nat} {w w1 w2 : World} (h : Out lo hi w w1) (hb : Below C w1 w2) (hC : w.heap.size ≤ C) : Out lo hi w w2 :=
  ⟨hb.os.trans h.os, hb.tape.trans h.tape, hb.output.trans h.output, Nat.le_trans h.size hb.size, fun k hk hn => (hb.block k (Nat.lt_of_lt_of_le hk hC)).trans (h.block k hk hn)⟩
theorem OutE.out {α : Type} {F : Flat α} {T B C lo hi : Nat} {w w' : World} {v : Value} {xs : List α} (h : OutE F T B C w v xs) (ho : Out lo hi w w') (h1 : hi ≤ B) (hBC : B ≤ C) (hC : C ≤ w.heap.size) : OutE F T B C w' v xs := by
  rcases h with h | ⟨a, b, h⟩
  · exact .inl ((h.same (ho.same (Nat.le_refl _) (.inr (by omega)))).wide (Nat.le_refl _) ho.size)
  · exact .inr ⟨a, b, h.same (ho.same hC (.inr h1))⟩
/-- a slice literal -/
theorem rd_lit {α : Type} (F : Flat α) (w : World) (ls : List α) (arr : Array Value) (T : TypeId) (harr : arr.toList = F.cells ls) (hm : ls.length ≤ maxLen) : Rd F.shape w.heap.size (w.heap.size + 1) (w.alloc (.cells arr T)) (.slice (some ⟨w.heap.size, 0, none⟩) ls.length ls.length) ls := by
  refine ⟨_, _, rfl, Nat.le_refl _, hm, (fun e => by cases e), fun k hk => ⟨w.heap.size, 0, F.enc ls[k], rfl, Nat.le_refl _, Nat.lt_succ_self _, rfl, fun j u hu => ?_⟩⟩
  have hj : j < F.size := by
    have := (List.getElem?_eq_some_iff.1 hu).1
    rwa [F.len] at this
  refine cell_heap0 (heap_alloc_new w _) ?_
  show arr[0 + k * F.size + j]? = some u
  rw [Nat.zero_add, ← Array.getElem?_toList, harr, Flat.cells_at hk hj]
  exact hu
set_option maxHeartbeats 1000000 in
set_option maxRecDepth 100000 in
theorem l18Lines_any {g lo hi : Nat} {xs : List Int} {w : World} (hc : Cur g lo hi xs w) :
    Calls Try.prog 82 #[.pointer (some ⟨g, 0, none⟩)] w fun e w' => ∃ r ls, e = .returned r ∧ ls.length ≤ 7 ∧ (∀ s ∈ ls, SzOk s) ∧ Own strF 9 w.heap.size w'.heap.size w' r ls ∧ Out g (g + 1) w w' ∧ Cur g lo hi xs w' := by
  obtain ⟨i0, hi0, hz0, hz1, hz2⟩ := info_parts Try.infoString
  have hgl := hc.lt
  obtain ⟨B, HB⟩ : ∃ B, Hid (B = w.heap.size) := ⟨_, rfl⟩
  have hB1 : B ≤ w.heap.size := Nat.le_of_eq HB.out
  have hB2 : w.heap.size ≤ B := Nat.le_of_eq HB.out.symm
  go_enter Try.func82, Try.ntmps82
  go_wp2
  have hb0 : Below w.heap.size w (w.alloc (.cells #[] 9)) := (Below.refl _ _).alloc (Nat.le_refl _) _
  have hc0 := hc.below hb0 hgl
  have ho0 : Out g (g + 1) w (w.alloc (.cells #[] 9)) := Out.of_below hb0
  have hE0 := Own.empty strF 9 B w hB1
  obtain ⟨C, HC⟩ : ∃ C, Hid (C = (w.alloc (.cells #[] 9)).heap.size) := ⟨_, rfl⟩
  have hC1 : C ≤ (w.alloc (.cells #[] 9)).heap.size := Nat.le_of_eq HC.out
  have hC2 : (w.alloc (.cells #[] 9)).heap.size ≤ C := Nat.le_of_eq HC.out.symm
  have hOE : OutE strF 9 B C (w.alloc (.cells #[] 9)) (.slice (some ⟨w.heap.size, 0, none⟩) 0 0) [] := .inr ⟨rfl, ⟨_, rfl⟩, hE0.wide (Nat.le_refl _) hC2⟩
  have hBC : B ≤ C := Nat.le_trans hB1 (Nat.le_trans hb0.size hC2)
  clear hE0
  generalize w.alloc (.cells #[] 9) = w0 at *
  go_loopw [3, 4] (fun out i wr => ∃ (k : Nat) (ys : List ByteArray), k ≤ 7 ∧ i = .int .i64 k ∧ ys.length = k ∧ Hid (∀ s ∈ ys, SzOk s) ∧ Out g (g + 1) w wr ∧ Cur g lo hi xs wr ∧ C ≤ wr.heap.size ∧ OutE strF 9 B C wr out ys) (fun _ i _ => 8 - (intOf i).toNat)
  case atStart => exact ⟨0, [], Nat.zero_le _, rfl, rfl, (by intro s hs; cases hs), ho0, hc0, hC1, hOE⟩
  case round =>
    obtain ⟨k, ys, hk, rfl, hyl, HS, ho, hcu, hCw, hO⟩ := hrel
    go_wp2_with fail
    refine (l01Below_any hcu (by omega) (by omega)).mono ?_
    rintro e w1 ⟨x, rfl, x1, x2, ho1, hc1⟩
    have hO1 := hO.out ho1 (by omega) hBC hCw
    have hs1 := ho1.size
    have ho1' := ho.trans ho1
    by_cases hlt : (k : Int) < x
    · go_wp2_with fail
      have hrl := rd_lit strF w1 [ByteArray.mk #[97], ByteArray.mk #[98], ByteArray.mk #[99], ByteArray.mk #[]] #[.string (ByteArray.mk #[97]), .string (ByteArray.mk #[98]), .string (ByteArray.mk #[99]), .string (ByteArray.mk #[])] 9 rfl (by decide)
      have hba : Below w1.heap.size w1 (w1.alloc (.cells #[.string (ByteArray.mk #[97]), .string (ByteArray.mk #[98]), .string (ByteArray.mk #[99]), .string (ByteArray.mk #[])] 9)) := (Below.refl _ _).alloc (Nat.le_refl _) _
      have hsa : (w1.alloc (.cells #[.string (ByteArray.mk #[97]), .string (ByteArray.mk #[98]), .string (ByteArray.mk #[99]), .string (ByteArray.mk #[])] 9)).heap.size = w1.heap.size + 1 := by simp
      have hc2 := hc1.below hba hc1.lt
      have hgl1 := hc1.lt
      have ho2 := ho1'.then hba (by have := ho1'.size; omega)
      have hO2 := hO1.keep hba (by omega)
      refine (l01Pick_any hc2 hrl (by omega) (.inr (by omega)) (by decide) (by decide)).mono ?_
      rintro e w2 ⟨s, rfl, hsm, ho3, hc3⟩
      have hsz : SzOk s := by
        simp only [List.mem_cons, List.not_mem_nil, or_false] at hsm
        rcases hsm with rfl | rfl | rfl | rfl <;> (show _ ≤ maxLen; decide)
      have hO3 := hO2.out ho3 (by omega) hBC (by omega)
      have hs3 := ho3.size
      have ho4 := ho2.trans ho3
      clear hrl hba hO2 hO1 hO hsm ho2 ho1' ho1
      go_wp2_with (at_builtin; refine wp_app1e (F := strF) (P := Try.prog) (y := s) rfl (.tmp 12) (.tmp 16) 56 rfl Try.underlying56 hi0 hz0 hz1 hz2 rfl (by decide) rfl (hO3.keep (w' := w2.alloc _) ((Below.refl _ _).alloc (Nat.le_refl _) _) (by omega)) w2.heap.size rfl (heap_alloc_new _ _) rfl (by omega) (by omega) (by simp; omega) ?_; intro v' w' hO' hb')
      have hbs : Below C w2 w' := ((Below.refl C w2).alloc (by omega) _).trans hb'
      have hsw := hbs.size
      go_roundw
      case rel => exact ⟨k + 1, ys ++ [s], by omega, by go_num, by simp; omega, (by intro t ht; rcases List.mem_append.1 ht with h | h; exact HS.out t h; obtain rfl := List.mem_singleton.1 h; exact hsz), ho4.then hbs (by omega), hc3.below hbs (by omega), by omega, hO'⟩
      case measure => simp [intOf]; omega
    · have hkd : decide ((k : Int) < x) = false := decide_eq_false hlt
      go_wp2
      go_ret
      have hown := hO1.own hBC (by omega)
      have hHS := HS.out
      rw [HB.out] at hown
      exact ⟨_, ys, rfl, by omega, hHS, hown, ho1', hc1⟩
set_option maxHeartbeats 1000000 in
set_option maxRecDepth 100000 in
theorem drawLines_any {lo hi : Nat} {xs : List Int} {w : World} {v : Value} (hr : Rd bytS lo hi w v xs) (hh : hi ≤ w.heap.size) (hx : ∀ x ∈ xs, U8 x) (hl : xs.length ≤ 1048576) :
    Calls Try.prog 38 #[v] w fun e w' => ∃ ra rb la lb, e = .returned (.tuple #[ra, rb]) ∧ la.length ≤ 7 ∧ lb.length ≤ 7 ∧ (∀ s ∈ la, SzOk s) ∧ (∀ s ∈ lb, SzOk s) ∧ Rd strF.shape w.heap.size w'.heap.size w' ra la ∧ Rd strF.shape w.heap.size w'.heap.size w' rb lb ∧ Below w.heap.size w w' := by
  go_enter Try.func38, Try.ntmps38
  go_wp2_with fail
  refine (l01New_any hr hh hx hl).mono ?_
  rintro e w1 ⟨rfl, hb1, hc1, hs1⟩
  go_wp2_with fail
  refine (l18Lines_any hc1).mono ?_
  rintro e w2 ⟨ra, la, rfl, hla, hsa, hoa, ho2, hc2⟩
  have hs2 := ho2.size
  go_wp2_with fail
  refine (l18Lines_any hc2).mono ?_
  rintro e w3 ⟨rb, lb, rfl, hlb, hsb, hob, ho3, hc3⟩
  have hs3 := ho3.size
  have hb3 := blw_out (blw_out hb1 ho2 (Nat.le_refl _) (by omega)) ho3 (Nat.le_refl _) (by omega)
  go_wp2
  refine bodyPost_ret (v := .tuple #[ra, rb]) (by simp [results, Try.results38, go_sem]) rfl ?_
  exact ⟨ra, rb, la, lb, rfl, hla, hlb, hsa, hsb, (hoa.rd.same (ho3.same (Nat.le_refl _) (.inr (by omega)))).wide (by omega) (by omega), hob.rd.wide (by omega) (Nat.le_refl _), hb3⟩
theorem rd_rep (n : Nat) : ∀ s ∈ List.replicate n ByteArray.empty, SzOk s := by
  intro s hs
  obtain ⟨_, rfl⟩ := List.mem_replicate.1 hs
  show _ ≤ maxLen
  decide
set_option maxHeartbeats 1000000 in
set_option maxRecDepth 100000 in
theorem l18Pair_any {lo hi : Nat} {xs : List Int} {w : World} {v : Value} (hr : Rd bytS lo hi w v xs) (hh : hi ≤ w.heap.size) (hx : ∀ x ∈ xs, U8 x) (hl : xs.length ≤ 1048576) :
    Calls Try.prog 86 #[v] w fun e w' => ∃ ra rb la lb, e = .returned (.tuple #[ra, rb]) ∧ la.length ≤ 7 ∧ lb.length ≤ 201 ∧ (∀ s ∈ la, SzOk s) ∧ (∀ s ∈ lb, SzOk s) ∧ Rd strF.shape w.heap.size w'.heap.size w' ra la ∧ Rd strF.shape w.heap.size w'.heap.size w' rb lb ∧ Below w.heap.size w w' := by
  obtain ⟨i0, hi0, hz0, hz1, hz2⟩ := info_parts Try.infoString
  go_enter Try.func86, Try.ntmps86
  go_wp2_with fail
  refine (l01New_any hr hh hx hl).mono ?_
  rintro e w1 ⟨rfl, hb1, hc1, hs1⟩
  go_wp2_with fail
  refine (l18Lines_any hc1).mono ?_
  rintro e w2 ⟨ra, la, rfl, hla, hsa, hoa, ho2, hc2⟩
  have hs2 := ho2.size
  go_wp2_with fail
  refine (l18Lines_any hc2).mono ?_
  rintro e w3 ⟨rb, lb, rfl, hlb, hsb, hob, ho3, hc3⟩
  have hs3 := ho3.size
  have hb3 := blw_out (blw_out hb1 ho2 (Nat.le_refl _) (by omega)) ho3 (Nat.le_refl _) (by omega)
  have hra := (hoa.rd.same (ho3.same (Nat.le_refl _) (.inr (by omega)))).wide (lo' := w.heap.size + 1) (hi' := w3.heap.size) (by omega) (by omega)
  have hrb := hob.rd.wide (lo' := w.heap.size + 1) (hi' := w3.heap.size) (by omega) (Nat.le_refl _)
  clear hoa hob ho2 ho3
  go_wp2_with fail
  refine (l01Once_any hc3 (by omega) (by omega)).mono ?_
  rintro e w4 ⟨b, rfl, ho4, hc4⟩
  have hs4 := ho4.size
  have hb4 := blw_out hb3 ho4 (Nat.le_refl _) (by omega)
  replace hra := hra.same (ho4.same (Nat.le_refl _) (.inr (by omega)))
  replace hrb := hrb.same (ho4.same (Nat.le_refl _) (.inr (by omega)))
  cases b with
  | false =>
    go_wp2
    refine bodyPost_ret (v := .tuple #[ra, rb]) (by simp [results, Try.results86, go_sem]) rfl ?_
    exact ⟨ra, rb, la, lb, rfl, hla, by omega, hsa, hsb, hra.wide (by omega) (by omega), hrb.wide (by omega) (by omega), hb4⟩
  | true =>
    go_wp2_with fail
    refine (l01Below_any hc4 (by omega) (by omega)).mono ?_
    rintro e w5 ⟨x, rfl, x1, x2, ho5, hc5⟩
    have hs5 := ho5.size
    have hb5 := blw_out hb4 ho5 (Nat.le_refl _) (by omega)
    replace hra := hra.same (ho5.same (by omega) (.inr (by omega)))
    obtain ⟨k, rfl⟩ := Int.eq_ofNat_of_zero_le x1
    have hk : k ≤ 1 := by omega
    go_wp2_with (at_make; refine wpList_make_full _ rfl _ _ 56 rfl w5.heap.size 9 i0 _ 1 Try.underlying56 hi0 hz0 hz1 _ _ _ _ (200 + k) rfl rfl ?b4 ?b5 ?b1 ?b2 ?b3 ?_)
    case b4 => omega
    case b5 => omega
    case b1 => rw [hz2]; omega
    case b2 => unfold maxLen; omega
    case b3 => exact Nat.le_refl _
    intro w6 hown hg
    have hb6 : Below w5.heap.size w5 w6 := (Below.refl _ _).grown hg (Nat.le_refl _) (fun k hk => by cases hk)
    have hO : Own strF 9 w5.heap.size w6.heap.size w6 (.slice (some ⟨w5.heap.size, 0, none⟩) (200 + k) (200 + k)) (List.replicate (200 + k) ByteArray.empty) :=
      Own.of_row hown (by simp) (by have h := made_cells strF (by decide) ByteArray.empty #[.string ByteArray.empty] rfl (200 + k); rw [show (200 + k) * strF.size = 200 + k from Nat.mul_one _] at h; exact h) (Nat.le_refl _)
    have hs6 := hb6.size
    replace hra := hra.below hb6 (by omega)
    have hsr := rd_rep (200 + k)
    have hrr := hO.rd.wide (lo' := w.heap.size) (hi' := w6.heap.size) (by omega) (Nat.le_refl _)
    clear hown hg hO
    go_wp2
    refine bodyPost_ret (v := .tuple #[ra, .slice (some ⟨w5.heap.size, 0, none⟩) (200 + k) (200 + k)]) (by simp [results, Try.results86, go_sem]) rfl ?_
    exact ⟨ra, _, la, _, rfl, hla, by rw [List.length_replicate]; omega, hsa, hsr, hra.wide (by omega) (by omega), hrr, hb5.trans (hb6.mono (by omega))⟩
end Go.Proofs.Ythfeochekadhcaa
