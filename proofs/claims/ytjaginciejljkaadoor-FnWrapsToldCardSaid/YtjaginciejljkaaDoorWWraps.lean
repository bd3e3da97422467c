/- The walk of FnWraps. -/
import Derived.Test.YtjaginciejljkaaDoorDrawW
import Derived.Test.YtjaginciejljkaaDoorWordsOf
namespace Go.Proofs.YtjaginciejljkaaDoor
open Go.RowKit

theorem big_any {lo hi : Nat} {xs : List Int} {w : World} {v : Value} (hr : Rd bytS lo hi w v xs) :
    Calls Tryd.prog 5 #[v] w fun e w' => e = .returned (.bool (decide (1048576 < xs.length))) ∧ w = w' := by
  have hl := hr.len_le
  obtain ⟨a, c, rfl, _⟩ := hr
  go_enter Tryd.func5, Tryd.ntmps5
  go_wp2
  go_ret
  exact ⟨ret_bool (by simp; omega), rfl⟩
set_option maxHeartbeats 400000 in
set_option maxRecDepth 100000 in
theorem sameTx_any (xs : List ByteArray) (v u : Value) (lo hi lo' hi' : Nat) (w : World) (hr : Rd strF.shape lo hi w v xs) (hh : hi ≤ w.heap.size) (hr' : Rd strF.shape lo' hi' w u xs) (hh' : hi' ≤ w.heap.size) :
    Calls Tryd.prog 12 #[v, u] w fun e w' => e = .returned (.bool true) ∧ Below w.heap.size w w' := by
  have hl := hr.len_le
  obtain ⟨a, c, rfl, h2, h3, h4, h5⟩ := hr.strF
  obtain ⟨a', c', rfl, h2', h3', h4', h5'⟩ := hr'.strF
  unfold maxLen at h3 h3'
  go_enter Tryd.func12, Tryd.ntmps12
  go_wp2
  go_loopw [5] (fun i wr => ∃ k : Nat, k ≤ xs.length ∧ i = .int .i64 k ∧ Below w.heap.size w wr) (fun i _ => xs.length - (intOf i).toNat)
  case atStart => exact ⟨0, Nat.zero_le _, rfl, Below.refl _ _⟩
  case round =>
    obtain ⟨k, hk, rfl, hb⟩ := hrel
    by_cases hlt : k < xs.length
    · obtain ⟨b, off, rfl, hlo, hhi, c0⟩ := h5 k hlt
      obtain ⟨b', off', rfl, hlo', hhi', q0⟩ := h5' k hlt
      have d0 := (hb.cell (p := ⟨b, _, none⟩) (by show b < _; omega)).trans c0
      have r0 := (hb.cell (p := ⟨b', _, none⟩) (by show b' < _; omega)).trans q0
      clear c0 q0
      have hki : (k : Int) < (xs.length : Int) := by omega
      generalize xs[k] = x at *
      go_wp2_with fail
      go_quiet (fail)
      go_wp2
      go_roundw
      case rel => exact ⟨k + 1, by omega, by go_num, blw_drewN hb _⟩
      case measure => simp [intOf]; omega
    · go_wp2
      go_ret
      exact ⟨rfl, hb⟩
set_option maxHeartbeats 400000 in
set_option maxRecDepth 100000 in
theorem drawWords_any {lo hi : Nat} {xs : List Int} {w : World} {v : Value} (hr : Rd bytS lo hi w v xs) (hh : hi ≤ w.heap.size) (hx : ∀ x ∈ xs, U8 x) (hl : xs.length ≤ 1048576) :
    Calls Tryd.prog 6 #[v] w fun e w' => ∃ r ls, e = .returned r ∧ ls.length ≤ 11 ∧ (∀ s ∈ ls, WordD s) ∧ Own strF 9 w.heap.size w'.heap.size w' r ls ∧ Below w.heap.size w w' := by
  go_enter Tryd.func6, Tryd.ntmps6
  go_wp2_with fail
  refine (l01New_any hr hh hx hl).mono ?_
  rintro e w1 ⟨rfl, hb1, hc1, hs1⟩
  go_wp2_with fail
  refine (l17Words_any hc1).mono ?_
  rintro e w2 ⟨r, ls, rfl, h1, h2, ho, hou, _⟩
  have hs2 := hou.size
  go_wp2
  go_ret
  exact ⟨r, ls, rfl, h1, h2, ho.wide (by omega) (Nat.le_refl _), blw_out hb1 hou (Nat.le_refl _) (by omega)⟩
set_option maxHeartbeats 1000000 in
set_option maxRecDepth 100000 in
theorem drawPlaces_any {lo hi : Nat} {xs : List Int} {w : World} {v : Value} (hr : Rd bytS lo hi w v xs) (hh : hi ≤ w.heap.size) (hx : ∀ x ∈ xs, U8 x) (hl : xs.length ≤ 1048576) :
    Calls Tryd.prog 7 #[v] w fun e w' => ∃ r ps, e = .returned r ∧ ps.length = 12 ∧ (∀ p ∈ ps, 0 ≤ p ∧ p < 10000) ∧ Own intF 3 w.heap.size w'.heap.size w' r ps ∧ Below w.heap.size w w' := by
  obtain ⟨i0, hi0, hz0, hz1, hz2⟩ := info_parts Tryd.infoInt1
  obtain ⟨B, HB⟩ : ∃ B, Hid (B = w.heap.size) := ⟨_, rfl⟩
  have hB1 : B ≤ w.heap.size := Nat.le_of_eq HB.out
  have hB2 : w.heap.size ≤ B := Nat.le_of_eq HB.out.symm
  go_enter Tryd.func7, Tryd.ntmps7
  go_wp2_with fail
  refine (l01New_any hr hh hx hl).mono ?_
  rintro e w1 ⟨rfl, hb1, hc1, hs1⟩
  go_wp2_with fail
  refine (l01Byte_any hc1).mono ?_
  rintro e w2 ⟨x0, rfl, _, ho2, hc2⟩
  have hs2 := ho2.size
  have hgl := hc2.lt
  have hb2 := blw_out hb1 ho2 (Nat.le_refl _) (by omega)
  go_wp2
  have hb0 : Below w2.heap.size w2 (w2.alloc (.cells #[] 3)) := (Below.refl _ _).alloc (Nat.le_refl _) _
  have hc0 := hc2.below hb0 hgl
  have hb3 : Below B w (w2.alloc (.cells #[] 3)) := (hb2.mono hB1).trans (hb0.mono (by omega))
  have hE0 := Own.empty intF 3 (w.heap.size + 1) w2 (by omega)
  obtain ⟨C, HC⟩ : ∃ C, Hid (C = (w2.alloc (.cells #[] 3)).heap.size) := ⟨_, rfl⟩
  have hC1 : C ≤ (w2.alloc (.cells #[] 3)).heap.size := Nat.le_of_eq HC.out
  have hC2 : (w2.alloc (.cells #[] 3)).heap.size ≤ C := Nat.le_of_eq HC.out.symm
  have hOE : OutE intF 3 (w.heap.size + 1) C (w2.alloc (.cells #[] 3)) (.slice (some ⟨w2.heap.size, 0, none⟩) 0 0) [] := .inr ⟨rfl, ⟨_, rfl⟩, hE0.wide (Nat.le_refl _) hC2⟩
  have hBC : w.heap.size + 1 ≤ C := by have := hb0.size; omega
  clear hE0 hb0
  generalize w2.alloc (.cells #[] 3) = w3 at *
  generalize hg : w.heap.size = g at *
  go_loopw [4, 5] (fun out i wr => ∃ (k : Nat) (ys : List Int), k ≤ 12 ∧ i = .int .i64 k ∧ ys.length = k ∧ Hid (∀ s ∈ ys, 0 ≤ s ∧ s < 10000) ∧ Below B w wr ∧ Cur g lo hi xs wr ∧ C ≤ wr.heap.size ∧ OutE intF 3 (g + 1) C wr out ys) (fun _ i _ => 12 - (intOf i).toNat)
  case atStart => exact ⟨0, [], Nat.zero_le _, rfl, rfl, (by intro s hs; cases hs), hb3, hc0, hC1, hOE⟩
  case round =>
    obtain ⟨k, ys, hk, rfl, hyl, HS, hb, hcu, hCw, hO⟩ := hrel
    by_cases hlt : k < 12
    · have hki : (k : Int) < 12 := by omega
      go_wp2_with fail
      refine (l01Below_big hcu (by omega) (by omega)).mono ?_
      rintro e w4 ⟨x, rfl, x1, x2, ho4, hc4⟩
      have hO4 := hO.out ho4 (Nat.le_refl _) hBC hCw
      have hs4 := ho4.size
      have hb4 : Below B w w4 := blw_out hb ho4 (by omega) (by omega)
      go_wp2_with (at_builtin; refine wp_app1e (F := intF) (P := Tryd.prog) (y := x) rfl (.tmp 15) (.tmp 18) 26 rfl Tryd.underlying26 hi0 hz0 hz1 hz2 rfl (by decide) rfl (hO4.keep (w' := w4.alloc _) ((Below.refl _ _).alloc (Nat.le_refl _) _) (by omega)) w4.heap.size rfl (heap_alloc_new _ _) rfl (by omega) (by omega) (by simp; omega) ?_; intro v' w' hO' hb')
      have hbs : Below C w4 w' := ((Below.refl C w4).alloc (by omega) _).trans hb'
      have hsw := hbs.size
      go_roundw
      case rel => exact ⟨k + 1, ys ++ [x], by omega, by go_num, by simp; omega, (by intro t ht; rcases List.mem_append.1 ht with h | h; exact HS.out t h; obtain rfl := List.mem_singleton.1 h; exact ⟨x1, x2⟩), hb4.trans (hbs.mono (by omega)), hc4.below hbs (by omega), by omega, hO'⟩
      case measure => simp [intOf]; omega
    · have hki : ¬ (k : Int) < 12 := by omega
      obtain rfl : k = 12 := by omega
      go_wp2
      go_ret
      have hown := hO.own hBC (by omega)
      subst hg
      have e := HB.out
      subst e
      have hw := hown.wide (lo' := w.heap.size) (by omega) (Nat.le_refl _)
      first
        | exact ⟨_, ys, rfl, hyl, HS.out, hw, hb⟩
        | exact ⟨_, rfl, ys, hyl, HS.out, hw, hb⟩
theorem sz_bound {ws : List ByteArray} {M : Nat} (h : ∀ x ∈ ws, x.size ≤ M) : szSum ws ≤ M * ws.length := by
  induction ws with
  | nil => simp [szSum, sumOf]
  | cons x xs ih =>
    have h1 := h x (by simp)
    have h2 := ih (fun y hy => h y (by simp [hy]))
    rw [show x :: xs = [x] ++ xs from rfl, szSum_append, szSum_one, List.length_append, Nat.mul_add]
    simp
    omega
theorem flatW_len {ls : List ByteArray} {M : Nat} (h : ∀ x ∈ ls, x.size ≤ M) : (flatW ls).length ≤ (M + 1) * ls.length := by
  induction ls with
  | nil => simp [flatW]
  | cons x xs ih =>
    have h1 := h x (by simp)
    have h2 := ih (fun y hy => h y (by simp [hy]))
    rw [size_list] at h1
    rw [show x :: xs = [x] ++ xs from rfl, flatW_app, flatW_one, List.length_append, List.length_append, List.length_append, Nat.mul_add]
    simp
    simp at h1
    omega
def flatB (ls : List ByteArray) : ByteArray := ⟨(flatW ls).toArray⟩
theorem flatB_size {ls : List ByteArray} {M : Nat} (h : ∀ x ∈ ls, x.size ≤ M) : (flatB ls).size ≤ (M + 1) * ls.length := by
  show (flatW ls).toArray.size ≤ _
  have := flatW_len h
  simpa using this
theorem flatB_succ {ls : List ByteArray} {k : Nat} (h : k < ls.length) : flatB (ls.take (k + 1)) = flatB (ls.take k) ++ ls[k] ++ ⟨#[32]⟩ := by
  unfold flatB
  rw [List.take_succ_eq_append_getElem h, flatW_app, flatW_one]
  apply ByteArray.ext
  simp
theorem part_size {ws : List ByteArray} (hz : ∀ x ∈ ws, x.size ≤ 1000) : ∀ (ts : List Nat) (i : Nat), (∀ t ∈ ts, 1 ≤ t) → i + ts.sum ≤ ws.length → ∀ l ∈ partL ws i ts, l.size ≤ 1001 * ws.length
  | [], i, _, _, l, hl => by simp [partL] at hl
  | t :: ts, i, h1, h, l, hl => by
    rw [List.sum_cons] at h
    rw [partL] at hl
    rcases List.mem_cons.1 hl with rfl | hl
    · have ht := h1 t (by simp)
      have e1 := joinL_size (ws := ws) i t ht
      have e2 := lineS_le hz i t
      omega
    · exact part_size hz ts (i + t) (fun x hx => h1 x (by simp [hx])) (by omega) l hl
theorem best_size {ws : List ByteArray} {width : Int} (hz : ∀ x ∈ ws, x.size ≤ 1000) : ∀ l ∈ bestL ws width, l.size ≤ 1001 * ws.length := by
  intro l hl
  unfold bestL at hl
  split at hl
  · obtain ⟨ts, h1, h2, h3, _⟩ := best_part (ws := ws) (width := width) ws.length 0 (by omega) (Nat.zero_le _)
    have e : bestF ws width ws.length 0 = partL ws 0 ts := h3
    rw [e] at hl
    exact part_size hz ts 0 h1 (by omega) l hl
  · cases hl
theorem best_len {ws : List ByteArray} {width : Int} : (bestL ws width).length ≤ ws.length := by
  unfold bestL
  split
  · obtain ⟨ts, h1, h2, h3, _⟩ := best_part (ws := ws) (width := width) ws.length 0 (by omega) (Nat.zero_le _)
    have e : bestF ws width ws.length 0 = partL ws 0 ts := h3
    rw [e, partL_len]
    have : ∀ ts : List Nat, (∀ t ∈ ts, 1 ≤ t) → ts.length ≤ ts.sum := by
      intro ts
      induction ts with
      | nil => intro _; simp
      | cons t ts ih => intro h; have := h t (by simp); have := ih (fun x hx => h x (by simp [hx])); simp; omega
    have := this ts h1
    omega
  · simp
end Go.Proofs.YtjaginciejljkaaDoor
