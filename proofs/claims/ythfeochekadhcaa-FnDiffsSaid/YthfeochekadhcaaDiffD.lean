/- What FnDiffs draws; how the law compares. -/
import Derived.Test.YthfeochekadhcaaDrawB
import Derived.Test.YthfeochekadhcaaDiffW
import Derived.Test.YthfeochekadhcaaApplyEdits
import Derived.Test.YthfeochekadhcaaBackOf
import Derived.Test.YthfeochekadhcaaKeptIn
namespace Go.Proofs.Ythfeochekadhcaa
open Go.RowKit
set_option maxHeartbeats 1000000 in
set_option maxRecDepth 100000 in
theorem drawDiffOf_any {lo hi : Nat} {xs : List Int} {w : World} {v : Value} (hr : Rd bytS lo hi w v xs) (hh : hi ≤ w.heap.size) (hx : ∀ x ∈ xs, U8 x) (hl : xs.length ≤ 1048576) :
    Calls Try.prog 43 #[v] w fun e w' => ∃ ra rb la lb, e = .returned (.tuple #[ra, rb]) ∧ la.length ≤ 7 ∧ lb.length ≤ 201 ∧ (∀ s ∈ la, SzOk s) ∧ (∀ s ∈ lb, SzOk s) ∧ Rd strF.shape w.heap.size w'.heap.size w' ra la ∧ Rd strF.shape w.heap.size w'.heap.size w' rb lb ∧ Below w.heap.size w w' := by
  go_enter Try.func43, Try.ntmps43
  go_wp2_with fail
  refine (l18Pair_any hr hh hx hl).mono ?_
  rintro e w1 ⟨ra, rb, la, lb, rfl, h1, h2, h3, h4, h5, h6, h7⟩
  go_wp2
  refine bodyPost_ret (v := .tuple #[ra, rb]) (by simp [results, Try.results43, go_sem]) rfl ?_
  exact ⟨ra, rb, la, lb, rfl, h1, h2, h3, h4, h5, h6, h7⟩
set_option maxHeartbeats 1000000 in
set_option maxRecDepth 100000 in
theorem drawApplyEdits_any {lo hi : Nat} {xs : List Int} {w : World} {v : Value} (hr : Rd bytS lo hi w v xs) (hh : hi ≤ w.heap.size) (hx : ∀ x ∈ xs, U8 x) (hl : xs.length ≤ 1048576) :
    Calls Try.prog 44 #[v] w fun e w' => ∃ ra rb la lb, e = .returned (.tuple #[ra, rb]) ∧ la.length ≤ 7 ∧ lb.length ≤ 401 ∧ (∀ s ∈ la, SzOk s) ∧ Rd strF.shape w.heap.size w'.heap.size w' ra la ∧ Rd editF.shape w.heap.size w'.heap.size w' rb lb ∧ Below w.heap.size w w' := by
  obtain ⟨i0, hi0, hz0, hz1, hz2⟩ := info_parts Try.infoEdit
  go_enter Try.func44, Try.ntmps44
  go_wp2_with fail
  refine (l01New_any hr hh hx hl).mono ?_
  rintro e w1 ⟨rfl, hb1, hc1, hs1⟩
  go_wp2_with fail
  refine (l01Below_any hc1 (by omega) (by omega)).mono ?_
  rintro e w2 ⟨k, rfl, k1, k2, ho2, hc2⟩
  have hs2 := ho2.size
  have hb2 := blw_out hb1 ho2 (Nat.le_refl _) (by omega)
  go_wp2_with fail
  refine (l18Pair_any (hr.below hb2 hh) (by omega) hx hl).mono ?_
  rintro e w3 ⟨ra, rb, la, lb, rfl, h1, h2, h3, h4, h5, h6, hb3'⟩
  have hs3 := hb3'.size
  have hb3 := hb2.trans (hb3'.mono (by omega))
  have hc3 := hc2.below hb3' hc2.lt
  go_wp2_with fail
  refine (diffOf_spec h5 (Nat.le_refl _) h6 (Nat.le_refl _)).mono ?_
  rintro e w4 ⟨r, rfl, hb4', hO⟩
  have hs4 := hb4'.size
  have hb4 := hb3.trans (hb4'.mono (by omega))
  have hc4 := hc3.below hb4' hc3.lt
  have h5' := (h5.below hb4' (Nat.le_refl _)).wide (lo' := w.heap.size + 1) (hi' := w4.heap.size) (by omega) hs4
  have h5s := (h5.below hb4' (Nat.le_refl _))
  have hln := difOf_len la lb
  generalize difOf la lb = es at *
  obtain ⟨a, c, rfl, n1, n2, n3⟩ := hO.form
  unfold maxLen at n2
  have hg0 : w.heap.size < w4.heap.size := by omega
  clear hc1 hc2 hc3 h5 h6 hb1 hb2 hb3 hb3' hb4' ho2 hr
  have hd0 : decide (0 < (es.length : Int)) = decide (0 < es.length) := by simp
  by_cases hk0 : k = 0
  · subst hk0
    by_cases he : 0 < es.length
    · have hen : (0 : Int) < (es.length : Int) := by omega
      obtain ⟨g, rfl, hgl, hgh⟩ := n3 he
      go_wp2_with fail
      refine (l01Below_any hc4 (by omega) (by omega)).mono ?_
      rintro e w5 ⟨x, rfl, x1, x2, ho5, hc5⟩
      have hs5 := ho5.size
      have hb5 := blw_out hb4 ho5 (Nat.le_refl _) (by omega)
      have hO5 := hO.same (ho5.same (Nat.le_refl _) (.inr (by omega)))
      have h55 := h5'.same (ho5.same (Nat.le_refl _) (.inr (by omega)))
      obtain ⟨u0, f0⟩ : ∃ u, w5.cell? ⟨g, 0, none⟩ = some u := ⟨_, (congrArg (fun q => w5.cell? ⟨g, q, none⟩) (show 0 = 0 * editF.size + 0 by simp)).trans ((hO5.cell (k := 0) (j := 0) rfl he (by decide)).trans rfl)⟩
      have g0 : w5.frozen? ⟨g, 0, none⟩ = false := hO5.frozen rfl _
      go_wp2
      have hst := hO5.set (k := 0) (j := 0) (u := .int .i64 x) (x := ⟨x, es[0].line⟩) rfl he (by decide) rfl
      have hst2 : Own editF 91 w3.heap.size w4.heap.size (w5.setCell ⟨g, 0, none⟩ (.int .i64 x)) (.slice (some ⟨g, 0, none⟩) es.length c) (es.set 0 ⟨x, es[0].line⟩) := hst
      have hb6 := hb5.setCell (p := ⟨g, 0, none⟩) (by show w.heap.size ≤ g; omega) (.int .i64 x)
      have hbs : Below w3.heap.size w5 (w5.setCell ⟨g, 0, none⟩ (.int .i64 x)) := (Below.refl _ _).setCell (p := ⟨g, 0, none⟩) hgl _
      have hs6 := hbs.size
      refine bodyPost_ret (v := .tuple #[ra, .slice (some ⟨g, 0, none⟩) es.length c]) (by simp [results, Try.results44, go_sem]) rfl ?_
      exact ⟨ra, _, la, es.set 0 ⟨x, es[0].line⟩, rfl, h1, by rw [List.length_set]; omega, h3, ((h5s.same (ho5.same (by omega) (.inr (by omega)))).below hbs (Nat.le_refl _)).wide (by omega) (by omega), hst2.rd.wide (by omega) (by omega), hb6⟩
    · have hen : decide ((0 : Int) < (es.length : Int)) = false := decide_eq_false (by omega)
      go_wp2
      refine bodyPost_ret (v := .tuple #[ra, .slice a es.length c]) (by simp [results, Try.results44, go_sem]) rfl ?_
      exact ⟨ra, _, la, es, rfl, h1, by omega, h3, h5'.wide (by omega) (Nat.le_refl _), hO.rd.wide (by omega) (Nat.le_refl _), hb4⟩
  · obtain ⟨e1, e2, e3⟩ : (k == 0) = false ∧ decide (k = 0) = false ∧ True := ⟨beq_eq_false_iff_ne.2 hk0, decide_eq_false hk0, trivial⟩
    by_cases hk1 : k = 1
    · subst hk1
      go_wp2_with (at_builtin; refine wp_app1 (F := editF) (P := Try.prog) (y := ⟨1, ByteArray.mk #[97]⟩) rfl (.tmp 35) (.tmp 37) 35 rfl Try.underlying35 hi0 hz0 hz1 hz2 rfl (by decide) rfl (hO.alloc _) w4.heap.size rfl (heap_alloc_new _ _) rfl (by omega) (by omega) (by simp; omega) ?_; intro v' w' hO' hb')
      have hbs : Below w3.heap.size w4 w' := ((Below.refl _ _).alloc (by omega) _).trans hb'
      have hsw := hbs.size
      go_wp2
      refine bodyPost_ret (v := .tuple #[ra, v']) (by simp [results, Try.results44, go_sem]) rfl ?_
      exact ⟨ra, _, la, es ++ [⟨1, ByteArray.mk #[97]⟩], rfl, h1, by simp; omega, h3, (h5s.below hbs (Nat.le_refl _)).wide (by omega) (by omega), hO'.rd.wide (by omega) (Nat.le_refl _), hb4.trans (hbs.mono (by omega))⟩
    · obtain ⟨e4, e5⟩ : (k == 1) = false ∧ decide (k = 1) = false := ⟨beq_eq_false_iff_ne.2 hk1, decide_eq_false hk1⟩
      go_wp2
      refine bodyPost_ret (v := .tuple #[ra, .slice a es.length c]) (by simp [results, Try.results44, go_sem]) rfl ?_
      exact ⟨ra, _, la, es, rfl, h1, by omega, h3, h5'.wide (by omega) (Nat.le_refl _), hO.rd.wide (by omega) (Nat.le_refl _), hb4⟩
set_option maxHeartbeats 1000000 in
set_option maxRecDepth 100000 in
theorem drawBackOf_any {lo hi : Nat} {xs : List Int} {w : World} {v : Value} (hr : Rd bytS lo hi w v xs) (hh : hi ≤ w.heap.size) (hx : ∀ x ∈ xs, U8 x) (hl : xs.length ≤ 1048576) :
    Calls Try.prog 46 #[v] w fun e w' => ∃ rb lb, e = .returned rb ∧ lb.length ≤ 401 ∧ Rd editF.shape w.heap.size w'.heap.size w' rb lb ∧ Below w.heap.size w w' := by
  go_enter Try.func46, Try.ntmps46
  go_wp2_with fail
  refine (drawApplyEdits_any hr hh hx hl).mono ?_
  rintro e w1 ⟨ra, rb, la, lb, rfl, _, h2, _, _, h5, h6⟩
  go_wp2
  go_ret
  exact ⟨rb, lb, rfl, h2, h5, h6⟩
set_option maxHeartbeats 400000 in
set_option maxRecDepth 100000 in
theorem sameTx_any (xs : List ByteArray) (v u : Value) (lo hi lo' hi' : Nat) (w : World) (hr : Rd strF.shape lo hi w v xs) (hh : hi ≤ w.heap.size) (hr' : Rd strF.shape lo' hi' w u xs) (hh' : hi' ≤ w.heap.size) :
    Calls Try.prog 47 #[v, u] w fun e w' => e = .returned (.bool true) ∧ Below w.heap.size w w' := by
  have hl := hr.len_le
  obtain ⟨a, c, rfl, h2, h3, h4, h5⟩ := hr.strF
  obtain ⟨a', c', rfl, h2', h3', h4', h5'⟩ := hr'.strF
  unfold maxLen at h3 h3'
  go_enter Try.func47, Try.ntmps47
  go_wp2
  go_loopw [5] (fun i wr => ∃ k : Nat, k ≤ xs.length ∧ i = .int .i64 k ∧ Below w.heap.size w wr) (fun i _ => xs.length - (intOf i).toNat)
  case atStart => exact ⟨0, Nat.zero_le _, rfl, Below.refl _ _⟩
  case round =>
    obtain ⟨k, hk, rfl, hb⟩ := hrel
    by_cases hlt : k < xs.length
    · obtain ⟨b, off, rfl, hlo, hhi, c0⟩ := h5 k hlt
      obtain ⟨b', off', rfl, hlo', hhi', q0⟩ := h5' k hlt
      have d0 := (hb.cell (p := ⟨b, _, none⟩) (by show b < _; omega)).trans c0
      have r0 := (hb.cell (p := ⟨b', _, none⟩) (by show b' < _; omega)).trans q0
      clear c0 q0
      have hki : (k : Int) < (xs.length : Int) := by omega
      generalize xs[k] = x at *
      go_wp2_with fail
      go_quiet (fail)
      go_wp2
      go_roundw
      case rel => exact ⟨k + 1, by omega, by go_num, blw_drewN hb _⟩
      case measure => simp [intOf]; omega
    · go_wp2
      go_ret
      exact ⟨rfl, hb⟩
set_option maxHeartbeats 400000 in
set_option maxRecDepth 100000 in
theorem sameEdits_any (xs : List Edit) (v u : Value) (lo hi lo' hi' : Nat) (w : World) (hr : Rd editF.shape lo hi w v xs) (hh : hi ≤ w.heap.size) (hr' : Rd editF.shape lo' hi' w u xs) (hh' : hi' ≤ w.heap.size) :
    Calls Try.prog 48 #[v, u] w fun e w' => e = .returned (.bool true) ∧ Below w.heap.size w w' := by
  have hl := hr.len_le
  obtain ⟨a, c, rfl, h2, h3, h4, h5⟩ := hr.editF
  obtain ⟨a', c', rfl, h2', h3', h4', h5'⟩ := hr'.editF
  unfold maxLen at h3 h3'
  go_enter Try.func48, Try.ntmps48
  go_wp2
  go_loopw [5] (fun i wr => ∃ k : Nat, k ≤ xs.length ∧ i = .int .i64 k ∧ Below w.heap.size w wr) (fun i _ => xs.length - (intOf i).toNat)
  case atStart => exact ⟨0, Nat.zero_le _, rfl, Below.refl _ _⟩
  case round =>
    obtain ⟨k, hk, rfl, hb⟩ := hrel
    by_cases hlt : k < xs.length
    · obtain ⟨b, off, rfl, hlo, hhi, c0, c1⟩ := h5 k hlt
      obtain ⟨b', off', rfl, hlo', hhi', q0, q1⟩ := h5' k hlt
      have d0 := (hb.cell (p := ⟨b, _, none⟩) (by show b < _; omega)).trans c0
      have d1 := (hb.cell (p := ⟨b, _, none⟩) (by show b < _; omega)).trans c1
      have r0 := (hb.cell (p := ⟨b', _, none⟩) (by show b' < _; omega)).trans q0
      have r1 := (hb.cell (p := ⟨b', _, none⟩) (by show b' < _; omega)).trans q1
      clear c0 q0 c1 q1
      have hki : (k : Int) < (xs.length : Int) := by omega
      generalize xs[k] = x at *
      obtain ⟨kind, line⟩ := x
      simp only at d0 d1 r0 r1
      go_wp2_with fail
      go_quiet (fail)
      go_wp2
      go_roundw
      case rel => exact ⟨k + 1, by omega, by go_num, blw_drewN hb _⟩
      case measure => simp [intOf]; omega
    · go_wp2
      go_ret
      exact ⟨rfl, hb⟩
end Go.Proofs.Ythfeochekadhcaa
