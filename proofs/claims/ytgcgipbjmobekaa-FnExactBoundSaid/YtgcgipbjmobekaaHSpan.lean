/- Span: how it lies in memory; the law's helpers for it. By gen.py. -/
import Derived.Test.YtgcgipbjmobekaaMark
namespace Go.Proofs.Ytgcgipbjmobekaa
open Go.RowKit
structure Span where
  fro : Int
  til : Int
  cost : Int
def spanF : Flat Span := ⟨3, fun x => [.int .i64 x.fro, .int .i64 x.til, .int .i64 x.cost], fun _ => rfl, fun x u h => by
  simp only [List.mem_cons, List.not_mem_nil, or_false] at h
  rcases h with h | h | h <;> subst h <;> rfl⟩
def Span.v (x : Span) : Value := .agg #[.int .i64 x.fro, .int .i64 x.til, .int .i64 x.cost]
def Span.zero : Span := ⟨0, 0, 0⟩
theorem Rd.spanF {lo hi : Nat} {w : World} {v : Value} {xs : List Span} (h : Rd spanF.shape lo hi w v xs) :
    ∃ a c, v = .slice a xs.length c ∧ xs.length ≤ c ∧ c ≤ maxLen ∧ (a = none → c = 0) ∧
      ∀ k (h : k < xs.length), ∃ b off, a = some ⟨b, off, none⟩ ∧ lo ≤ b ∧ b < hi ∧ w.cell? ⟨b, off + k * 3, none⟩ = some (.int .i64 xs[k].fro) ∧ w.cell? ⟨b, off + k * 3 + 1, none⟩ = some (.int .i64 xs[k].til) ∧ w.cell? ⟨b, off + k * 3 + 1 + 1, none⟩ = some (.int .i64 xs[k].cost) := by
  obtain ⟨a, c, h1, h2, h3, h4, h5⟩ := h
  refine ⟨a, c, h1, h2, h3, h4, fun k hk => ?_⟩
  obtain ⟨b, off, cs, e1, e2, e3, rfl, e5⟩ := h5 k hk
  exact ⟨b, off, e1, e2, e3, e5 0 _ rfl, e5 1 _ rfl, e5 2 _ rfl⟩
theorem Try.cells146 : Try.prog.cellsOf 146 = 3 := by kernel_rfl
def Span.Ok (x : Span) : Prop := I64 x.fro ∧ I64 x.til ∧ I64 x.cost
theorem opens_Span : Opens Try.prog spanF.shape 146 Span.Ok := by
  intro H enc w base spare held fuel cs x hx
  obtain ⟨ys, m, _, _, hlen, hl, hf⟩ := DataW.trod_struct Try.underlying146 hx
  rw [Try.cells146] at hlen
  obtain ⟨c0, r0, rfl, hn0⟩ := list_cons hlen
  obtain ⟨c1, r1, rfl, hn1⟩ := list_cons hn0
  obtain ⟨c2, r2, rfl, hn2⟩ := list_cons hn1
  obtain rfl := list_nil hn2
  have h0 : DataW.trod enc Try.prog w base spare held m 3 ((([c0, c1, c2] : List Value).drop 0).take (Try.prog.cellsOf 3)) = ys[0]? := hf 0 _ rfl
  rw [Try.cellsInt, List.getElem?_eq_getElem (show 0 < ys.length by rw [hl]; exact of_decide_eq_true rfl)] at h0
  obtain ⟨a0, e0, k0⟩ := opens_int Try.underlying3 H enc w base spare held m _ _ h0
  have h1 : DataW.trod enc Try.prog w base spare held m 3 ((([c0, c1, c2] : List Value).drop 1).take (Try.prog.cellsOf 3)) = ys[1]? := hf 1 _ rfl
  rw [Try.cellsInt, List.getElem?_eq_getElem (show 1 < ys.length by rw [hl]; exact of_decide_eq_true rfl)] at h1
  obtain ⟨a1, e1, k1⟩ := opens_int Try.underlying3 H enc w base spare held m _ _ h1
  have h2 : DataW.trod enc Try.prog w base spare held m 3 ((([c0, c1, c2] : List Value).drop 2).take (Try.prog.cellsOf 3)) = ys[2]? := hf 2 _ rfl
  rw [Try.cellsInt, List.getElem?_eq_getElem (show 2 < ys.length by rw [hl]; exact of_decide_eq_true rfl)] at h2
  obtain ⟨a2, e2, k2⟩ := opens_int Try.underlying3 H enc w base spare held m _ _ h2
  obtain rfl : c0 = .int .i64 a0 := (List.cons.inj e0).1
  obtain rfl : c1 = .int .i64 a1 := (List.cons.inj e1).1
  obtain rfl : c2 = .int .i64 a2 := (List.cons.inj e2).1
  exact ⟨⟨a0, a1, a2⟩, rfl, k0, k1, k2⟩

set_option maxHeartbeats 400000 in
theorem szSpanS_any (xs : List Span) (v : Value) (lo hi : Nat) (left : Int) (w : World) (hr : Rd spanF.shape lo hi w v xs) (_hh : hi ≤ w.heap.size) (h0 : 0 ≤ left) (h1 : left ≤ 1048576) :
    Calls Try.prog 87 #[v, .int .i64 left] w fun e w' => e = .returned (.int .i64 (szR left xs.length)) ∧ Below w.heap.size w w' := by
  have hl := hr.len_le
  obtain ⟨a, c, rfl, h2, h3, h4, h5⟩ := hr.spanF
  unfold maxLen at h3
  by_cases hc : left - (xs.length : Int) < 0
  · go_enter Try.func87, Try.ntmps87
    go_wp2
    go_ret
    exact ⟨ret_int (szR_no hc), (Below.refl _ _)⟩
  · go_enter Try.func87, Try.ntmps87
    go_wp2
    go_ret
    exact ⟨ret_int (szR_yes (by omega)), (Below.refl _ _)⟩

set_option maxHeartbeats 400000 in
theorem toSpan_any (x : Span) (w : World) :
    Calls Try.prog 124 #[x.v] w fun e w' => e = .returned x.v ∧ Below w.heap.size w w' := by
  obtain ⟨fro, til, cost⟩ := x
  unfold Span.v
  simp only
  go_enter Try.func124, Try.ntmps124
  go_wp2
  exact bodyPost_ret (v := .agg #[.int .i64 fro, .int .i64 til, .int .i64 cost]) (by simp [results, Try.results124, go_sem]) rfl ⟨rfl, (((Below.refl _ _).alloc (Nat.le_refl _) _).alloc (by simp) _).alloc (by simp; omega) _⟩

theorem Try.infoSpan : (Try.prog.info? 129).map (fun i => (i.zero, i.size, i.bytes)) = some (some (.agg #[.int .i64 0, .int .i64 0, .int .i64 0]), 3, 24) := by kernel_rfl
set_option maxHeartbeats 400000 in
set_option maxRecDepth 100000 in
theorem toSpanS_any (xs : List Span) (v : Value) (lo hi : Nat) (w : World) (hr : Rd spanF.shape lo hi w v xs) (hh : hi ≤ w.heap.size) (hl : xs.length ≤ 1048576) :
    Calls Try.prog 91 #[v] w fun e w' => ∃ u, e = .returned u ∧ Below w.heap.size w w' ∧ Own spanF 129 w.heap.size w'.heap.size w' u xs := by
  obtain ⟨a, c, rfl, h2, h3, h4, h5⟩ := hr.spanF
  unfold maxLen at h3
  obtain ⟨i0, hi0, hz0, hz1, hz2⟩ := info_parts Try.infoSpan
  go_enter Try.func91, Try.ntmps91
  go_wp2_with (at_make; refine wpList_make_full _ rfl _ _ 49 rfl w.heap.size 129 i0 _ 3 Try.underlying49 hi0 hz0 hz1 _ _ _ _ xs.length rfl rfl rfl rfl ?b1 ?b2 ?b3 ?_)
  case b1 => rw [hz2]; omega
  case b2 => unfold maxLen; omega
  case b3 => exact Nat.le_refl _
  intro w1 hown hg
  have hb1 : Below w.heap.size w w1 := (Below.refl _ _).grown hg (Nat.le_refl _) (fun k hk => by cases hk)
  have hO : Own spanF 129 w.heap.size w1.heap.size w1 (.slice (some ⟨w.heap.size, 0, none⟩) xs.length xs.length) (List.replicate xs.length Span.zero) :=
    Own.of_row hown (by simp) (made_cells spanF (by decide) Span.zero _ rfl _) (Nat.le_refl _)
  clear hown hg
  generalize hB : w.heap.size = B at *
  go_wp2
  go_loopw [4] (fun i wr => ∃ (k : Nat) (ys : List Span), k ≤ xs.length ∧ i = .int .i64 k ∧ ys.length = xs.length ∧ ys.take k = xs.take k ∧ Below B w wr ∧ Own spanF 129 B wr.heap.size wr (.slice (some ⟨B, 0, none⟩) xs.length xs.length) ys) (fun i _ => xs.length - (intOf i).toNat)
  case atStart => exact ⟨0, List.replicate xs.length Span.zero, Nat.zero_le _, rfl, by simp, by simp, hb1, hO⟩
  case round =>
    obtain ⟨k, ys, hk, rfl, hyl, hyt, hb, hO⟩ := hrel
    by_cases hlt : k < xs.length
    · obtain ⟨b, off, rfl, hlo, hhi, c0, c1, c2⟩ := h5 k hlt
      have d0 := (hb.cell (p := ⟨b, _, none⟩) (by show b < _; omega)).trans c0
      have d1 := (hb.cell (p := ⟨b, _, none⟩) (by show b < _; omega)).trans c1
      have d2 := (hb.cell (p := ⟨b, _, none⟩) (by show b < _; omega)).trans c2
      have hy := Lib.hid (take_set_self hlt hyl hyt)
      have hyl' := Lib.hid hyl
      clear c0 c1 c2 hyt
      generalize xs[k] = x at *
      obtain ⟨fro, til, cost⟩ := x
      simp only at d0 d1 d2
      go_wp2_with fail
      refine (toSpan_any ⟨fro, til, cost⟩ _).mono ?_
      rintro e w2 ⟨he, hb2⟩
      obtain rfl : e = .returned (.agg #[.int .i64 fro, .int .i64 til, .int .i64 cost]) := he
      have hO2 := hO.below hb2 (Nat.le_refl _)
      obtain ⟨u0, f0⟩ : ∃ u, w2.cell? ⟨B, k * 3, none⟩ = some u := ⟨_, (hO2.cell (j := 0) hyl.symm (by omega) (by decide)).trans rfl⟩
      have g0 : w2.frozen? ⟨B, k * 3, none⟩ = false := hO2.frozen hyl.symm _
      obtain ⟨u1, f1⟩ : ∃ u, w2.cell? ⟨B, k * 3 + 1, none⟩ = some u := ⟨_, (hO2.cell (j := 1) hyl.symm (by omega) (by decide)).trans rfl⟩
      have g1 : w2.frozen? ⟨B, k * 3 + 1, none⟩ = false := hO2.frozen hyl.symm _
      obtain ⟨u2, f2⟩ : ∃ u, w2.cell? ⟨B, k * 3 + 1 + 1, none⟩ = some u := ⟨_, (hO2.cell (j := 2) hyl.symm (by omega) (by decide)).trans rfl⟩
      have g2 : w2.frozen? ⟨B, k * 3 + 1 + 1, none⟩ = false := hO2.frozen hyl.symm _
      clear hyl d0 d1 d2
      have hsz' : w.heap.size ≤ wr.heap.size := hb.size
      go_wp2
      have hb3 : Below B w (storeAll B (spanF.enc ⟨fro, til, cost⟩) (k * 3) w2) := blw_storeAll (hb.trans (hb2.mono (by omega))) (Nat.le_refl _) _ _
      have hO3 := ((hO2.storeAll (k := k) ⟨fro, til, cost⟩ hyl'.out.symm (by rw [hyl'.out]; omega)).wide (Nat.le_refl _) hb2.size).wide (Nat.le_refl _) (Nat.le_of_eq (size_storeAll B (spanF.enc ⟨fro, til, cost⟩) (k * 3) w2).symm)
      go_roundw
      case rel => exact ⟨k + 1, _, by omega, by go_num, by simpa using hyl'.out, hy.out, hb3, hO3⟩
      case measure => simp [intOf]; omega
    · have hkk : k = xs.length := by omega
      have HK := Lib.hid hkk
      clear hkk
      go_wp2
      go_ret
      have e := HK.out
      subst e
      rw [List.take_length, List.take_of_length_le (by omega)] at hyt
      subst hyt
      subst hB
      exact ⟨_, rfl, hb, hO⟩

set_option maxHeartbeats 400000 in
theorem eqSpan_any (x : Span) (w : World) :
    Calls Try.prog 128 #[x.v, x.v] w fun e w' => e = .returned (.bool true) ∧ Below w.heap.size w w' := by
  obtain ⟨fro, til, cost⟩ := x
  unfold Span.v
  simp only
  go_enter Try.func128, Try.ntmps128
  go_wp2
  go_ret
  exact ⟨rfl, ((Below.refl _ _).alloc (Nat.le_refl _) _).alloc (by simp) _⟩

set_option maxHeartbeats 400000 in
set_option maxRecDepth 100000 in
theorem eqSpanS_any (xs : List Span) (v u : Value) (lo hi lo' hi' : Nat) (w : World) (hr : Rd spanF.shape lo hi w v xs) (hh : hi ≤ w.heap.size) (hr' : Rd spanF.shape lo' hi' w u xs) (hh' : hi' ≤ w.heap.size) :
    Calls Try.prog 96 #[v, u] w fun e w' => e = .returned (.bool true) ∧ Below w.heap.size w w' := by
  have hl := hr.len_le
  obtain ⟨a, c, rfl, h2, h3, h4, h5⟩ := hr.spanF
  obtain ⟨a', c', rfl, h2', h3', h4', h5'⟩ := hr'.spanF
  unfold maxLen at h3 h3'
  go_enter Try.func96, Try.ntmps96
  go_wp2
  go_loopw [5] (fun i wr => ∃ k : Nat, k ≤ xs.length ∧ i = .int .i64 k ∧ Below w.heap.size w wr) (fun i _ => xs.length - (intOf i).toNat)
  case atStart => exact ⟨0, Nat.zero_le _, rfl, Below.refl _ _⟩
  case round =>
    obtain ⟨k, hk, rfl, hb⟩ := hrel
    by_cases hlt : k < xs.length
    · obtain ⟨b, off, rfl, hlo, hhi, c0, c1, c2⟩ := h5 k hlt
      obtain ⟨b', off', rfl, hlo', hhi', q0, q1, q2⟩ := h5' k hlt
      have d0 := (hb.cell (p := ⟨b, _, none⟩) (by show b < _; omega)).trans c0
      have r0 := (hb.cell (p := ⟨b', _, none⟩) (by show b' < _; omega)).trans q0
      have d1 := (hb.cell (p := ⟨b, _, none⟩) (by show b < _; omega)).trans c1
      have r1 := (hb.cell (p := ⟨b', _, none⟩) (by show b' < _; omega)).trans q1
      have d2 := (hb.cell (p := ⟨b, _, none⟩) (by show b < _; omega)).trans c2
      have r2 := (hb.cell (p := ⟨b', _, none⟩) (by show b' < _; omega)).trans q2
      clear c0 q0 c1 q1 c2 q2
      generalize xs[k] = x at *
      obtain ⟨fro, til, cost⟩ := x
      simp only at d0 r0 d1 r1 d2 r2
      go_wp2_with fail
      go_still_tail 8, (by kernel_rfl)
      change wpList _ _ _ _ _ wr.drew
      generalize hw : wr.drew = w2
      have hb2 : Below w.heap.size w w2 := by rw [← hw]; exact hb.drew
      clear hw
      go_wp2_with fail
      refine (eqSpan_any ⟨fro, til, cost⟩ _).mono ?_
      rintro e w1 ⟨rfl, hb1⟩
      go_wp2
      go_roundw
      case rel => exact ⟨k + 1, by omega, by go_num, hb2.trans (hb1.mono hb2.size)⟩
      case measure => simp [intOf]; omega
    · go_wp2
      go_ret
      exact ⟨rfl, hb⟩
end Go.Proofs.Ytgcgipbjmobekaa
