/- spec.l08Any: a piece that is drawn, and may be wrong. -/
import Derived.Test.YtllpgomloblfjaaDrawC
namespace Go.Proofs.Ytllpgomloblfjaa
open Go.RowKit

/-- what l08Any keeps: few rules of few values, few rows, short texts -/
structure AnyP (x : Piece) : Prop where
  r : x.rules.length ≤ 9
  v : ∀ r ∈ x.rules, r.values ≤ 4
  c : x.chunks.length ≤ 9
  s : x.spans.length ≤ 41
  t : x.ties.length ≤ 21
  z : Sized' x
theorem pieceOk_any {x : Piece} (h : pieceOk x = true) (hz : Sized' x) (hr : x.rules.length ≤ 5) (hc : x.chunks.length ≤ 9) : AnyP x := by
  unfold pieceOk at h
  simp only [Bool.and_eq_true, decide_eq_true_eq, List.all_eq_true] at h
  obtain ⟨⟨⟨⟨⟨⟨⟨h1, h2⟩, h3⟩, h4⟩, h5⟩, h6⟩, -⟩, -⟩ := h
  refine ⟨by omega, fun r hr => ?_, hc, by omega, by omega, hz⟩
  have := h2 r hr
  unfold ruleOk inR at this
  simp only [Bool.and_eq_true, decide_eq_true_eq] at this
  omega
/-- the copy in block P, its rows below P; the result's block is the first new one -/
structure PE (x : Piece) (ra : Option Addr) (rc : Nat) (ca : Option Addr) (cc : Nat) (sa : Option Addr) (sc : Nat) (ta : Option Addr) (tc : Nat) (g lo hi : Nat) (xs : List Int) (P : Nat) (w0 w : World) : Prop where
  box : PBox x ra rc ca cc sa sc ta tc P w
  own : POwn x ra rc ca cc sa sc ta tc (w0.heap.size + 1) w.heap.size w
  cur : Cur g lo hi xs w
  out : Out g (g + 1) w0 w
  res : w.heap[w0.heap.size]? = some (.cells #[.int .i64 0, .slice none 0 0, .slice none 0 0, .slice none 0 0, .slice none 0 0] 29)
  b1 : g < w0.heap.size
  b2 : w0.heap.size < P
  ok : AnyP x
theorem PFour.sameK {x : Piece} {ra ca sa ta : Option Addr} {rc cc sc tc lo hi lo' hi' : Nat} {w w' : World} (h : PFour x ra rc ca cc sa sc ta tc lo hi w) (hs : Same lo hi w w') (h1 : lo' ≤ lo) (h2 : hi ≤ hi') : PFour x ra rc ca cc sa sc ta tc lo' hi' w' := by
  obtain ⟨a, b, c, d⟩ := h
  exact ⟨(a.same hs).wide h1 h2, (b.same hs).wide h1 h2, (c.same hs).wide h1 h2, (d.same hs).wide h1 h2⟩
theorem own_ne_box {α : Type} {F : Flat α} {T T0 lo hi P : Nat} {w : World} {v : Value} {xs : List α} {arr : Array Value} (h : Own F T lo hi w v xs) (hb : w.heap[P]? = some (.cells arr T0)) (hT : T ≠ T0) : v.ownBlock ≠ some P := by
  rcases h.1.2 with ⟨rfl, hn⟩ | ⟨g1, c1, cur1, rfl, hb1, hh1, rest⟩
  · simp [Value.ownBlock]
  · intro e
    have e1 : g1 = P := by simpa [Value.ownBlock] using e
    subst e1
    rw [hh1] at hb
    injection hb with hb
    injection hb with _ hb2
    exact hT hb2
theorem PE.below {x : Piece} {ra ca sa ta : Option Addr} {rc cc sc tc g lo hi P : Nat} {xs : List Int} {w0 w w' : World} (h : PE x ra rc ca cc sa sc ta tc g lo hi xs P w0 w) (hb : Below w.heap.size w w') : PE x ra rc ca cc sa sc ta tc g lo hi xs P w0 w' := by
  obtain ⟨h1, h2, h3, h4, h5, h6, h7, h8⟩ := h
  have hl := h1.lt
  exact ⟨h1.below hb, (h2.below hb (Nat.le_refl _)).wide (Nat.le_refl _) hb.size, h3.below hb (by omega), h4.then hb (by omega), blk hb h5, h6, h7, h8⟩
/-- a store into the copy's own block -/
theorem PE.setbox {x x' : Piece} {ra ca sa ta rb cb sb tb : Option Addr} {rc cc sc tc rd cd sd td g lo hi P j : Nat} {xs : List Int} {w0 w : World} {u : Value} (h : PE x ra rc ca cc sa sc ta tc g lo hi xs P w0 w) (ho : POwn x' rb rd cb cd sb sd tb td (w0.heap.size + 1) w.heap.size w) (hk : AnyP x')
    (hj : (#[Value.int .i64 x.indent, .slice ra x.rules.length rc, .slice ca x.chunks.length cc, .slice sa x.spans.length sc, .slice ta x.ties.length tc]).setIfInBounds j u = #[Value.int .i64 x'.indent, .slice rb x'.rules.length rd, .slice cb x'.chunks.length cd, .slice sb x'.spans.length sd, .slice tb x'.ties.length td]) : PE x' rb rd cb cd sb sd tb td g lo hi xs P w0 (w.setCell ⟨P, j, none⟩ u) := by
  obtain ⟨h1, h2, h3, h4, h5, h6, h7, h8⟩ := h
  have hl := h1.lt
  have hB : Below P w (w.setCell ⟨P, j, none⟩ u) := (Below.refl _ _).setCell (p := ⟨P, j, none⟩) (Nat.le_refl _) _
  have hz : (w.setCell ⟨P, j, none⟩ u).heap.size = w.heap.size := by simp [World.setCell]
  refine ⟨?_, ?_, h3.below hB (by omega), h4.then hB (by omega), (hB.block _ h7).trans h5, h6, h7, hk⟩
  · have := heap_set_same (j := j) (v := u) h1
    rw [hj] at this
    exact this
  · rw [hz]
    exact ⟨ho.r.keepFar (own_ne_box ho.r h1 (by decide)) _ _, ho.c.keepFar (own_ne_box ho.c h1 (by decide)) _ _, ho.s.keepFar (own_ne_box ho.s h1 (by decide)) _ _, ho.t.keepFar (own_ne_box ho.t h1 (by decide)) _ _⟩
theorem PE.apps {x : Piece} {ra ca sa ta aN : Option Addr} {rc cc sc tc cN g lo hi P : Nat} {xs : List Int} {ys : List Span} {w0 w w9 : World} (h : PE x ra rc ca cc sa sc ta tc g lo hi xs P w0 w) (hO : Own spanF 121 (w0.heap.size + 1) w9.heap.size w9 (.slice aN ys.length cN) ys) (hb : Below (w0.heap.size + 1) w w9) (hg : w.grownBy w9 (Value.slice sa x.spans.length sc).ownBlock) (hk : AnyP { x with spans := ys }) : PBox x ra rc ca cc sa sc ta tc P w9 ∧ PE { x with spans := ys } ra rc ca cc aN cN ta tc g lo hi xs P w0 (w9.setCell ⟨P, 3, none⟩ (.slice aN ys.length cN)) := by
  obtain ⟨h1, h2, h3, h4, h5, h6, h7, h8⟩ := h
  have hs := hb.size
  have h1' : PBox x ra rc ca cc sa sc ta tc P w9 := (hg.block P h1.lt (fun e => own_ne_box h2.s h1 (by decide) e.symm)).trans h1
  have hl := h1'.lt
  have hB : Below P w9 (w9.setCell ⟨P, 3, none⟩ (.slice aN ys.length cN)) := (Below.refl _ _).setCell (p := ⟨P, 3, none⟩) (Nat.le_refl _) _
  have hz : (w9.setCell ⟨P, 3, none⟩ (.slice aN ys.length cN)).heap.size = w9.heap.size := by simp [World.setCell]
  refine ⟨h1', heap_set_same h1', ?_, (h3.below hb (by omega)).below hB (by omega), (h4.then hb (by omega)).then hB (by omega), (hB.block _ h7).trans ((hb.block _ (by omega)).trans h5), h6, h7, hk⟩
  rw [hz]
  refine ⟨(fun k => Own.keepFar k (own_ne_box k h1' (by decide)) _ _) ((own_kept h2.r h2.s (by decide) hg (Nat.le_refl _)).wide (Nat.le_refl _) hs), (fun k => Own.keepFar k (own_ne_box k h1' (by decide)) _ _) ((own_kept h2.c h2.s (by decide) hg (Nat.le_refl _)).wide (Nat.le_refl _) hs), hO.keepFar (own_ne_box hO h1' (by decide)) _ _, (fun k => Own.keepFar k (own_ne_box k h1' (by decide)) _ _) ((own_kept h2.t h2.s (by decide) hg (Nat.le_refl _)).wide (Nat.le_refl _) hs)⟩
theorem PE.appt {x : Piece} {ra ca sa ta aN : Option Addr} {rc cc sc tc cN g lo hi P : Nat} {xs : List Int} {ys : List Tie} {w0 w w9 : World} (h : PE x ra rc ca cc sa sc ta tc g lo hi xs P w0 w) (hO : Own tieF 101 (w0.heap.size + 1) w9.heap.size w9 (.slice aN ys.length cN) ys) (hb : Below (w0.heap.size + 1) w w9) (hg : w.grownBy w9 (Value.slice ta x.ties.length tc).ownBlock) (hk : AnyP { x with ties := ys }) : PBox x ra rc ca cc sa sc ta tc P w9 ∧ PE { x with ties := ys } ra rc ca cc sa sc aN cN g lo hi xs P w0 (w9.setCell ⟨P, 4, none⟩ (.slice aN ys.length cN)) := by
  obtain ⟨h1, h2, h3, h4, h5, h6, h7, h8⟩ := h
  have hs := hb.size
  have h1' : PBox x ra rc ca cc sa sc ta tc P w9 := (hg.block P h1.lt (fun e => own_ne_box h2.t h1 (by decide) e.symm)).trans h1
  have hl := h1'.lt
  have hB : Below P w9 (w9.setCell ⟨P, 4, none⟩ (.slice aN ys.length cN)) := (Below.refl _ _).setCell (p := ⟨P, 4, none⟩) (Nat.le_refl _) _
  have hz : (w9.setCell ⟨P, 4, none⟩ (.slice aN ys.length cN)).heap.size = w9.heap.size := by simp [World.setCell]
  refine ⟨h1', heap_set_same h1', ?_, (h3.below hb (by omega)).below hB (by omega), (h4.then hb (by omega)).then hB (by omega), (hB.block _ h7).trans ((hb.block _ (by omega)).trans h5), h6, h7, hk⟩
  rw [hz]
  refine ⟨(fun k => Own.keepFar k (own_ne_box k h1' (by decide)) _ _) ((own_kept h2.r h2.t (by decide) hg (Nat.le_refl _)).wide (Nat.le_refl _) hs), (fun k => Own.keepFar k (own_ne_box k h1' (by decide)) _ _) ((own_kept h2.c h2.t (by decide) hg (Nat.le_refl _)).wide (Nat.le_refl _) hs), (fun k => Own.keepFar k (own_ne_box k h1' (by decide)) _ _) ((own_kept h2.s h2.t (by decide) hg (Nat.le_refl _)).wide (Nat.le_refl _) hs), hO.keepFar (own_ne_box hO h1' (by decide)) _ _⟩
theorem own_ne_row {α β : Type} {F : Flat α} {G : Flat β} {T T' lo hi lo' hi' g : Nat} {w : World} {u v : Value} {xs : List α} {ys : List β} (h : Own F T lo hi w v xs) (k : Own G T' lo' hi' w u ys) (hT : T ≠ T') (e : u.ownBlock = some g) : v.ownBlock ≠ some g := own_ne k h (Ne.symm hT) e
theorem PE.setr {x : Piece} {ca sa ta : Option Addr} {rc cc sc tc g lo hi P G i j : Nat} {xs : List Int} {w0 w : World} {u : Value} {r : Rule} (h : PE x (some ⟨G, 0, none⟩) rc ca cc sa sc ta tc g lo hi xs P w0 w) (hii : i < x.rules.length) (hj : j < ruleF.size) (e : (ruleF.enc x.rules[i]).set j u = ruleF.enc r) (hk : AnyP { x with rules := x.rules.set i r }) : PE { x with rules := x.rules.set i r } (some ⟨G, 0, none⟩) rc ca cc sa sc ta tc g lo hi xs P w0 (w.setCell ⟨G, i * ruleF.size + j, none⟩ u) := by
  obtain ⟨h1, h2, h3, h4, h5, h6, h7, h8⟩ := h
  have hl := h1.lt
  obtain ⟨g1, g2, g3⟩ := h2.r.below_heap G rfl
  have hB : Below G w (w.setCell ⟨G, i * ruleF.size + j, none⟩ u) := (Below.refl _ _).setCell (p := ⟨G, i * ruleF.size + j, none⟩) (Nat.le_refl _) _
  have hz : (w.setCell ⟨G, i * ruleF.size + j, none⟩ u).heap.size = w.heap.size := by simp [World.setCell]
  have hne : P ≠ G := fun e => own_ne_box h2.r h1 (by decide) (by rw [e]; rfl)
  have hB0 := hB.mono (show w0.heap.size + 1 ≤ G from g1)
  have hll : (x.rules.set i r).length = x.rules.length := List.length_set
  refine ⟨?_, ?_, h3.below hB (by omega), h4.then hB (by omega), (hB.block _ (by omega)).trans h5, h6, h7, hk⟩
  · have := heap_set_other (j := i * ruleF.size + j) (v := u) hne h1
    show _ = some (Obj.cells #[_, .slice _ (x.rules.set i r).length _, _, _, _] _)
    rw [hll]
    exact this
  · rw [hz]
    refine ⟨?_, h2.c.keepFar (own_ne_row h2.c h2.r (by decide) rfl) _ _, h2.s.keepFar (own_ne_row h2.s h2.r (by decide) rfl) _ _, h2.t.keepFar (own_ne_row h2.t h2.r (by decide) rfl) _ _⟩
    show Own _ _ _ _ _ (.slice _ (x.rules.set i r).length _) _
    rw [hll]
    exact h2.r.set rfl hii hj e
theorem PE.setc {x : Piece} {ra sa ta : Option Addr} {rc cc sc tc g lo hi P G i j : Nat} {xs : List Int} {w0 w : World} {u : Value} {r : Chunk} (h : PE x ra rc (some ⟨G, 0, none⟩) cc sa sc ta tc g lo hi xs P w0 w) (hii : i < x.chunks.length) (hj : j < chunkF.size) (e : (chunkF.enc x.chunks[i]).set j u = chunkF.enc r) (hk : AnyP { x with chunks := x.chunks.set i r }) : PE { x with chunks := x.chunks.set i r } ra rc (some ⟨G, 0, none⟩) cc sa sc ta tc g lo hi xs P w0 (w.setCell ⟨G, i * chunkF.size + j, none⟩ u) := by
  obtain ⟨h1, h2, h3, h4, h5, h6, h7, h8⟩ := h
  have hl := h1.lt
  obtain ⟨g1, g2, g3⟩ := h2.c.below_heap G rfl
  have hB : Below G w (w.setCell ⟨G, i * chunkF.size + j, none⟩ u) := (Below.refl _ _).setCell (p := ⟨G, i * chunkF.size + j, none⟩) (Nat.le_refl _) _
  have hz : (w.setCell ⟨G, i * chunkF.size + j, none⟩ u).heap.size = w.heap.size := by simp [World.setCell]
  have hne : P ≠ G := fun e => own_ne_box h2.c h1 (by decide) (by rw [e]; rfl)
  have hB0 := hB.mono (show w0.heap.size + 1 ≤ G from g1)
  have hll : (x.chunks.set i r).length = x.chunks.length := List.length_set
  refine ⟨?_, ?_, h3.below hB (by omega), h4.then hB (by omega), (hB.block _ (by omega)).trans h5, h6, h7, hk⟩
  · have := heap_set_other (j := i * chunkF.size + j) (v := u) hne h1
    show _ = some (Obj.cells #[_, _, .slice _ (x.chunks.set i r).length _, _, _] _)
    rw [hll]
    exact this
  · rw [hz]
    refine ⟨h2.r.keepFar (own_ne_row h2.r h2.c (by decide) rfl) _ _, ?_, h2.s.keepFar (own_ne_row h2.s h2.c (by decide) rfl) _ _, h2.t.keepFar (own_ne_row h2.t h2.c (by decide) rfl) _ _⟩
    show Own _ _ _ _ _ (.slice _ (x.chunks.set i r).length _) _
    rw [hll]
    exact h2.c.set rfl hii hj e
theorem PE.done {x : Piece} {ra ca sa ta : Option Addr} {rc cc sc tc g lo hi P : Nat} {xs : List Int} {w0 w wf : World} (h : PE x ra rc ca cc sa sc ta tc g lo hi xs P w0 w) (e : storeAll w0.heap.size [.int .i64 x.indent, .slice ra x.rules.length rc, .slice ca x.chunks.length cc, .slice sa x.spans.length sc, .slice ta x.ties.length tc] 0 w = wf) : (wf.cell? ⟨w0.heap.size, 0, none⟩ = some (.int .i64 x.indent) ∧ wf.cell? ⟨w0.heap.size, 1, none⟩ = some (.slice ra x.rules.length rc) ∧ wf.cell? ⟨w0.heap.size, 2, none⟩ = some (.slice ca x.chunks.length cc) ∧ wf.cell? ⟨w0.heap.size, 3, none⟩ = some (.slice sa x.spans.length sc) ∧ wf.cell? ⟨w0.heap.size, 4, none⟩ = some (.slice ta x.ties.length tc)) ∧ AnyP x ∧ PFour x ra rc ca cc sa sc ta tc w0.heap.size wf.heap.size wf ∧ Out g (g + 1) w0 wf ∧ Cur g lo hi xs wf := by
  obtain ⟨h1, h2, h3, h4, h5, h6, h7, h8⟩ := h
  have hE := stored5 h5 [.int .i64 x.indent, .slice ra x.rules.length rc, .slice ca x.chunks.length cc, .slice sa x.spans.length sc, .slice ta x.ties.length tc] rfl
  have hB : Below w0.heap.size w (storeAll w0.heap.size [.int .i64 x.indent, .slice ra x.rules.length rc, .slice ca x.chunks.length cc, .slice sa x.spans.length sc, .slice ta x.ties.length tc] 0 w) := blw_storeAll (Below.refl _ _) (Nat.le_refl _) _ _
  have hS := same_storeAllP (lo := w0.heap.size + 1) (hi := w.heap.size) (g := w0.heap.size) (.inl (by omega)) [.int .i64 x.indent, .slice ra x.rules.length rc, .slice ca x.chunks.length cc, .slice sa x.spans.length sc, .slice ta x.ties.length tc] 0 w
  have hs := hB.size
  subst e
  exact ⟨hE, h8, h2.rd.sameK hS (by omega) hs, h4.then hB (Nat.le_refl _), h3.below hB (by omega)⟩
set_option maxHeartbeats 8000000 in
set_option maxRecDepth 100000 in
theorem l08Any_any {g lo hi : Nat} {xs : List Int} {w : World} (hc : Cur g lo hi xs w) :
    Calls Try.prog 64 #[.pointer (some ⟨g, 0, none⟩)] w fun e w' => ∃ (x : Piece) (ra : Option Addr) (rc : Nat) (ca : Option Addr) (cc : Nat) (sa : Option Addr) (sc : Nat) (ta : Option Addr) (tc : Nat), e = .returned (x.v ra rc ca cc sa sc ta tc) ∧ AnyP x ∧ PFour x ra rc ca cc sa sc ta tc w.heap.size w'.heap.size w' ∧ Out g (g + 1) w w' ∧ Cur g lo hi xs w' := by
  obtain ⟨i0, hi0, hz0, hz1, hz2⟩ := info_parts Try.infoRuleD
  obtain ⟨i2, hi2, hx0, hx1, hx2⟩ := info_parts Try.infoSpanD
  obtain ⟨i3, hi3, hu0, hu1, hu2⟩ := info_parts Try.infoTieD
  have hgl := hc.lt
  go_enter Try.func64, Try.ntmps64
  go_upto_region 1 with fail
  have hR0 := heap_alloc_new w (.cells #[.int .i64 0, .slice none 0 0, .slice none 0 0, .slice none 0 0, .slice none 0 0] 29)
  have hb0 : Below w.heap.size w (w.alloc (.cells #[.int .i64 0, .slice none 0 0, .slice none 0 0, .slice none 0 0, .slice none 0 0] 29)) := (Below.refl _ _).alloc (Nat.le_refl _) _
  have hs0 : (w.alloc (.cells #[.int .i64 0, .slice none 0 0, .slice none 0 0, .slice none 0 0, .slice none 0 0] 29)).heap.size = w.heap.size + 1 := by simp
  generalize w.alloc (.cells #[.int .i64 0, .slice none 0 0, .slice none 0 0, .slice none 0 0, .slice none 0 0] 29) = w0 at *
  have hc0 := hc.below hb0 hgl
  have ho0 : Out g (g + 1) w w0 := Out.of_below hb0
  clear hc hb0
  go_wp2_with fail
  refine (l01Below_any hc0 (by omega) (by omega)).mono ?_
  rintro e w1 ⟨k, rfl, k1, k2, ho1, hc1⟩
  replace hR0 := (ho1.block w.heap.size (by omega) (by omega)).trans hR0
  replace ho0 := ho0.trans ho1
  have hs1 := ho1.size
  clear ho1 hc0
  go_upto_region 2 with fail
  go_wp2_with fail
  refine (l01Below_any hc1 (by omega) (by omega)).mono ?_
  rintro e w2 ⟨y, rfl, y1, y2, ho2, hc2⟩
  replace hR0 := (ho2.block w.heap.size (by omega) (by omega)).trans hR0
  replace ho0 := ho0.trans ho2
  have hs2 := ho2.size
  clear ho2 hc1
  go_upto_region 3 with fail
  go_wp2_with fail
  refine (l08Piece_any hc2).mono ?_
  rintro e w3 ⟨x, ra, rc, ca, cc, sa, sc, ta, tc, rfl, hok, hz, r1, r5, c9, hO, ho3, hc3⟩
  have hA := pieceOk_any hok hz r5 c9
  have hst : x.spans.length ≤ 40 ∧ x.ties.length ≤ 20 := by
    unfold pieceOk at hok
    simp only [Bool.and_eq_true, decide_eq_true_eq] at hok
    omega
  have hc0 : 1 ≤ x.chunks.length := by
    unfold pieceOk chunksOk inR at hok
    simp only [Bool.and_eq_true, decide_eq_true_eq] at hok
    omega
  replace hR0 := (ho3.block w.heap.size (by omega) (by omega)).trans hR0
  replace ho0 := ho0.trans ho3
  have hs3 := ho3.size
  clear ho3 hc2 hok hz r5 c9
  go_wp2_with fail
  refine (l08Copy_any x ra ca sa ta rc cc sc tc _ _ w3 hO.rd (Nat.le_refl _) (by have := hA.r; omega) (by have := hA.c; omega) (by have := hA.s; omega) (by have := hA.t; omega)).mono ?_
  rintro e w4 ⟨rb, rd, cb, cd, sb, sd, tb, td, rfl, hb4, hP'⟩
  replace hR0 := blk hb4 hR0
  replace ho0 := ho0.then hb4 (by omega)
  have hc4 := hc3.below hb4 (by omega)
  have hs4 := hb4.size
  clear hb4 hO hc3
  unfold Piece.v
  go_upto_region 4 with fail
  have kb : Below w4.heap.size w4 (w4.alloc (.cells #[.int .i64 x.indent, .slice rb x.rules.length rd, .slice cb x.chunks.length cd, .slice sb x.spans.length sd, .slice tb x.ties.length td] 29)) := (Below.refl _ _).alloc (Nat.le_refl _) _
  have hB4 := heap_alloc_new w4 (.cells #[.int .i64 x.indent, .slice rb x.rules.length rd, .slice cb x.chunks.length cd, .slice sb x.spans.length sd, .slice tb x.ties.length td] 29)
  have hs5 : (w4.alloc (.cells #[.int .i64 x.indent, .slice rb x.rules.length rd, .slice cb x.chunks.length cd, .slice sb x.spans.length sd, .slice tb x.ties.length td] 29)).heap.size = w4.heap.size + 1 := by simp
  obtain ⟨P, hP⟩ : ∃ P, P = w4.heap.size := ⟨_, rfl⟩
  rw [← hP] at hB4 ⊢
  have hOP : POwn x rb rd cb cd sb sd tb td (w.heap.size + 1) P (w4.alloc (.cells #[.int .i64 x.indent, .slice rb x.rules.length rd, .slice cb x.chunks.length cd, .slice sb x.spans.length sd, .slice tb x.ties.length td] 29)) := (hP'.below kb (Nat.le_refl _)).wide (by omega) (by omega)
  have hS : PE x rb rd cb cd sb sd tb td g lo hi xs P w (w4.alloc (.cells #[.int .i64 x.indent, .slice rb x.rules.length rd, .slice cb x.chunks.length cd, .slice sb x.spans.length sd, .slice tb x.ties.length td] 29)) := ⟨hB4, hOP.wide (Nat.le_refl _) (by omega), hc4.below kb (by omega), ho0.then kb (by omega), blk kb hR0, hgl, by omega, hA⟩
  generalize w4.alloc (.cells #[.int .i64 x.indent, .slice rb x.rules.length rd, .slice cb x.chunks.length cd, .slice sb x.spans.length sd, .slice tb x.ties.length td] 29) = w5 at *
  clear hB4 kb hR0 ho0 hc4 hs0 hs1 hs2 hs3 hs4 hs5 hP' hA hP
  obtain ⟨p0, p1, p2, p3, p4⟩ := hS.box.five
  have hm0 : ¬ (x.chunks.length : Int) = 0 := by omega
  go_upto_region 5 with fail
  have hi1 := Int.emod_nonneg y hm0
  have hi2 := Int.emod_lt_of_pos y (show 0 < (x.chunks.length : Int) by omega)
  generalize y % (x.chunks.length : Int) = iz at *
  obtain ⟨i, rfl⟩ := Int.eq_ofNat_of_zero_le hi1
  have hic : i < x.chunks.length := by omega
  clear hi1 hi2 hm0
  rcases (by omega : k = 0 ∨ k = 1 ∨ k = 2 ∨ k = 3 ∨ k = 4 ∨ k = 5 ∨ k = 6 ∨ k = 7 ∨ 8 ≤ k) with rfl | rfl | rfl | rfl | rfl | rfl | rfl | rfl | hk8
  · have t1 := Int.emod_nonneg y (show (3 : Int) ≠ 0 by decide)
    have t2 := Int.emod_lt_of_pos y (show (0 : Int) < 3 by decide)
    go_upto_region 7 with fail
    have f0 := frozen_heap (j := 0) hS.box
    have kL : Below w5.heap.size w5 (w5.alloc (.cells #[.int .i64 (-1), .int .i64 60, .int .i64 61] 3)) := (Below.refl _ _).alloc (Nat.le_refl _) _
    have hL := heap_alloc_new w5 (.cells #[.int .i64 (-1), .int .i64 60, .int .i64 61] 3)
    have c0 := cell_heap (j := 0) hL rfl
    have c1 := cell_heap (j := 1) hL rfl
    have c2 := cell_heap (j := 2) hL rfl
    have hSL := hS.below kL
    have fL := frozen_heap (j := 0) hSL.box
    clear kL hL
    obtain ⟨b0, b1, b2, b3, b4⟩ := hSL.box.five
    rcases (by omega : y % 3 = 0 ∨ y % 3 = 1 ∨ y % 3 = 2) with hy | hy | hy
    · go_upto_region 22 with fail
      have hS2 := hSL.setbox (x' := { x with indent := (-1) }) (j := 0) (u := .int .i64 (-1)) ⟨hSL.own.r, hSL.own.c, hSL.own.s, hSL.own.t⟩ ⟨hSL.ok.r, hSL.ok.v, hSL.ok.c, hSL.ok.s, hSL.ok.t, hSL.ok.z⟩ rfl
      clear hS hSL p0 p1 p2 p3 p4 b0 b1 b2 b3 b4 c0 c1 c2 f0 fL hOP
      generalize (w5.alloc (.cells #[.int .i64 (-1), .int .i64 60, .int .i64 61] 3)).setCell ⟨P, 0, none⟩ (.int .i64 (-1)) = w6 at *
      have hS := hS2
      clear hS2
      obtain ⟨p0, p1, p2, p3, p4⟩ := hS.box.five
      have z0 := cell_heap (j := 0) hS.res rfl
      have z1 := cell_heap (j := 1) hS.res rfl
      have z2 := cell_heap (j := 2) hS.res rfl
      have z3 := cell_heap (j := 3) hS.res rfl
      have z4 := cell_heap (j := 4) hS.res rfl
      have f0 := frozen_heap (j := 0) hS.res
      have f1 := frozen_heap (j := 1) hS.res
      have f2 := frozen_heap (j := 2) hS.res
      have f3 := frozen_heap (j := 3) hS.res
      have f4 := frozen_heap (j := 4) hS.res
      go_wp2
      change bodyPost _ _ _ _ _ (storeAll w.heap.size [.int .i64 (-1), .slice rb x.rules.length rd, .slice cb x.chunks.length cd, .slice sb x.spans.length sd, .slice tb x.ties.length td] 0 w6)
      clear p0 p1 p2 p3 p4 z0 z1 z2 z3 z4 f0 f1 f2 f3 f4
      generalize hwf : storeAll w.heap.size [.int .i64 (-1), .slice rb x.rules.length rd, .slice cb x.chunks.length cd, .slice sb x.spans.length sd, .slice tb x.ties.length td] 0 w6 = wf
      obtain ⟨⟨q0, q1, q2, q3, q4⟩, HA, HF, HB, HC⟩ := hS.done hwf
      clear hwf hS
      refine bodyPost_ret (v := .agg #[.int .i64 (-1), .slice rb x.rules.length rd, .slice cb x.chunks.length cd, .slice sb x.spans.length sd, .slice tb x.ties.length td]) (by simp [results, Try.results64, go_sem, q0, q1, q2, q3, q4]) rfl ?_
      exact ⟨{ x with indent := (-1) }, rb, rd, cb, cd, sb, sd, tb, td, rfl, HA, HF, HB, HC⟩
    · go_upto_region 22 with fail
      have hS2 := hSL.setbox (x' := { x with indent := 60 }) (j := 0) (u := .int .i64 60) ⟨hSL.own.r, hSL.own.c, hSL.own.s, hSL.own.t⟩ ⟨hSL.ok.r, hSL.ok.v, hSL.ok.c, hSL.ok.s, hSL.ok.t, hSL.ok.z⟩ rfl
      clear hS hSL p0 p1 p2 p3 p4 b0 b1 b2 b3 b4 c0 c1 c2 f0 fL hOP
      generalize (w5.alloc (.cells #[.int .i64 (-1), .int .i64 60, .int .i64 61] 3)).setCell ⟨P, 0, none⟩ (.int .i64 60) = w6 at *
      have hS := hS2
      clear hS2
      obtain ⟨p0, p1, p2, p3, p4⟩ := hS.box.five
      have z0 := cell_heap (j := 0) hS.res rfl
      have z1 := cell_heap (j := 1) hS.res rfl
      have z2 := cell_heap (j := 2) hS.res rfl
      have z3 := cell_heap (j := 3) hS.res rfl
      have z4 := cell_heap (j := 4) hS.res rfl
      have f0 := frozen_heap (j := 0) hS.res
      have f1 := frozen_heap (j := 1) hS.res
      have f2 := frozen_heap (j := 2) hS.res
      have f3 := frozen_heap (j := 3) hS.res
      have f4 := frozen_heap (j := 4) hS.res
      go_wp2
      change bodyPost _ _ _ _ _ (storeAll w.heap.size [.int .i64 60, .slice rb x.rules.length rd, .slice cb x.chunks.length cd, .slice sb x.spans.length sd, .slice tb x.ties.length td] 0 w6)
      clear p0 p1 p2 p3 p4 z0 z1 z2 z3 z4 f0 f1 f2 f3 f4
      generalize hwf : storeAll w.heap.size [.int .i64 60, .slice rb x.rules.length rd, .slice cb x.chunks.length cd, .slice sb x.spans.length sd, .slice tb x.ties.length td] 0 w6 = wf
      obtain ⟨⟨q0, q1, q2, q3, q4⟩, HA, HF, HB, HC⟩ := hS.done hwf
      clear hwf hS
      refine bodyPost_ret (v := .agg #[.int .i64 60, .slice rb x.rules.length rd, .slice cb x.chunks.length cd, .slice sb x.spans.length sd, .slice tb x.ties.length td]) (by simp [results, Try.results64, go_sem, q0, q1, q2, q3, q4]) rfl ?_
      exact ⟨{ x with indent := 60 }, rb, rd, cb, cd, sb, sd, tb, td, rfl, HA, HF, HB, HC⟩
    · go_upto_region 22 with fail
      have hS2 := hSL.setbox (x' := { x with indent := 61 }) (j := 0) (u := .int .i64 61) ⟨hSL.own.r, hSL.own.c, hSL.own.s, hSL.own.t⟩ ⟨hSL.ok.r, hSL.ok.v, hSL.ok.c, hSL.ok.s, hSL.ok.t, hSL.ok.z⟩ rfl
      clear hS hSL p0 p1 p2 p3 p4 b0 b1 b2 b3 b4 c0 c1 c2 f0 fL hOP
      generalize (w5.alloc (.cells #[.int .i64 (-1), .int .i64 60, .int .i64 61] 3)).setCell ⟨P, 0, none⟩ (.int .i64 61) = w6 at *
      have hS := hS2
      clear hS2
      obtain ⟨p0, p1, p2, p3, p4⟩ := hS.box.five
      have z0 := cell_heap (j := 0) hS.res rfl
      have z1 := cell_heap (j := 1) hS.res rfl
      have z2 := cell_heap (j := 2) hS.res rfl
      have z3 := cell_heap (j := 3) hS.res rfl
      have z4 := cell_heap (j := 4) hS.res rfl
      have f0 := frozen_heap (j := 0) hS.res
      have f1 := frozen_heap (j := 1) hS.res
      have f2 := frozen_heap (j := 2) hS.res
      have f3 := frozen_heap (j := 3) hS.res
      have f4 := frozen_heap (j := 4) hS.res
      go_wp2
      change bodyPost _ _ _ _ _ (storeAll w.heap.size [.int .i64 61, .slice rb x.rules.length rd, .slice cb x.chunks.length cd, .slice sb x.spans.length sd, .slice tb x.ties.length td] 0 w6)
      clear p0 p1 p2 p3 p4 z0 z1 z2 z3 z4 f0 f1 f2 f3 f4
      generalize hwf : storeAll w.heap.size [.int .i64 61, .slice rb x.rules.length rd, .slice cb x.chunks.length cd, .slice sb x.spans.length sd, .slice tb x.ties.length td] 0 w6 = wf
      obtain ⟨⟨q0, q1, q2, q3, q4⟩, HA, HF, HB, HC⟩ := hS.done hwf
      clear hwf hS
      refine bodyPost_ret (v := .agg #[.int .i64 61, .slice rb x.rules.length rd, .slice cb x.chunks.length cd, .slice sb x.spans.length sd, .slice tb x.ties.length td]) (by simp [results, Try.results64, go_sem, q0, q1, q2, q3, q4]) rfl ?_
      exact ⟨{ x with indent := 61 }, rb, rd, cb, cd, sb, sd, tb, td, rfl, HA, HF, HB, HC⟩
  · have m5 := Int.emod_nonneg y (show (5 : Int) ≠ 0 by decide)
    have m6 := Int.emod_lt_of_pos y (show (0 : Int) < 5 by decide)
    go_upto_region 9 with fail
    obtain ⟨an, cn, hvn, hln, hmn, hgn⟩ := hS.own.r.form
    injection hvn with e1 e2 e3
    subst e1
    obtain ⟨G, rfl, hG1, hG2⟩ := hgn (by omega)
    have hrow : w5.cell? ⟨G, 0, none⟩ = some (.int .i64 (x.rules[0]'(by omega)).values) := hS.own.r.cell (k := 0) (j := 0) rfl (by omega) (by decide)
    have hfz : w5.frozen? ⟨G, 0, none⟩ = false := hS.own.r.frozen rfl _
    clear hln hmn hgn e2 e3
    have hS2 : PE { x with rules := x.rules.set 0 (⟨y % 5, (x.rules[0]'(by omega)).cost⟩ : Rule) } (some ⟨G, 0, none⟩) rd cb cd sb sd tb td g lo hi xs P w (w5.setCell ⟨G, 0, none⟩ (.int .i64 (y % 5))) := hS.setr (i := 0) (j := 0) (r := (⟨y % 5, (x.rules[0]'(by omega)).cost⟩ : Rule)) (by omega) (by decide) rfl ⟨by show (List.set _ _ _).length ≤ 9; rw [List.length_set]; exact hS.ok.r, (by intro r hr; rcases List.mem_or_eq_of_mem_set hr with h | rfl; exact hS.ok.v r h; show y % 5 ≤ 4; omega), hS.ok.c, hS.ok.s, hS.ok.t, hS.ok.z⟩
    go_upto_region 22 with fail
    clear hS p0 p1 p2 p3 p4 hrow hfz hG1 hG2 hOP
    generalize w5.setCell ⟨G, 0, none⟩ (.int .i64 (y % 5)) = w6 at *
    have hS := hS2
    clear hS2
    generalize x.rules.set 0 (⟨y % 5, (x.rules[0]'(by omega)).cost⟩ : Rule) = rs at *
    obtain ⟨p0, p1, p2, p3, p4⟩ := hS.box.five
    have z0 := cell_heap (j := 0) hS.res rfl
    have z1 := cell_heap (j := 1) hS.res rfl
    have z2 := cell_heap (j := 2) hS.res rfl
    have z3 := cell_heap (j := 3) hS.res rfl
    have z4 := cell_heap (j := 4) hS.res rfl
    have f0 := frozen_heap (j := 0) hS.res
    have f1 := frozen_heap (j := 1) hS.res
    have f2 := frozen_heap (j := 2) hS.res
    have f3 := frozen_heap (j := 3) hS.res
    have f4 := frozen_heap (j := 4) hS.res
    go_wp2
    change bodyPost _ _ _ _ _ (storeAll w.heap.size [.int .i64 x.indent, .slice (some ⟨G, 0, none⟩) rs.length rd, .slice cb x.chunks.length cd, .slice sb x.spans.length sd, .slice tb x.ties.length td] 0 w6)
    clear p0 p1 p2 p3 p4 z0 z1 z2 z3 z4 f0 f1 f2 f3 f4
    generalize hwf : storeAll w.heap.size [.int .i64 x.indent, .slice (some ⟨G, 0, none⟩) rs.length rd, .slice cb x.chunks.length cd, .slice sb x.spans.length sd, .slice tb x.ties.length td] 0 w6 = wf
    obtain ⟨⟨q0, q1, q2, q3, q4⟩, HA, HF, HB, HC⟩ := hS.done hwf
    clear hwf hS
    refine bodyPost_ret (v := .agg #[.int .i64 x.indent, .slice (some ⟨G, 0, none⟩) rs.length rd, .slice cb x.chunks.length cd, .slice sb x.spans.length sd, .slice tb x.ties.length td]) (by simp [results, Try.results64, go_sem, q0, q1, q2, q3, q4]) rfl ?_
    exact ⟨{ x with rules := rs }, _, rd, cb, cd, sb, sd, tb, td, rfl, HA, HF, HB, HC⟩
  · skip
    go_upto_region 11 with fail
    obtain ⟨an, cn, hvn, hln, hmn, hgn⟩ := hS.own.c.form
    injection hvn with e1 e2 e3
    subst e1
    obtain ⟨G, rfl, hG1, hG2⟩ := hgn (by omega)
    have hrow : w5.cell? ⟨G, i * 5, none⟩ = some (.string x.chunks[i].text) := hS.own.c.cell (k := i) (j := 0) rfl hic (by decide)
    have hfz : w5.frozen? ⟨G, i * 5, none⟩ = false := hS.own.c.frozen rfl _
    clear hln hmn hgn e2 e3
    have hS2 : PE { x with chunks := x.chunks.set i (⟨⟨#[7]⟩, x.chunks[i].rule, x.chunks[i].fro, x.chunks[i].space, x.chunks[i].nest⟩ : Chunk) } rb rd (some ⟨G, 0, none⟩) cd sb sd tb td g lo hi xs P w (w5.setCell ⟨G, i * 5, none⟩ (.string ⟨#[7]⟩)) := hS.setc (i := i) (j := 0) (r := (⟨⟨#[7]⟩, x.chunks[i].rule, x.chunks[i].fro, x.chunks[i].space, x.chunks[i].nest⟩ : Chunk)) hic (by decide) rfl ⟨hS.ok.r, hS.ok.v, by show (List.set _ _ _).length ≤ 9; rw [List.length_set]; exact hS.ok.c, hS.ok.s, hS.ok.t, (by intro c hcc; rcases List.mem_or_eq_of_mem_set hcc with h | rfl; exact hS.ok.z c h; show (ByteArray.mk #[7]).size ≤ 64; decide)⟩
    go_upto_region 22 with fail
    clear hS p0 p1 p2 p3 p4 hrow hfz hG1 hG2 hOP
    generalize w5.setCell ⟨G, i * 5, none⟩ (.string ⟨#[7]⟩) = w6 at *
    have hS := hS2
    clear hS2
    generalize x.chunks.set i (⟨⟨#[7]⟩, x.chunks[i].rule, x.chunks[i].fro, x.chunks[i].space, x.chunks[i].nest⟩ : Chunk) = rs at *
    obtain ⟨p0, p1, p2, p3, p4⟩ := hS.box.five
    have z0 := cell_heap (j := 0) hS.res rfl
    have z1 := cell_heap (j := 1) hS.res rfl
    have z2 := cell_heap (j := 2) hS.res rfl
    have z3 := cell_heap (j := 3) hS.res rfl
    have z4 := cell_heap (j := 4) hS.res rfl
    have f0 := frozen_heap (j := 0) hS.res
    have f1 := frozen_heap (j := 1) hS.res
    have f2 := frozen_heap (j := 2) hS.res
    have f3 := frozen_heap (j := 3) hS.res
    have f4 := frozen_heap (j := 4) hS.res
    go_wp2
    change bodyPost _ _ _ _ _ (storeAll w.heap.size [.int .i64 x.indent, .slice rb x.rules.length rd, .slice (some ⟨G, 0, none⟩) rs.length cd, .slice sb x.spans.length sd, .slice tb x.ties.length td] 0 w6)
    clear p0 p1 p2 p3 p4 z0 z1 z2 z3 z4 f0 f1 f2 f3 f4
    generalize hwf : storeAll w.heap.size [.int .i64 x.indent, .slice rb x.rules.length rd, .slice (some ⟨G, 0, none⟩) rs.length cd, .slice sb x.spans.length sd, .slice tb x.ties.length td] 0 w6 = wf
    obtain ⟨⟨q0, q1, q2, q3, q4⟩, HA, HF, HB, HC⟩ := hS.done hwf
    clear hwf hS
    refine bodyPost_ret (v := .agg #[.int .i64 x.indent, .slice rb x.rules.length rd, .slice (some ⟨G, 0, none⟩) rs.length cd, .slice sb x.spans.length sd, .slice tb x.ties.length td]) (by simp [results, Try.results64, go_sem, q0, q1, q2, q3, q4]) rfl ?_
    exact ⟨{ x with chunks := rs }, rb, rd, _, cd, sb, sd, tb, td, rfl, HA, HF, HB, HC⟩
  · have m5 := Int.emod_nonneg y (show (4 : Int) ≠ 0 by decide)
    have m6 := Int.emod_lt_of_pos y (show (0 : Int) < 4 by decide)
    go_upto_region 13 with fail
    obtain ⟨an, cn, hvn, hln, hmn, hgn⟩ := hS.own.c.form
    injection hvn with e1 e2 e3
    subst e1
    obtain ⟨G, rfl, hG1, hG2⟩ := hgn (by omega)
    have hrow : w5.cell? ⟨G, i * 5 + 1 + 1, none⟩ = some (.int .i64 x.chunks[i].fro) := hS.own.c.cell (k := i) (j := 2) rfl hic (by decide)
    have hfz : w5.frozen? ⟨G, i * 5 + 1 + 1, none⟩ = false := hS.own.c.frozen rfl _
    clear hln hmn hgn e2 e3
    have hS2 : PE { x with chunks := x.chunks.set i (⟨x.chunks[i].text, x.chunks[i].rule, y % 4, x.chunks[i].space, x.chunks[i].nest⟩ : Chunk) } rb rd (some ⟨G, 0, none⟩) cd sb sd tb td g lo hi xs P w (w5.setCell ⟨G, i * 5 + 1 + 1, none⟩ (.int .i64 (y % 4))) := hS.setc (i := i) (j := 2) (r := (⟨x.chunks[i].text, x.chunks[i].rule, y % 4, x.chunks[i].space, x.chunks[i].nest⟩ : Chunk)) hic (by decide) rfl ⟨hS.ok.r, hS.ok.v, by show (List.set _ _ _).length ≤ 9; rw [List.length_set]; exact hS.ok.c, hS.ok.s, hS.ok.t, (by intro c hcc; rcases List.mem_or_eq_of_mem_set hcc with h | rfl; exact hS.ok.z c h; show x.chunks[i].text.size ≤ 64; exact hS.ok.z _ (List.getElem_mem hic))⟩
    go_upto_region 22 with fail
    clear hS p0 p1 p2 p3 p4 hrow hfz hG1 hG2 hOP
    generalize w5.setCell ⟨G, i * 5 + 1 + 1, none⟩ (.int .i64 (y % 4)) = w6 at *
    have hS := hS2
    clear hS2
    generalize x.chunks.set i (⟨x.chunks[i].text, x.chunks[i].rule, y % 4, x.chunks[i].space, x.chunks[i].nest⟩ : Chunk) = rs at *
    obtain ⟨p0, p1, p2, p3, p4⟩ := hS.box.five
    have z0 := cell_heap (j := 0) hS.res rfl
    have z1 := cell_heap (j := 1) hS.res rfl
    have z2 := cell_heap (j := 2) hS.res rfl
    have z3 := cell_heap (j := 3) hS.res rfl
    have z4 := cell_heap (j := 4) hS.res rfl
    have f0 := frozen_heap (j := 0) hS.res
    have f1 := frozen_heap (j := 1) hS.res
    have f2 := frozen_heap (j := 2) hS.res
    have f3 := frozen_heap (j := 3) hS.res
    have f4 := frozen_heap (j := 4) hS.res
    go_wp2
    change bodyPost _ _ _ _ _ (storeAll w.heap.size [.int .i64 x.indent, .slice rb x.rules.length rd, .slice (some ⟨G, 0, none⟩) rs.length cd, .slice sb x.spans.length sd, .slice tb x.ties.length td] 0 w6)
    clear p0 p1 p2 p3 p4 z0 z1 z2 z3 z4 f0 f1 f2 f3 f4
    generalize hwf : storeAll w.heap.size [.int .i64 x.indent, .slice rb x.rules.length rd, .slice (some ⟨G, 0, none⟩) rs.length cd, .slice sb x.spans.length sd, .slice tb x.ties.length td] 0 w6 = wf
    obtain ⟨⟨q0, q1, q2, q3, q4⟩, HA, HF, HB, HC⟩ := hS.done hwf
    clear hwf hS
    refine bodyPost_ret (v := .agg #[.int .i64 x.indent, .slice rb x.rules.length rd, .slice (some ⟨G, 0, none⟩) rs.length cd, .slice sb x.spans.length sd, .slice tb x.ties.length td]) (by simp [results, Try.results64, go_sem, q0, q1, q2, q3, q4]) rfl ?_
    exact ⟨{ x with chunks := rs }, rb, rd, _, cd, sb, sd, tb, td, rfl, HA, HF, HB, HC⟩
  · have m5 := Int.emod_nonneg y (show (9 : Int) ≠ 0 by decide)
    have m6 := Int.emod_lt_of_pos y (show (0 : Int) < 9 by decide)
    go_upto_region 15 with fail
    obtain ⟨an, cn, hvn, hln, hmn, hgn⟩ := hS.own.c.form
    injection hvn with e1 e2 e3
    subst e1
    obtain ⟨G, rfl, hG1, hG2⟩ := hgn (by omega)
    have hrow : w5.cell? ⟨G, i * 5 + 1, none⟩ = some (.int .i64 x.chunks[i].rule) := hS.own.c.cell (k := i) (j := 1) rfl hic (by decide)
    have hfz : w5.frozen? ⟨G, i * 5 + 1, none⟩ = false := hS.own.c.frozen rfl _
    clear hln hmn hgn e2 e3
    have hS2 : PE { x with chunks := x.chunks.set i (⟨x.chunks[i].text, y % 9 - 1, x.chunks[i].fro, x.chunks[i].space, x.chunks[i].nest⟩ : Chunk) } rb rd (some ⟨G, 0, none⟩) cd sb sd tb td g lo hi xs P w (w5.setCell ⟨G, i * 5 + 1, none⟩ (.int .i64 (y % 9 - 1))) := hS.setc (i := i) (j := 1) (r := (⟨x.chunks[i].text, y % 9 - 1, x.chunks[i].fro, x.chunks[i].space, x.chunks[i].nest⟩ : Chunk)) hic (by decide) rfl ⟨hS.ok.r, hS.ok.v, by show (List.set _ _ _).length ≤ 9; rw [List.length_set]; exact hS.ok.c, hS.ok.s, hS.ok.t, (by intro c hcc; rcases List.mem_or_eq_of_mem_set hcc with h | rfl; exact hS.ok.z c h; show x.chunks[i].text.size ≤ 64; exact hS.ok.z _ (List.getElem_mem hic))⟩
    go_upto_region 22 with fail
    clear hS p0 p1 p2 p3 p4 hrow hfz hG1 hG2 hOP
    generalize w5.setCell ⟨G, i * 5 + 1, none⟩ (.int .i64 (y % 9 - 1)) = w6 at *
    have hS := hS2
    clear hS2
    generalize x.chunks.set i (⟨x.chunks[i].text, y % 9 - 1, x.chunks[i].fro, x.chunks[i].space, x.chunks[i].nest⟩ : Chunk) = rs at *
    obtain ⟨p0, p1, p2, p3, p4⟩ := hS.box.five
    have z0 := cell_heap (j := 0) hS.res rfl
    have z1 := cell_heap (j := 1) hS.res rfl
    have z2 := cell_heap (j := 2) hS.res rfl
    have z3 := cell_heap (j := 3) hS.res rfl
    have z4 := cell_heap (j := 4) hS.res rfl
    have f0 := frozen_heap (j := 0) hS.res
    have f1 := frozen_heap (j := 1) hS.res
    have f2 := frozen_heap (j := 2) hS.res
    have f3 := frozen_heap (j := 3) hS.res
    have f4 := frozen_heap (j := 4) hS.res
    go_wp2
    change bodyPost _ _ _ _ _ (storeAll w.heap.size [.int .i64 x.indent, .slice rb x.rules.length rd, .slice (some ⟨G, 0, none⟩) rs.length cd, .slice sb x.spans.length sd, .slice tb x.ties.length td] 0 w6)
    clear p0 p1 p2 p3 p4 z0 z1 z2 z3 z4 f0 f1 f2 f3 f4
    generalize hwf : storeAll w.heap.size [.int .i64 x.indent, .slice rb x.rules.length rd, .slice (some ⟨G, 0, none⟩) rs.length cd, .slice sb x.spans.length sd, .slice tb x.ties.length td] 0 w6 = wf
    obtain ⟨⟨q0, q1, q2, q3, q4⟩, HA, HF, HB, HC⟩ := hS.done hwf
    clear hwf hS
    refine bodyPost_ret (v := .agg #[.int .i64 x.indent, .slice rb x.rules.length rd, .slice (some ⟨G, 0, none⟩) rs.length cd, .slice sb x.spans.length sd, .slice tb x.ties.length td]) (by simp [results, Try.results64, go_sem, q0, q1, q2, q3, q4]) rfl ?_
    exact ⟨{ x with chunks := rs }, rb, rd, _, cd, sb, sd, tb, td, rfl, HA, HF, HB, HC⟩
  · have m5 := Int.emod_nonneg y (show (5 : Int) ≠ 0 by decide)
    have hsl := hst.1
    go_upto_region 17 with fail
    have kL : Below w5.heap.size w5 (w5.alloc (.cells #[.int .i64 (y % 5), .int .i64 (y % 7), .int .i64 (y % 11)] 121)) := (Below.refl _ _).alloc (Nat.le_refl _) _
    have hLn := heap_alloc_new w5 (.cells #[.int .i64 (y % 5), .int .i64 (y % 7), .int .i64 (y % 11)] 121)
    have hSL := hS.below kL
    have hb2 := hS.b2
    have hPl := hS.box.lt
    go_upto_region 22 with (at_builtin; refine wp_app1g (F := spanF) (xs := x.spans) (P := Try.prog) (y := (⟨y % 5, y % 7, y % 11⟩ : Span)) rfl (.tmp 67) (.tmp 75) 26 rfl Try.underlying26 hi2 hx0 hx1 hx2 rfl (by decide) rfl hSL.own.s w5.heap.size rfl hLn rfl (by omega) (by omega) (by simp; omega) ?_; intro v9 w9 hO9 hb9 hg9; obtain ⟨a9, c9, rfl, -, -, -⟩ := hO9.form; obtain ⟨hbx9, hS9⟩ := hSL.apps hO9 hb9 hg9 ⟨hSL.ok.r, hSL.ok.v, hSL.ok.c, (by show (x.spans ++ [_]).length ≤ 41; rw [List.length_append]; show x.spans.length + 1 ≤ 41; omega), hSL.ok.t, hSL.ok.z⟩; clear hO9 hb9 hg9; obtain ⟨b0, b1, b2, b3, b4⟩ := hbx9.five; have fz := frozen_heap (j := 3) hbx9)
    have hlen : x.spans.length + 1 = (x.spans ++ [(⟨y % 5, y % 7, y % 11⟩ : Span)]).length := by simp
    clear b0 b1 b2 b3 b4 fz p0 p1 p2 p3 p4 hS hSL kL hLn hOP hbx9
    have hS := hS9
    clear hS9
    rw [hlen]
    clear hlen
    generalize x.spans ++ [(⟨y % 5, y % 7, y % 11⟩ : Span)] = ss at *
    generalize w9.setCell ⟨P, 3, none⟩ (.slice a9 ss.length c9) = w6 at *
    obtain ⟨p0, p1, p2, p3, p4⟩ := hS.box.five
    have z0 := cell_heap (j := 0) hS.res rfl
    have z1 := cell_heap (j := 1) hS.res rfl
    have z2 := cell_heap (j := 2) hS.res rfl
    have z3 := cell_heap (j := 3) hS.res rfl
    have z4 := cell_heap (j := 4) hS.res rfl
    have f0 := frozen_heap (j := 0) hS.res
    have f1 := frozen_heap (j := 1) hS.res
    have f2 := frozen_heap (j := 2) hS.res
    have f3 := frozen_heap (j := 3) hS.res
    have f4 := frozen_heap (j := 4) hS.res
    go_wp2
    change bodyPost _ _ _ _ _ (storeAll w.heap.size [.int .i64 x.indent, .slice rb x.rules.length rd, .slice cb x.chunks.length cd, .slice a9 ss.length c9, .slice tb x.ties.length td] 0 w6)
    clear p0 p1 p2 p3 p4 z0 z1 z2 z3 z4 f0 f1 f2 f3 f4
    generalize hwf : storeAll w.heap.size [.int .i64 x.indent, .slice rb x.rules.length rd, .slice cb x.chunks.length cd, .slice a9 ss.length c9, .slice tb x.ties.length td] 0 w6 = wf
    obtain ⟨⟨q0, q1, q2, q3, q4⟩, HA, HF, HB, HC⟩ := hS.done hwf
    clear hwf hS
    refine bodyPost_ret (v := .agg #[.int .i64 x.indent, .slice rb x.rules.length rd, .slice cb x.chunks.length cd, .slice a9 ss.length c9, .slice tb x.ties.length td]) (by simp [results, Try.results64, go_sem, q0, q1, q2, q3, q4]) rfl ?_
    exact ⟨{ x with spans := ss }, rb, rd, cb, cd, a9, c9, tb, td, rfl, HA, HF, HB, HC⟩
  · have m5 := Int.emod_nonneg y (show (5 : Int) ≠ 0 by decide)
    have hsl := hst.2
    go_upto_region 19 with fail
    have kL : Below w5.heap.size w5 (w5.alloc (.cells #[.int .i64 (y % 6), .int .i64 (y % 5)] 101)) := (Below.refl _ _).alloc (Nat.le_refl _) _
    have hLn := heap_alloc_new w5 (.cells #[.int .i64 (y % 6), .int .i64 (y % 5)] 101)
    have hSL := hS.below kL
    have hb2 := hS.b2
    have hPl := hS.box.lt
    go_upto_region 22 with (at_builtin; refine wp_app1g (F := tieF) (xs := x.ties) (P := Try.prog) (y := (⟨y % 6, y % 5⟩ : Tie)) rfl (.tmp 81) (.tmp 87) 27 rfl Try.underlying27 hi3 hu0 hu1 hu2 rfl (by decide) rfl hSL.own.t w5.heap.size rfl hLn rfl (by omega) (by omega) (by simp; omega) ?_; intro v9 w9 hO9 hb9 hg9; obtain ⟨a9, c9, rfl, -, -, -⟩ := hO9.form; obtain ⟨hbx9, hS9⟩ := hSL.appt hO9 hb9 hg9 ⟨hSL.ok.r, hSL.ok.v, hSL.ok.c, hSL.ok.s, (by show (x.ties ++ [_]).length ≤ 21; rw [List.length_append]; show x.ties.length + 1 ≤ 21; omega), hSL.ok.z⟩; clear hO9 hb9 hg9; obtain ⟨b0, b1, b2, b3, b4⟩ := hbx9.five; have fz := frozen_heap (j := 4) hbx9)
    have hlen : x.ties.length + 1 = (x.ties ++ [(⟨y % 6, y % 5⟩ : Tie)]).length := by simp
    clear b0 b1 b2 b3 b4 fz p0 p1 p2 p3 p4 hS hSL kL hLn hOP hbx9
    have hS := hS9
    clear hS9
    rw [hlen]
    clear hlen
    generalize x.ties ++ [(⟨y % 6, y % 5⟩ : Tie)] = ts at *
    generalize w9.setCell ⟨P, 4, none⟩ (.slice a9 ts.length c9) = w6 at *
    obtain ⟨p0, p1, p2, p3, p4⟩ := hS.box.five
    have z0 := cell_heap (j := 0) hS.res rfl
    have z1 := cell_heap (j := 1) hS.res rfl
    have z2 := cell_heap (j := 2) hS.res rfl
    have z3 := cell_heap (j := 3) hS.res rfl
    have z4 := cell_heap (j := 4) hS.res rfl
    have f0 := frozen_heap (j := 0) hS.res
    have f1 := frozen_heap (j := 1) hS.res
    have f2 := frozen_heap (j := 2) hS.res
    have f3 := frozen_heap (j := 3) hS.res
    have f4 := frozen_heap (j := 4) hS.res
    go_wp2
    change bodyPost _ _ _ _ _ (storeAll w.heap.size [.int .i64 x.indent, .slice rb x.rules.length rd, .slice cb x.chunks.length cd, .slice sb x.spans.length sd, .slice a9 ts.length c9] 0 w6)
    clear p0 p1 p2 p3 p4 z0 z1 z2 z3 z4 f0 f1 f2 f3 f4
    generalize hwf : storeAll w.heap.size [.int .i64 x.indent, .slice rb x.rules.length rd, .slice cb x.chunks.length cd, .slice sb x.spans.length sd, .slice a9 ts.length c9] 0 w6 = wf
    obtain ⟨⟨q0, q1, q2, q3, q4⟩, HA, HF, HB, HC⟩ := hS.done hwf
    clear hwf hS
    refine bodyPost_ret (v := .agg #[.int .i64 x.indent, .slice rb x.rules.length rd, .slice cb x.chunks.length cd, .slice sb x.spans.length sd, .slice a9 ts.length c9]) (by simp [results, Try.results64, go_sem, q0, q1, q2, q3, q4]) rfl ?_
    exact ⟨{ x with ties := ts }, rb, rd, cb, cd, sb, sd, a9, c9, rfl, HA, HF, HB, HC⟩
  · have e1 := Int.emod_nonneg y (show (2 : Int) ≠ 0 by decide)
    have e2 := Int.emod_lt_of_pos y (show (0 : Int) < 2 by decide)
    rcases (by omega : y % 2 = 0 ∨ y % 2 = 1) with hy | hy
    · go_upto_region 21 with fail
      go_wp2_with (at_make; refine wpList_make_full _ rfl _ _ 24 rfl w5.heap.size 92 i0 _ 2 Try.underlying24 hi0 hz0 hz1 _ _ _ _ 8 rfl rfl (by simp [hy]) (by simp [hy]) ?b1 ?b2 ?b3 ?_)
      case b1 => rw [hz2]; omega
      case b2 => unfold maxLen; omega
      case b3 => exact Nat.le_refl _
      intro w6 hown hgr
      have hb6 : Below w5.heap.size w5 w6 := (Below.refl _ _).grown hgr (Nat.le_refl _) (fun k hk => by cases hk)
      have hV6 : Own ruleF 92 w5.heap.size w6.heap.size w6 (.slice (some ⟨w5.heap.size, 0, none⟩) 8 8) (List.replicate 8 Rule.zero) := Own.of_row hown (by simp) (made_cells ruleF (by decide) Rule.zero _ rfl 8) (Nat.le_refl _)
      have hS6 := hS.below hb6
      have hs6 := hb6.size
      have hPl := hS.box.lt
      have hb2 := hS.b2
      have hR6 := hV6.wide (lo' := w.heap.size + 1) (by omega) (Nat.le_refl _)
      clear hown hgr hV6 p0 p1 p2 p3 p4
      have hS2 := hS6.setbox (x' := { x with rules := List.replicate 8 Rule.zero }) (rb := some ⟨w5.heap.size, 0, none⟩) (rd := 8) (j := 1) (u := .slice (some ⟨w5.heap.size, 0, none⟩) 8 8) ⟨hR6, hS6.own.c, hS6.own.s, hS6.own.t⟩ ⟨by show (List.replicate 8 _).length ≤ 9; decide, (by intro r hr; rw [List.eq_of_mem_replicate hr]; decide), hS6.ok.c, hS6.ok.s, hS6.ok.t, hS6.ok.z⟩ rfl
      obtain ⟨b0, b1, b2, b3, b4⟩ := hS6.box.five
      have fz := frozen_heap (j := 1) hS6.box
      clear hS hR6 hb6 hs6 hPl hb2 hOP
      generalize w5.heap.size = G at *
      go_upto_region 22 with fail
      clear hS6 b0 b1 b2 b3 b4 fz
      have hS := hS2
      clear hS2
      obtain ⟨rs, hrs⟩ : ∃ rs, rs = List.replicate 8 Rule.zero := ⟨_, rfl⟩
      rw [← hrs] at hS
      generalize w6.setCell ⟨P, 1, none⟩ (.slice (some ⟨G, 0, none⟩) 8 8) = w7 at *
      clear hrs
      obtain ⟨p0, p1, p2, p3, p4⟩ := hS.box.five
      have z0 := cell_heap (j := 0) hS.res rfl
      have z1 := cell_heap (j := 1) hS.res rfl
      have z2 := cell_heap (j := 2) hS.res rfl
      have z3 := cell_heap (j := 3) hS.res rfl
      have z4 := cell_heap (j := 4) hS.res rfl
      have f0 := frozen_heap (j := 0) hS.res
      have f1 := frozen_heap (j := 1) hS.res
      have f2 := frozen_heap (j := 2) hS.res
      have f3 := frozen_heap (j := 3) hS.res
      have f4 := frozen_heap (j := 4) hS.res
      go_wp2
      change bodyPost _ _ _ _ _ (storeAll w.heap.size [.int .i64 x.indent, .slice (some ⟨G, 0, none⟩) rs.length 8, .slice cb x.chunks.length cd, .slice sb x.spans.length sd, .slice tb x.ties.length td] 0 w7)
      clear p0 p1 p2 p3 p4 z0 z1 z2 z3 z4 f0 f1 f2 f3 f4
      generalize hwf : storeAll w.heap.size [.int .i64 x.indent, .slice (some ⟨G, 0, none⟩) rs.length 8, .slice cb x.chunks.length cd, .slice sb x.spans.length sd, .slice tb x.ties.length td] 0 w7 = wf
      obtain ⟨⟨q0, q1, q2, q3, q4⟩, HA, HF, HB, HC⟩ := hS.done hwf
      clear hwf hS
      refine bodyPost_ret (v := .agg #[.int .i64 x.indent, .slice (some ⟨G, 0, none⟩) rs.length 8, .slice cb x.chunks.length cd, .slice sb x.spans.length sd, .slice tb x.ties.length td]) (by simp [results, Try.results64, go_sem, q0, q1, q2, q3, q4]) rfl ?_
      exact ⟨{ x with rules := rs }, _, _, cb, cd, sb, sd, tb, td, rfl, HA, HF, HB, HC⟩
    · go_upto_region 21 with fail
      go_wp2_with (at_make; refine wpList_make_full _ rfl _ _ 24 rfl w5.heap.size 92 i0 _ 2 Try.underlying24 hi0 hz0 hz1 _ _ _ _ 9 rfl rfl (by simp [hy]) (by simp [hy]) ?b1 ?b2 ?b3 ?_)
      case b1 => rw [hz2]; omega
      case b2 => unfold maxLen; omega
      case b3 => exact Nat.le_refl _
      intro w6 hown hgr
      have hb6 : Below w5.heap.size w5 w6 := (Below.refl _ _).grown hgr (Nat.le_refl _) (fun k hk => by cases hk)
      have hV6 : Own ruleF 92 w5.heap.size w6.heap.size w6 (.slice (some ⟨w5.heap.size, 0, none⟩) 9 9) (List.replicate 9 Rule.zero) := Own.of_row hown (by simp) (made_cells ruleF (by decide) Rule.zero _ rfl 9) (Nat.le_refl _)
      have hS6 := hS.below hb6
      have hs6 := hb6.size
      have hPl := hS.box.lt
      have hb2 := hS.b2
      have hR6 := hV6.wide (lo' := w.heap.size + 1) (by omega) (Nat.le_refl _)
      clear hown hgr hV6 p0 p1 p2 p3 p4
      have hS2 := hS6.setbox (x' := { x with rules := List.replicate 9 Rule.zero }) (rb := some ⟨w5.heap.size, 0, none⟩) (rd := 9) (j := 1) (u := .slice (some ⟨w5.heap.size, 0, none⟩) 9 9) ⟨hR6, hS6.own.c, hS6.own.s, hS6.own.t⟩ ⟨by show (List.replicate 9 _).length ≤ 9; decide, (by intro r hr; rw [List.eq_of_mem_replicate hr]; decide), hS6.ok.c, hS6.ok.s, hS6.ok.t, hS6.ok.z⟩ rfl
      obtain ⟨b0, b1, b2, b3, b4⟩ := hS6.box.five
      have fz := frozen_heap (j := 1) hS6.box
      clear hS hR6 hb6 hs6 hPl hb2 hOP
      generalize w5.heap.size = G at *
      go_upto_region 22 with fail
      clear hS6 b0 b1 b2 b3 b4 fz
      have hS := hS2
      clear hS2
      obtain ⟨rs, hrs⟩ : ∃ rs, rs = List.replicate 9 Rule.zero := ⟨_, rfl⟩
      rw [← hrs] at hS
      generalize w6.setCell ⟨P, 1, none⟩ (.slice (some ⟨G, 0, none⟩) 9 9) = w7 at *
      clear hrs
      obtain ⟨p0, p1, p2, p3, p4⟩ := hS.box.five
      have z0 := cell_heap (j := 0) hS.res rfl
      have z1 := cell_heap (j := 1) hS.res rfl
      have z2 := cell_heap (j := 2) hS.res rfl
      have z3 := cell_heap (j := 3) hS.res rfl
      have z4 := cell_heap (j := 4) hS.res rfl
      have f0 := frozen_heap (j := 0) hS.res
      have f1 := frozen_heap (j := 1) hS.res
      have f2 := frozen_heap (j := 2) hS.res
      have f3 := frozen_heap (j := 3) hS.res
      have f4 := frozen_heap (j := 4) hS.res
      go_wp2
      change bodyPost _ _ _ _ _ (storeAll w.heap.size [.int .i64 x.indent, .slice (some ⟨G, 0, none⟩) rs.length 9, .slice cb x.chunks.length cd, .slice sb x.spans.length sd, .slice tb x.ties.length td] 0 w7)
      clear p0 p1 p2 p3 p4 z0 z1 z2 z3 z4 f0 f1 f2 f3 f4
      generalize hwf : storeAll w.heap.size [.int .i64 x.indent, .slice (some ⟨G, 0, none⟩) rs.length 9, .slice cb x.chunks.length cd, .slice sb x.spans.length sd, .slice tb x.ties.length td] 0 w7 = wf
      obtain ⟨⟨q0, q1, q2, q3, q4⟩, HA, HF, HB, HC⟩ := hS.done hwf
      clear hwf hS
      refine bodyPost_ret (v := .agg #[.int .i64 x.indent, .slice (some ⟨G, 0, none⟩) rs.length 9, .slice cb x.chunks.length cd, .slice sb x.spans.length sd, .slice tb x.ties.length td]) (by simp [results, Try.results64, go_sem, q0, q1, q2, q3, q4]) rfl ?_
      exact ⟨{ x with rules := rs }, _, _, cb, cd, sb, sd, tb, td, rfl, HA, HF, HB, HC⟩
  · have n0 : ¬ k = 0 := by omega
    have n1 : ¬ k = 1 := by omega
    have n2 : ¬ k = 2 := by omega
    have n3 : ¬ k = 3 := by omega
    have n4 : ¬ k = 4 := by omega
    have n5 : ¬ k = 5 := by omega
    have n6 : ¬ k = 6 := by omega
    have n7 : ¬ k = 7 := by omega
    go_upto_region 22 with fail
    clear n0 n1 n2 n3 n4 n5 n6 n7
    obtain ⟨p0, p1, p2, p3, p4⟩ := hS.box.five
    have z0 := cell_heap (j := 0) hS.res rfl
    have z1 := cell_heap (j := 1) hS.res rfl
    have z2 := cell_heap (j := 2) hS.res rfl
    have z3 := cell_heap (j := 3) hS.res rfl
    have z4 := cell_heap (j := 4) hS.res rfl
    have f0 := frozen_heap (j := 0) hS.res
    have f1 := frozen_heap (j := 1) hS.res
    have f2 := frozen_heap (j := 2) hS.res
    have f3 := frozen_heap (j := 3) hS.res
    have f4 := frozen_heap (j := 4) hS.res
    go_wp2
    change bodyPost _ _ _ _ _ (storeAll w.heap.size [.int .i64 x.indent, .slice rb x.rules.length rd, .slice cb x.chunks.length cd, .slice sb x.spans.length sd, .slice tb x.ties.length td] 0 w5)
    clear p0 p1 p2 p3 p4 z0 z1 z2 z3 z4 f0 f1 f2 f3 f4
    generalize hwf : storeAll w.heap.size [.int .i64 x.indent, .slice rb x.rules.length rd, .slice cb x.chunks.length cd, .slice sb x.spans.length sd, .slice tb x.ties.length td] 0 w5 = wf
    obtain ⟨⟨q0, q1, q2, q3, q4⟩, HA, HF, HB, HC⟩ := hS.done hwf
    clear hwf hS
    refine bodyPost_ret (v := .agg #[.int .i64 x.indent, .slice rb x.rules.length rd, .slice cb x.chunks.length cd, .slice sb x.spans.length sd, .slice tb x.ties.length td]) (by simp [results, Try.results64, go_sem, q0, q1, q2, q3, q4]) rfl ?_
    exact ⟨x, rb, rd, cb, cd, sb, sd, tb, td, rfl, HA, HF, HB, HC⟩
end Go.Proofs.Ytllpgomloblfjaa
