/- A piece that is drawn. -/
import Derived.Test.YtllpgomloblfjaaDrawB
import Derived.Test.YtllpgomloblfjaaHPieceB
import Derived.Test.YtllpgomloblfjaaPieceD
import Derived.Test.YtllpgomloblfjaaApp
import Derived.Test.YtllpgomloblfjaaHString
import Derived.Deep.Cut
import Derived.StillTailTactics
import Derived.Deep.LoopGhost
import Derived.Test.YtllpgomloblfjaaHeldN
import Derived.Test.YtllpgomloblfjaaHeapS
namespace Go.Proofs.Ytllpgomloblfjaa
open Go.RowKit

set_option maxHeartbeats 1000000 in
set_option maxRecDepth 100000 in
theorem l01PickInt_any {g lo hi lo' hi' : Nat} {xs : List Int} {w : World} {v : Value} {ls : List Int} (hc : Cur g lo hi xs w) (hr : Rd intF.shape lo' hi' w v ls) (hh : hi' ≤ w.heap.size) (hf : hi' ≤ g ∨ g + 1 ≤ lo') (h1 : 1 ≤ ls.length) (h2 : ls.length ≤ 256) :
    Calls Try.prog 54 #[.pointer (some ⟨g, 0, none⟩), v] w fun e w' => ∃ n : Int, e = .returned (.int .i64 n) ∧ n ∈ ls ∧ Out g (g + 1) w w' ∧ Cur g lo hi xs w' := by
  have hr0 := hr
  obtain ⟨a, c, rfl, k2, k3, k4, k5⟩ := hr
  unfold maxLen at k3
  go_enter Try.func54, Try.ntmps54
  go_wp2_with fail
  refine (l01Below_any hc (by omega) (by omega)).mono ?_
  rintro e w1 ⟨x, rfl, x1, x2, ho, hc1⟩
  obtain ⟨k, rfl⟩ := Int.eq_ofNat_of_zero_le x1
  have hk : k < ls.length := by omega
  obtain ⟨b, off, cs, rfl, hlo, hhi, rfl, q0⟩ := k5 k hk
  have q1 : w1.cell? ⟨b, off + k, none⟩ = some (.int .i64 ls[k]) := (World.cell?_of_block (ho.same hh (hf.elim .inl .inr) b hlo hhi)).trans (by have := q0 0 _ rfl; simpa [intF, Flat.shape] using this)
  have hm : ls[k] ∈ ls := List.getElem_mem hk
  clear k5 q0
  generalize ls[k] = s at *
  go_wp2
  go_ret
  exact ⟨s, rfl, hm, ho, hc1⟩

theorem own_kept {α β : Type} {F : Flat α} {G : Flat β} {T T' lo hi lo' hi' : Nat} {w w' : World} {v u : Value} {xs : List α} {ys : List β} (h : Own F T lo hi w v xs) (k : Own G T' lo' hi' w u ys) (hT : T ≠ T') (hg : w.grownBy w' u.ownBlock) (hh : hi ≤ w.heap.size) : Own F T lo hi w' v xs := by
  rcases h.1.2 with ⟨rfl, hn⟩ | ⟨g1, c1, cur1, rfl, hb1, hh1, rest⟩
  · obtain rfl := List.eq_nil_of_length_eq_zero hn
    exact Own.nil _ _ _ _ _
  · refine ⟨⟨h.1.1, .inr ⟨g1, c1, cur1, rfl, hb1, ?_, rest⟩⟩, h.2⟩
    have hlt : g1 < hi := h.2 g1 rfl
    exact (hg.block g1 (by omega) (fun e => own_ne h k hT rfl e.symm)).trans hh1
/-- a piece under way in block P, its rows from block L on; a cursor in block g; the result's block is as it was -/
structure PSt (x : Piece) (ra : Option Addr) (rc : Nat) (ca : Option Addr) (cc : Nat) (sa : Option Addr) (sc : Nat) (ta : Option Addr) (tc : Nat) (g lo hi : Nat) (xs : List Int) (L P : Nat) (w0 w : World) : Prop where
  box : PBox x ra rc ca cc sa sc ta tc P w
  own : POwn x ra rc ca cc sa sc ta tc L w.heap.size w
  cur : Cur g lo hi xs w
  out : Out g (g + 1) w0 w
  res : w.heap[w0.heap.size]? = some (.cells #[.int .i64 0, .slice none 0 0, .slice none 0 0, .slice none 0 0, .slice none 0 0] 29)
  b1 : g < w0.heap.size
  b2 : w0.heap.size < P
  b3 : P < L
  b4 : L ≤ w.heap.size
section
variable {x : Piece} {ra ca sa ta : Option Addr} {rc cc sc tc g lo hi L P : Nat} {xs : List Int} {w0 w w' : World}
theorem PSt.draw (h : PSt x ra rc ca cc sa sc ta tc g lo hi xs L P w0 w) (ho : Out g (g + 1) w w') (hc : Cur g lo hi xs w') : PSt x ra rc ca cc sa sc ta tc g lo hi xs L P w0 w' := by
  obtain ⟨h1, h2, h3, h4, h5, h6, h7, h8, h9⟩ := h
  have hl := h1.lt
  exact ⟨(ho.block P hl (by omega)).trans h1, (h2.same (ho.same (Nat.le_refl _) (.inr (by omega)))).wide (Nat.le_refl _) ho.size, hc, h4.trans ho, (ho.block _ (by omega) (by omega)).trans h5, h6, h7, h8, Nat.le_trans h9 ho.size⟩
theorem PSt.below (h : PSt x ra rc ca cc sa sc ta tc g lo hi xs L P w0 w) (hb : Below w.heap.size w w') : PSt x ra rc ca cc sa sc ta tc g lo hi xs L P w0 w' := by
  obtain ⟨h1, h2, h3, h4, h5, h6, h7, h8, h9⟩ := h
  have hl := h1.lt
  exact ⟨h1.below hb, (h2.below hb (Nat.le_refl _)).wide (Nat.le_refl _) hb.size, h3.below hb (by omega), h4.then hb (by omega), blk hb h5, h6, h7, h8, Nat.le_trans h9 hb.size⟩
theorem PSt.drew (h : PSt x ra rc ca cc sa sc ta tc g lo hi xs L P w0 w) : PSt x ra rc ca cc sa sc ta tc g lo hi xs L P w0 w.drew := h.below (Below.refl _ _).drew
theorem PSt.putr (h : PSt x ra rc ca cc sa sc ta tc g lo hi xs L P w0 w) {ys : List Rule} {aN : Option Addr} {cN : Nat} (hO : Own ruleF 92 L w'.heap.size w' (.slice aN ys.length cN) ys) (hb : Below L w w') (hg : w.grownBy w' (Value.slice ra x.rules.length rc).ownBlock) : PSt { x with rules := ys } aN cN ca cc sa sc ta tc g lo hi xs L P w0 (w'.setCell ⟨P, 1, none⟩ (.slice aN ys.length cN)) := by
  obtain ⟨h1, h2, h3, h4, h5, h6, h7, h8, h9⟩ := h
  have hs := hb.size
  have hp : PBox x ra rc ca cc sa sc ta tc P w' := (hb.block P h8).trans h1
  have hz : (w'.setCell ⟨P, 1, none⟩ (.slice aN ys.length cN)).heap.size = w'.heap.size := by simp [World.setCell]
  have hBP : Below P w' (w'.setCell ⟨P, 1, none⟩ (.slice aN ys.length cN)) := (Below.refl _ _).setCell (p := ⟨P, 1, none⟩) (Nat.le_refl _) _
  refine ⟨heap_set_same hp, ?_, (h3.below hb (by omega)).below hBP (by omega), (h4.then hb (by omega)).then hBP (by omega), (hBP.block _ h7).trans ((hb.block _ (by omega)).trans h5), h6, h7, h8, by omega⟩
  rw [hz]
  refine ⟨(hO.far (p := ⟨P, 1, none⟩) (.inr h8) _), ((own_kept h2.c h2.r (by decide) hg (Nat.le_refl _)).wide (Nat.le_refl _) hs).far (p := ⟨P, 1, none⟩) (.inr h8) _, ((own_kept h2.s h2.r (by decide) hg (Nat.le_refl _)).wide (Nat.le_refl _) hs).far (p := ⟨P, 1, none⟩) (.inr h8) _, ((own_kept h2.t h2.r (by decide) hg (Nat.le_refl _)).wide (Nat.le_refl _) hs).far (p := ⟨P, 1, none⟩) (.inr h8) _⟩
theorem PSt.putc (h : PSt x ra rc ca cc sa sc ta tc g lo hi xs L P w0 w) {ys : List Chunk} {aN : Option Addr} {cN : Nat} (hO : Own chunkF 56 L w'.heap.size w' (.slice aN ys.length cN) ys) (hb : Below L w w') (hg : w.grownBy w' (Value.slice ca x.chunks.length cc).ownBlock) : PSt { x with chunks := ys } ra rc aN cN sa sc ta tc g lo hi xs L P w0 (w'.setCell ⟨P, 2, none⟩ (.slice aN ys.length cN)) := by
  obtain ⟨h1, h2, h3, h4, h5, h6, h7, h8, h9⟩ := h
  have hs := hb.size
  have hp : PBox x ra rc ca cc sa sc ta tc P w' := (hb.block P h8).trans h1
  have hz : (w'.setCell ⟨P, 2, none⟩ (.slice aN ys.length cN)).heap.size = w'.heap.size := by simp [World.setCell]
  have hBP : Below P w' (w'.setCell ⟨P, 2, none⟩ (.slice aN ys.length cN)) := (Below.refl _ _).setCell (p := ⟨P, 2, none⟩) (Nat.le_refl _) _
  refine ⟨heap_set_same hp, ?_, (h3.below hb (by omega)).below hBP (by omega), (h4.then hb (by omega)).then hBP (by omega), (hBP.block _ h7).trans ((hb.block _ (by omega)).trans h5), h6, h7, h8, by omega⟩
  rw [hz]
  refine ⟨((own_kept h2.r h2.c (by decide) hg (Nat.le_refl _)).wide (Nat.le_refl _) hs).far (p := ⟨P, 2, none⟩) (.inr h8) _, (hO.far (p := ⟨P, 2, none⟩) (.inr h8) _), ((own_kept h2.s h2.c (by decide) hg (Nat.le_refl _)).wide (Nat.le_refl _) hs).far (p := ⟨P, 2, none⟩) (.inr h8) _, ((own_kept h2.t h2.c (by decide) hg (Nat.le_refl _)).wide (Nat.le_refl _) hs).far (p := ⟨P, 2, none⟩) (.inr h8) _⟩
theorem PSt.puts (h : PSt x ra rc ca cc sa sc ta tc g lo hi xs L P w0 w) {ys : List Span} {aN : Option Addr} {cN : Nat} (hO : Own spanF 121 L w'.heap.size w' (.slice aN ys.length cN) ys) (hb : Below L w w') (hg : w.grownBy w' (Value.slice sa x.spans.length sc).ownBlock) : PSt { x with spans := ys } ra rc ca cc aN cN ta tc g lo hi xs L P w0 (w'.setCell ⟨P, 3, none⟩ (.slice aN ys.length cN)) := by
  obtain ⟨h1, h2, h3, h4, h5, h6, h7, h8, h9⟩ := h
  have hs := hb.size
  have hp : PBox x ra rc ca cc sa sc ta tc P w' := (hb.block P h8).trans h1
  have hz : (w'.setCell ⟨P, 3, none⟩ (.slice aN ys.length cN)).heap.size = w'.heap.size := by simp [World.setCell]
  have hBP : Below P w' (w'.setCell ⟨P, 3, none⟩ (.slice aN ys.length cN)) := (Below.refl _ _).setCell (p := ⟨P, 3, none⟩) (Nat.le_refl _) _
  refine ⟨heap_set_same hp, ?_, (h3.below hb (by omega)).below hBP (by omega), (h4.then hb (by omega)).then hBP (by omega), (hBP.block _ h7).trans ((hb.block _ (by omega)).trans h5), h6, h7, h8, by omega⟩
  rw [hz]
  refine ⟨((own_kept h2.r h2.s (by decide) hg (Nat.le_refl _)).wide (Nat.le_refl _) hs).far (p := ⟨P, 3, none⟩) (.inr h8) _, ((own_kept h2.c h2.s (by decide) hg (Nat.le_refl _)).wide (Nat.le_refl _) hs).far (p := ⟨P, 3, none⟩) (.inr h8) _, (hO.far (p := ⟨P, 3, none⟩) (.inr h8) _), ((own_kept h2.t h2.s (by decide) hg (Nat.le_refl _)).wide (Nat.le_refl _) hs).far (p := ⟨P, 3, none⟩) (.inr h8) _⟩
theorem PSt.putt (h : PSt x ra rc ca cc sa sc ta tc g lo hi xs L P w0 w) {ys : List Tie} {aN : Option Addr} {cN : Nat} (hO : Own tieF 101 L w'.heap.size w' (.slice aN ys.length cN) ys) (hb : Below L w w') (hg : w.grownBy w' (Value.slice ta x.ties.length tc).ownBlock) : PSt { x with ties := ys } ra rc ca cc sa sc aN cN g lo hi xs L P w0 (w'.setCell ⟨P, 4, none⟩ (.slice aN ys.length cN)) := by
  obtain ⟨h1, h2, h3, h4, h5, h6, h7, h8, h9⟩ := h
  have hs := hb.size
  have hp : PBox x ra rc ca cc sa sc ta tc P w' := (hb.block P h8).trans h1
  have hz : (w'.setCell ⟨P, 4, none⟩ (.slice aN ys.length cN)).heap.size = w'.heap.size := by simp [World.setCell]
  have hBP : Below P w' (w'.setCell ⟨P, 4, none⟩ (.slice aN ys.length cN)) := (Below.refl _ _).setCell (p := ⟨P, 4, none⟩) (Nat.le_refl _) _
  refine ⟨heap_set_same hp, ?_, (h3.below hb (by omega)).below hBP (by omega), (h4.then hb (by omega)).then hBP (by omega), (hBP.block _ h7).trans ((hb.block _ (by omega)).trans h5), h6, h7, h8, by omega⟩
  rw [hz]
  refine ⟨((own_kept h2.r h2.t (by decide) hg (Nat.le_refl _)).wide (Nat.le_refl _) hs).far (p := ⟨P, 4, none⟩) (.inr h8) _, ((own_kept h2.c h2.t (by decide) hg (Nat.le_refl _)).wide (Nat.le_refl _) hs).far (p := ⟨P, 4, none⟩) (.inr h8) _, ((own_kept h2.s h2.t (by decide) hg (Nat.le_refl _)).wide (Nat.le_refl _) hs).far (p := ⟨P, 4, none⟩) (.inr h8) _, (hO.far (p := ⟨P, 4, none⟩) (.inr h8) _)⟩
end
/-- texts are short -/
def Sized' (x : Piece) : Prop := ∀ c ∈ x.chunks, c.text.size ≤ 64
/-- what a rule, a chunk, a span, a tie that are drawn have -/
def RuleD (r : Rule) : Prop := 2 ≤ r.values ∧ r.values ≤ 3 ∧ 0 ≤ r.cost ∧ r.cost ≤ 9
def ChunkD (rs : List Rule) (c : Chunk) : Prop := plainB c.text = true ∧ c.text.size ≤ 12 ∧ splitOk rs c.split = true
def SpanD (m : Nat) (s : Span) : Prop := 0 ≤ s.fro ∧ s.fro ≤ s.til ∧ s.til < m ∧ 0 ≤ s.cost ∧ s.cost ≤ 9
def TieD (n : Nat) (t : Tie) : Prop := 0 ≤ t.kid ∧ t.kid < n ∧ 0 ≤ t.up ∧ t.up < n ∧ t.kid ≠ t.up
theorem snoc_all {α : Type} {p : α → Prop} {xs : List α} {y : α} (h : ∀ x ∈ xs, p x) (hy : p y) : ∀ x ∈ xs ++ [y], p x := fun x hx => by
  rcases List.mem_append.1 hx with h1 | h1
  · exact h x h1
  · rw [List.mem_singleton.1 h1]; exact hy
theorem drawn_ok {x : Piece} {n m : Nat} {tx : ByteArray} {cs : List Chunk} (hi : 0 ≤ x.indent ∧ x.indent ≤ 60) (hn : n ≤ 8) (hm : m ≤ 79) (hr : x.rules.length = n) (hrd : ∀ r ∈ x.rules, RuleD r) (hc : x.chunks = cs ++ [⟨tx, 0, 0, false, 0⟩]) (hcl : cs.length = m) (hcd : ∀ c ∈ cs, ChunkD x.rules c) (htx : plainB tx = true ∧ tx.size ≤ 12) (hs : x.spans.length ≤ 40) (hsd : ∀ s ∈ x.spans, SpanD m s) (ht : x.ties.length ≤ 20) (htd : ∀ t ∈ x.ties, TieD n t) : pieceOk x = true ∧ Sized' x := by
  have hl : x.chunks.length = m + 1 := by rw [hc, List.length_append, hcl]; rfl
  have hlast : chunkAt x.chunks (x.chunks.length - 1) = ⟨tx, 0, 0, false, 0⟩ := by
    rw [chunkAt_lt (by omega)]
    simp only [hc]
    rw [List.getElem_append_right (by rw [hcl]; simp; omega)]
    simp
  constructor
  · unfold pieceOk chunksOk
    simp only [Bool.and_eq_true, decide_eq_true_eq, List.all_eq_true]
    refine ⟨⟨⟨⟨⟨⟨⟨inR_yes hi.1 hi.2, fun r h => ?_⟩, by omega⟩, ⟨inR_yes (by omega) (by omega), fun i h => ?_⟩, ?_⟩, hs⟩, ht⟩, fun s h => ?_⟩, fun t h => ?_⟩
    · have h1 := hrd r h
      unfold RuleD at h1
      unfold ruleOk
      rw [inR_yes h1.1 h1.2.1, inR_yes h1.2.2.1 h1.2.2.2]; rfl
    · rw [List.mem_range] at h
      unfold chunkOk
      by_cases h2 : i < m
      · have e : chunkAt x.chunks i = cs[i] := by
          rw [chunkAt_lt h]
          simp only [hc]
          rw [List.getElem_append_left (by omega)]
        have h3 := hcd cs[i] (List.getElem_mem _)
        rw [e, h3.1, h3.2.2]; simp
      · have e : i = x.chunks.length - 1 := by omega
        rw [e, hlast, htx.1, decide_eq_true (by omega)]; rfl
    · unfold lastOk
      rw [hlast]; rfl
    · have h1 := hsd s h
      unfold SpanD at h1
      unfold spanOk
      rw [inR_yes (by omega) (by omega), inR_yes h1.1 h1.2.1, inR_yes h1.2.2.2.1 h1.2.2.2.2]; rfl
    · have h1 := htd t h
      unfold TieD at h1
      unfold tieOk
      rw [inR_yes h1.1 (by omega), inR_yes h1.2.2.1 (by omega), decide_eq_false h1.2.2.2.2]; rfl
  · intro c h
    rw [hc] at h
    rcases List.mem_append.1 h with h1 | h1
    · have := (hcd c h1).2.1; omega
    · rw [List.mem_singleton.1 h1]; show tx.size ≤ _; omega
theorem same_storeAllP {lo hi g : Nat} (h : g < lo ∨ hi ≤ g) (cs : List Value) : ∀ (o : Nat) (w : World), Same lo hi w (storeAll g cs o w) := by
  induction cs with
  | nil => exact fun o w => Same.refl _ _ _
  | cons a cs ih =>
    intro o w
    refine Same.trans (fun b h1 h2 => ?_) (ih (o + 1) (w.setCell ⟨g, o, none⟩ a))
    exact Below.heap_setCell _ _ _ _ (by show b ≠ g; omega)
theorem PSt.done {x : Piece} {ra ca sa ta : Option Addr} {rc cc sc tc g lo hi L P : Nat} {xs : List Int} {w0 w wf : World} (h : PSt x ra rc ca cc sa sc ta tc g lo hi xs L P w0 w) (e : storeAll w0.heap.size [.int .i64 x.indent, .slice ra x.rules.length rc, .slice ca x.chunks.length cc, .slice sa x.spans.length sc, .slice ta x.ties.length tc] 0 w = wf) : (wf.cell? ⟨w0.heap.size, 0, none⟩ = some (.int .i64 x.indent) ∧ wf.cell? ⟨w0.heap.size, 1, none⟩ = some (.slice ra x.rules.length rc) ∧ wf.cell? ⟨w0.heap.size, 2, none⟩ = some (.slice ca x.chunks.length cc) ∧ wf.cell? ⟨w0.heap.size, 3, none⟩ = some (.slice sa x.spans.length sc) ∧ wf.cell? ⟨w0.heap.size, 4, none⟩ = some (.slice ta x.ties.length tc)) ∧ POwn x ra rc ca cc sa sc ta tc w0.heap.size wf.heap.size wf ∧ Out g (g + 1) w0 wf ∧ Cur g lo hi xs wf := by
  obtain ⟨h1, h2, h3, h4, h5, h6, h7, h8, h9⟩ := h
  have z0 := cell_heap (j := 0) h5 rfl
  have z1 := cell_heap (j := 1) h5 rfl
  have z2 := cell_heap (j := 2) h5 rfl
  have z3 := cell_heap (j := 3) h5 rfl
  have z4 := cell_heap (j := 4) h5 rfl
  have h6' := storeAll_at (g := w0.heap.size) [.int .i64 x.indent, .slice ra x.rules.length rc, .slice ca x.chunks.length cc, .slice sa x.spans.length sc, .slice ta x.ties.length tc] 0 w (fun j hj => by
    rw [Nat.zero_add]
    have : j = 0 ∨ j = 1 ∨ j = 2 ∨ j = 3 ∨ j = 4 := by simp at hj; omega
    rcases this with rfl | rfl | rfl | rfl | rfl
    · exact ⟨_, z0⟩
    · exact ⟨_, z1⟩
    · exact ⟨_, z2⟩
    · exact ⟨_, z3⟩
    · exact ⟨_, z4⟩)
  have hB : Below w0.heap.size w (storeAll w0.heap.size [.int .i64 x.indent, .slice ra x.rules.length rc, .slice ca x.chunks.length cc, .slice sa x.spans.length sc, .slice ta x.ties.length tc] 0 w) := blw_storeAll (Below.refl _ _) (Nat.le_refl _) _ _
  have hS := same_storeAllP (lo := L) (hi := w.heap.size) (g := w0.heap.size) (.inl (by omega)) [.int .i64 x.indent, .slice ra x.rules.length rc, .slice ca x.chunks.length cc, .slice sa x.spans.length sc, .slice ta x.ties.length tc] 0 w
  have hs := hB.size
  subst e
  exact ⟨⟨h6' 0 _ rfl, h6' 1 _ rfl, h6' 2 _ rfl, h6' 3 _ rfl, h6' 4 _ rfl⟩, (h2.same hS).wide (by omega) hs, h4.then hB (Nat.le_refl _), h3.below hB (by omega)⟩
theorem tie_mod {a z n0 : Int} (a1 : 0 ≤ a) (a2 : a < 1 + n0) (z1 : 0 ≤ z) (z2 : z < 1 + n0 - 1) : 0 ≤ Int.tmod (a + 1 + z) (1 + n0) ∧ Int.tmod (a + 1 + z) (1 + n0) < 1 + n0 ∧ a ≠ Int.tmod (a + 1 + z) (1 + n0) := by
  rw [Int.tmod_eq_emod_of_nonneg (by omega)]
  have h1 := Int.emod_nonneg (a + 1 + z) (b := 1 + n0) (by omega)
  have h2 := Int.emod_lt_of_pos (a + 1 + z) (b := 1 + n0) (by omega)
  refine ⟨h1, h2, fun e => ?_⟩
  by_cases h : a + 1 + z < 1 + n0
  · rw [Int.emod_eq_of_lt (by omega) h] at e; omega
  · rw [← Int.sub_emod_right, Int.emod_eq_of_lt (by omega) (by omega)] at e; omega
theorem texts5 : ∀ t ∈ [(ByteArray.mk #[97] : ByteArray), (ByteArray.mk #[99, 97, 108, 108, 40] : ByteArray), (ByteArray.mk #[115, 111, 109, 101, 32, 43, 32] : ByteArray), (ByteArray.mk #[97, 76, 111, 110, 103, 101, 114, 78, 97, 109, 101] : ByteArray), (ByteArray.mk #[120, 44] : ByteArray)], plainB t = true ∧ t.size ≤ 12 := by decide
theorem texts3 : ∀ t ∈ [(ByteArray.mk #[101, 110, 100, 59] : ByteArray), (ByteArray.mk #[41] : ByteArray), (ByteArray.mk #[] : ByteArray)], plainB t = true ∧ t.size ≤ 12 := by decide
theorem splitOk_of {rs : List Rule} {r : Nat} (h : r < rs.length) : ∀ (f : Int) (b : Bool) (n : Int), 1 ≤ f → f ≤ rs[r].values - 1 → 0 ≤ n → n ≤ 40 → splitOk rs ⟨r, f, b, n⟩ = true := fun f b n h1 h2 h3 h4 => by
  unfold splitOk
  have e : rs.getD (Int.toNat (r : Int)) Rule.zero = rs[r] := by rw [Int.toNat_natCast, List.getD_eq_getElem?_getD, List.getElem?_eq_getElem h]; rfl
  show (inR (r : Int) 0 ((rs.length : Int) - 1) && inR f 1 ((rs.getD (Int.toNat (r : Int)) Rule.zero).values - 1) && inR n 0 40) = true
  rw [e, inR_yes (by omega) (by omega), inR_yes h1 h2, inR_yes h3 h4]; rfl
theorem rule_cell {T lo hi : Nat} {w : World} {ra : Option Addr} {rc : Nat} {rs : List Rule} (h : Own ruleF T lo hi w (.slice ra rs.length rc) rs) {k : Nat} (hk : k < rs.length) : ∃ G, ra = some ⟨G, 0, none⟩ ∧ w.cell? ⟨G, k * 2, none⟩ = some (.int .i64 rs[k].values) := by
  rcases h.form with ⟨a, c, e, -, -, hf⟩
  cases e
  obtain ⟨G, rfl, -, -⟩ := hf (by omega)
  exact ⟨G, rfl, h.cell (j := 0) rfl hk (by decide)⟩
theorem Try.infoRuleD : (Try.prog.info? 92).map (fun i => (i.zero, i.size, i.bytes)) = some (some (.agg #[.int .i64 0, .int .i64 0]), 2, 16) := by kernel_rfl
theorem Try.infoChunkD : (Try.prog.info? 56).map (fun i => (i.zero, i.size, i.bytes)) = some (some (.agg #[.string ByteArray.empty, .int .i64 0, .int .i64 0, .bool false, .int .i64 0]), 5, 48) := by kernel_rfl
theorem Try.infoSpanD : (Try.prog.info? 121).map (fun i => (i.zero, i.size, i.bytes)) = some (some (.agg #[.int .i64 0, .int .i64 0, .int .i64 0]), 3, 24) := by kernel_rfl
theorem Try.infoTieD : (Try.prog.info? 101).map (fun i => (i.zero, i.size, i.bytes)) = some (some (.agg #[.int .i64 0, .int .i64 0]), 2, 16) := by kernel_rfl
set_option maxHeartbeats 8000000 in
set_option maxRecDepth 100000 in
theorem l08Piece_any {g lo hi : Nat} {xs : List Int} {w : World} (hc : Cur g lo hi xs w) :
    Calls Try.prog 52 #[.pointer (some ⟨g, 0, none⟩)] w fun e w' => ∃ (x : Piece) (ra : Option Addr) (rc : Nat) (ca : Option Addr) (cc : Nat) (sa : Option Addr) (sc : Nat) (ta : Option Addr) (tc : Nat), e = .returned (x.v ra rc ca cc sa sc ta tc) ∧ pieceOk x = true ∧ Sized' x ∧ 1 ≤ x.rules.length ∧ x.rules.length ≤ 5 ∧ x.chunks.length ≤ 9 ∧ POwn x ra rc ca cc sa sc ta tc w.heap.size w'.heap.size w' ∧ Out g (g + 1) w w' ∧ Cur g lo hi xs w' := by
  obtain ⟨i0, hi0, hz0, hz1, hz2⟩ := info_parts Try.infoRuleD
  obtain ⟨i1, hi1, hy0, hy1, hy2⟩ := info_parts Try.infoChunkD
  obtain ⟨i2, hi2, hx0, hx1, hx2⟩ := info_parts Try.infoSpanD
  obtain ⟨i3, hi3, hu0, hu1, hu2⟩ := info_parts Try.infoTieD
  have hgl := hc.lt
  go_enter Try.func52, Try.ntmps52
  go_upto_region 1 with fail
  have hR0 := heap_alloc_new w (.cells #[.int .i64 0, .slice none 0 0, .slice none 0 0, .slice none 0 0, .slice none 0 0] 29)
  have hb0 : Below w.heap.size w (w.alloc (.cells #[.int .i64 0, .slice none 0 0, .slice none 0 0, .slice none 0 0, .slice none 0 0] 29)) := (Below.refl _ _).alloc (Nat.le_refl _) _
  have hs0 : w.heap.size < (w.alloc (.cells #[.int .i64 0, .slice none 0 0, .slice none 0 0, .slice none 0 0, .slice none 0 0] 29)).heap.size := by simp
  generalize w.alloc (.cells #[.int .i64 0, .slice none 0 0, .slice none 0 0, .slice none 0 0, .slice none 0 0] 29) = w0 at *
  have hc0 := hc.below hb0 hgl
  have ho0 : Out g (g + 1) w w0 := Out.of_below hb0
  clear hc hb0
  have hrl := rd_lit intF w0 [0, 2, 8] #[.int .i64 0, .int .i64 2, .int .i64 8] 3 rfl (by decide)
  have hbl : Below w0.heap.size w0 (w0.alloc (.cells #[.int .i64 0, .int .i64 2, .int .i64 8] 3)) := (Below.refl _ _).alloc (Nat.le_refl _) _
  have hcl := hc0.below hbl (by omega)
  have hol := ho0.then hbl (by omega)
  have hRl := blk hbl hR0
  have hsl : w0.heap.size < (w0.alloc (.cells #[.int .i64 0, .int .i64 2, .int .i64 8] 3)).heap.size := by simp
  go_wp2_with fail
  generalize w0.alloc (.cells #[.int .i64 0, .int .i64 2, .int .i64 8] 3) = wl at *
  refine (l01PickInt_any hcl hrl (by omega) (.inr (by omega)) (by decide) (by decide)).mono ?_
  rintro e w1 ⟨ind, rfl, hin, ho1, hc1⟩
  have hsi : 0 ≤ ind ∧ ind ≤ 60 := by
    rcases List.mem_cons.1 hin with h | h
    · omega
    · rcases List.mem_cons.1 h with h | h
      · omega
      · have := List.mem_singleton.1 h; omega
  have hs1 := ho1.size
  have hR1 := (ho1.block w.heap.size (by omega) (by omega)).trans hRl
  have hO1 := hol.trans ho1
  clear hin hrl hbl hcl hol hRl hR0 ho1 hc0 ho0
  go_upto_region 2 with fail
  have kb : Below w1.heap.size w1 (w1.alloc (.cells #[.int .i64 ind, .slice none 0 0, .slice none 0 0, .slice none 0 0, .slice none 0 0] 29)) := (Below.refl _ _).alloc (Nat.le_refl _) _
  have hP2 := heap_alloc_new w1 (.cells #[.int .i64 ind, .slice none 0 0, .slice none 0 0, .slice none 0 0, .slice none 0 0] 29)
  have hs2 : (w1.alloc (.cells #[.int .i64 ind, .slice none 0 0, .slice none 0 0, .slice none 0 0, .slice none 0 0] 29)).heap.size = w1.heap.size + 1 := by simp
  generalize w1.alloc (.cells #[.int .i64 ind, .slice none 0 0, .slice none 0 0, .slice none 0 0, .slice none 0 0] 29) = w2 at *
  obtain ⟨P, hP⟩ : ∃ P, P = w1.heap.size := ⟨_, rfl⟩
  obtain ⟨L, hL⟩ : ∃ L, Hid (L = P + 1) := ⟨_, rfl⟩
  have hS2 : PSt ⟨ind, [], [], [], []⟩ none 0 none 0 none 0 none 0 g lo hi xs L P w w2 := by
    refine ⟨by rw [hP]; exact hP2, ⟨Own.nil _ _ _ _ _, Own.nil _ _ _ _ _, Own.nil _ _ _ _ _, Own.nil _ _ _ _ _⟩, hc1.below kb (by omega), hO1.then kb (by omega), blk kb hR1, by omega, by omega, by have := hL.out; omega, by have := hL.out; omega⟩
  rw [← hP]
  clear hP2 hR1 hO1 hc1 kb hs2 hs1 hs0 hsl hP
  go_wp2_with fail
  refine (l01Below_any hS2.cur (by omega) (by omega)).mono ?_
  rintro e w3 ⟨nz, rfl, n1, n2, ho3, hc3⟩
  obtain ⟨n0, rfl⟩ := Int.eq_ofNat_of_zero_le n1
  have hS3 := hS2.draw ho3 hc3
  have hnw : IntKind.i64.wrap (1 + (n0 : Int)) = 1 + (n0 : Int) := IntWalk.i64_in _ (by omega)
  clear hS2 ho3 hc3
  obtain ⟨n, hn⟩ : ∃ n, n = 1 + n0 := ⟨_, rfl⟩
  have HN := Lib.hid hn
  have hn1 : 1 ≤ n ∧ n ≤ 5 := by omega
  go_upto_region 3 with fail
  clear hn n1 n2 hnw
  go_wp2_with fail
  go_loopw [5] (fun i wr => ∃ k : Nat, k ≤ n ∧ i = .int .i64 k ∧ ∃ (rs : List Rule) (ra : Option Addr) (rc : Nat), Hid (rs.length = k) ∧ Hid (∀ r ∈ rs, RuleD r) ∧ PSt ⟨ind, rs, [], [], []⟩ ra rc none 0 none 0 none 0 g lo hi xs L P w wr) (fun i _ => n - (intOf i).toNat)
  case atStart => exact ⟨0, Nat.zero_le _, rfl, [], none, 0, rfl, (fun r h => by cases h), hS3⟩
  case round =>
    clear hS3
    obtain ⟨k, hk, rfl, rs, ra, rc, HRL, HRD, hS⟩ := hrel
    by_cases hlt : k < n
    · have hki : (k : Int) < 1 + (n0 : Int) := by have := HN.out; omega
      have hrl5 : rs.length ≤ 5 := by have := HRL.out; omega
      go_upto_region 6 with fail
      refine wp_regionN_drew (S := fun w' => PBox ⟨ind, rs, [], [], []⟩ ra rc none 0 none 0 none 0 P w') 12 (by kernel_rfl) ?_ (fun hHeld => ?_)
      · exact hS.drew.box
      replace hS := hS.drew
      generalize wr.drew = wD at *
      refine wpAnyN_take (i := 0) (v := ?v1) (at_op rfl) (by kernel_rfl) (by kernel_rfl) (by kernel_rfl) (by kernel_rfl) (fun _ _ _ h => h) (Or.inl ⟨by rfl, ?y1⟩) (by assumption) ?r1
      case y1 =>
        intro wx hSx
        obtain ⟨p0, p1, p2, p3, p4⟩ := hSx.five
        go_simp
        try with_reducible rfl
      try simp only [Act.put, List.setIfInBounds_toArray, List.set_cons_zero, List.set_cons_succ]
      refine wpAnyN_take (i := 1) (v := ?v2) (at_op rfl) (by kernel_rfl) (by kernel_rfl) (by kernel_rfl) (by kernel_rfl) (fun _ _ _ h => h) (Or.inl ⟨by rfl, ?y2⟩) (by assumption) ?r2
      case y2 =>
        intro wx hSx
        obtain ⟨p0, p1, p2, p3, p4⟩ := hSx.five
        go_simp
        try with_reducible rfl
      try simp only [Act.put, List.setIfInBounds_toArray, List.set_cons_zero, List.set_cons_succ]
      refine wpAnyN_take (i := 2) (v := ?v3) (at_op rfl) (by kernel_rfl) (by kernel_rfl) (by kernel_rfl) (by kernel_rfl) (fun _ _ _ h => h) (Or.inl ⟨by rfl, ?y3⟩) (by assumption) ?r3
      case y3 =>
        intro wx hSx
        obtain ⟨p0, p1, p2, p3, p4⟩ := hSx.five
        go_simp
        try with_reducible rfl
      try simp only [Act.put, List.setIfInBounds_toArray, List.set_cons_zero, List.set_cons_succ]
      refine wpAnyN_take (i := 5) (v := ?v4) (at_op rfl) (by kernel_rfl) (by kernel_rfl) (by kernel_rfl) (by kernel_rfl) (fun _ _ _ h => h) (Or.inl ⟨by rfl, ?y4⟩) (by assumption) ?r4
      case y4 =>
        intro wx hSx
        obtain ⟨p0, p1, p2, p3, p4⟩ := hSx.five
        go_simp
        try with_reducible rfl
      try simp only [Act.put, List.setIfInBounds_toArray, List.set_cons_zero, List.set_cons_succ]
      refine wpAnyN_ready (rs := [3]) (by kernel_rfl) (by simp) ?_
      refine AllReadyN.cons (at_op rfl) (fun K hK => ?_) AllReadyN.nil
      go_simp
      refine (l01Below_any hS.cur (by omega) (by omega)).mono ?_
      rintro e wa ⟨za, rfl, za1, za2, ho, hcu⟩
      replace hS := hS.draw ho hcu
      clear ho hcu
      have hwa : IntKind.i64.wrap (2 + za) = 2 + za := IntWalk.i64_in _ (by omega)
      go_wp2_with fail
      refine hK.out _ _ (fun _ => hS.box) (fun hSb => ?_)
      replace hSb := hSb (by decide)
      clear hK K
      try simp only [Act.put, List.setIfInBounds_toArray, List.set_cons_zero, List.set_cons_succ]
      refine wpAnyN_take (i := 4) (v := ?v5) (at_op rfl) (by kernel_rfl) (by kernel_rfl) (by kernel_rfl) (by kernel_rfl) (fun _ _ _ h => h) (Or.inl ⟨by rfl, ?y5⟩) (by assumption) ?r5
      case y5 =>
        intro wx hSx
        obtain ⟨p0, p1, p2, p3, p4⟩ := hSx.five
        go_simp
        try with_reducible rfl
      try simp only [Act.put, List.setIfInBounds_toArray, List.set_cons_zero, List.set_cons_succ]
      refine wpAnyN_ready (rs := [6]) (by kernel_rfl) (by simp) ?_
      refine AllReadyN.cons (at_op rfl) (fun K hK => ?_) AllReadyN.nil
      go_simp
      refine (l01Below_any hS.cur (by omega) (by omega)).mono ?_
      rintro e wb ⟨zb, rfl, zb1, zb2, ho, hcu⟩
      replace hS := hS.draw ho hcu
      clear ho hcu
      have hwb : IntKind.i64.wrap (1 + zb) = 1 + zb := IntWalk.i64_in _ (by omega)
      go_wp2_with fail
      refine hK.out _ _ (fun _ => hS.box) (fun hSb => ?_)
      replace hSb := hSb (by decide)
      clear hK K
      try simp only [Act.put, List.setIfInBounds_toArray, List.set_cons_zero, List.set_cons_succ]
      refine wpAnyN_take (i := 7) (v := ?v6) (at_op rfl) (by kernel_rfl) (by kernel_rfl) (by kernel_rfl) (by kernel_rfl) (fun _ _ _ h => h) (Or.inl ⟨by rfl, ?y6⟩) (by assumption) ?r6
      case y6 =>
        intro wx hSx
        obtain ⟨p0, p1, p2, p3, p4⟩ := hSx.five
        go_simp
        try with_reducible rfl
      try simp only [Act.put, List.setIfInBounds_toArray, List.set_cons_zero, List.set_cons_succ]
      refine wpAnyN_take (i := 8) (v := ?v7) (at_op rfl) (by kernel_rfl) (by kernel_rfl) (by kernel_rfl) (by kernel_rfl) (fun _ _ _ h => h) (Or.inl ⟨by rfl, ?y7⟩) (by assumption) ?r7
      case y7 =>
        intro wx hSx
        obtain ⟨p0, p1, p2, p3, p4⟩ := hSx.five
        go_simp
        try with_reducible rfl
      try simp only [Act.put, List.setIfInBounds_toArray, List.set_cons_zero, List.set_cons_succ]
      refine wpAnyN_ready (rs := [9]) (by kernel_rfl) (by simp) ?_
      refine AllReadyN.cons (at_op rfl) (fun K hK => ?_) AllReadyN.nil
      go_simp
      have kL : Below wb.heap.size wb (wb.alloc (.cells #[.int .i64 (2 + za), .int .i64 (1 + zb)] 92)) := (Below.refl _ _).alloc (Nat.le_refl _) _
      have hSL := hS.below kL
      have hLn := heap_alloc_new wb (.cells #[.int .i64 (2 + za), .int .i64 (1 + zb)] 92)
      refine hK.out _ _ (fun _ => hSL.box) (fun hSb => ?_)
      replace hSb := hSb (by decide)
      clear hK K
      try simp only [Act.put, List.setIfInBounds_toArray, List.set_cons_zero, List.set_cons_succ]
      refine wpAnyN_ready (rs := [10]) (by kernel_rfl) (by simp) ?_
      refine readyN_list (at_op rfl) (fun K hK => ?_)
      refine wp_app1g (F := ruleF) (xs := rs) (P := Try.prog) (y := (⟨2 + za, 1 + zb⟩ : Rule)) rfl (.tmp 27) (.tmp 35) 24 rfl Try.underlying24 hi0 hz0 hz1 hz2 rfl (by decide) rfl hSL.own.r wb.heap.size rfl hLn rfl (by omega) (by omega) hSL.b4 ?_
      intro v9 w9 hO9 hb9 hg9
      obtain ⟨a9, c9, rfl, -, -, -⟩ := hO9.form
      have hS9 := hSL.putr hO9 hb9 hg9
      have hbx9 : PBox ⟨ind, rs, [], [], []⟩ ra rc none 0 none 0 none 0 P w9 := (hb9.block P hSL.b3).trans hSL.box
      refine hK.out _ _ (fun _ => hbx9) (fun hSb => ?_)
      replace hSb := hSb (by decide)
      clear hK K
      try simp only [Act.put, List.setIfInBounds_toArray, List.set_cons_zero, List.set_cons_succ]
      refine wpAnyN_take (i := 11) (v := ?v8) (at_op rfl) (by kernel_rfl) (by kernel_rfl) (by kernel_rfl) (by kernel_rfl) (fun _ _ _ h => h) (Or.inl ⟨by rfl, ?y8⟩) (by assumption) ?r8
      case y8 =>
        intro wx hSx
        obtain ⟨p0, p1, p2, p3, p4⟩ := hSx.five
        go_simp
        try with_reducible rfl
      try simp only [Act.put, List.setIfInBounds_toArray, List.set_cons_zero, List.set_cons_succ]
      obtain ⟨p0, p1, p2, p3, p4⟩ := hbx9.five
      have fz1 : w9.frozen? ⟨P, 1, none⟩ = false := frozen_heap hbx9
      refine wpAnyN_ready (rs := [12]) (by kernel_rfl) (by simp) ?_
      refine AllReadyN.cons (at_op rfl) (fun K hK => ?_) AllReadyN.nil
      go_wp2_with fail
      refine hK.out _ _ (fun h => absurd rfl h) (fun _ => ?_)
      clear hK K
      try simp only [Act.put, List.setIfInBounds_toArray, List.set_cons_zero, List.set_cons_succ]
      refine wpAnyN_done (by kernel_rfl) ?_ _
      clear hbx9 p0 p1 p2 p3 p4 fz1 hSL hLn kL hb9 hg9 hO9 hS
      have hS := hS9
      clear hS9
      simp only [List.length_append, List.length_cons, List.length_nil, Nat.zero_add] at hS
      generalize w9.setCell ⟨P, 1, none⟩ (.slice a9 (rs.length + 1) c9) = wz at *
      go_wp2_with fail
      go_roundw
      case rel => exact ⟨k + 1, by omega, by go_num, rs ++ [⟨2 + za, 1 + zb⟩], a9, c9, Lib.hid (by rw [List.length_append, HRL.out]; rfl), Lib.hid (snoc_all HRD.out (by show 2 ≤ 2 + za ∧ 2 + za ≤ 3 ∧ 0 ≤ 1 + zb ∧ 1 + zb ≤ 9; omega)), hS⟩
      case measure => simp [intOf]; omega
    · have hki : ¬ (k : Int) < 1 + (n0 : Int) := by have := HN.out; omega
      have HRn : Hid (rs.length = n) := by have := HRL.out; show rs.length = n; omega
      go_upto_region 7 with fail
      clear hki hlt hk HRL
      go_wp2_with fail
      refine (l01Below_any hS.cur (by omega) (by omega)).mono ?_
      rintro e w4 ⟨mz, rfl, m1, m2, ho, hcu⟩
      obtain ⟨m, rfl⟩ := Int.eq_ofNat_of_zero_le m1
      replace hS := hS.draw ho hcu
      clear ho hcu
      go_upto_region 8 with fail
      go_wp2_with fail
      go_loopw [7] (fun i wr => ∃ k : Nat, k ≤ m ∧ i = .int .i64 k ∧ ∃ (cs : List Chunk) (ca : Option Addr) (cc : Nat), Hid (cs.length = k) ∧ Hid (∀ c ∈ cs, ChunkD rs c) ∧ PSt ⟨ind, rs, cs, [], []⟩ ra rc ca cc none 0 none 0 g lo hi xs L P w wr) (fun i _ => m - (intOf i).toNat)
      case atStart => exact ⟨0, Nat.zero_le _, rfl, [], none, 0, rfl, (fun r h => by cases h), hS⟩
      case round =>
        clear hS
        obtain ⟨k, hk, rfl, cs, ca, cc, HCL, HCD, hS⟩ := hrel
        by_cases hlt : k < m
        · have hki : (k : Int) < (m : Int) := by omega
          have hcl9 : cs.length ≤ 9 := by have := HCL.out; omega
          go_upto_region 11 with fail
          go_wp2_with fail
          refine (l01Below_any hS.cur (by have := HN.out; omega) (by have := HN.out; omega)).mono ?_
          rintro e w5 ⟨rz, rfl, r1, r2, ho, hcu⟩
          obtain ⟨r, rfl⟩ := Int.eq_ofNat_of_zero_le r1
          replace hS := hS.draw ho hcu
          clear ho hcu
          have hrn : r < rs.length := by have := HN.out; have := HRn.out; omega
          go_upto_region 12 with fail
          obtain ⟨G, rfl, d0⟩ := rule_cell hS.own.r hrn
          obtain ⟨v1, v2, -, -⟩ := HRD.out _ (List.getElem_mem hrn)
          have HV := Lib.hid (splitOk_of (rs := rs) hrn)
          obtain ⟨p0, p1, p2, p3, p4⟩ := hS.box.five
          generalize rs[r].values = vr at *
          have hwv : IntKind.i64.wrap (vr - 1) = vr - 1 := IntWalk.i64_in _ (by omega)
          go_wp2_with fail
          refine (l01Below_any hS.cur (by omega) (by omega)).mono ?_
          rintro e w6 ⟨za, rfl, za1, za2, ho, hcu⟩
          replace hS := hS.draw ho hcu
          clear ho hcu p0 p1 p2 p3 p4 d0
          have hwa : IntKind.i64.wrap (1 + za) = 1 + za := IntWalk.i64_in _ (by omega)
          go_wp2_with fail
          refine (l01Once_any hS.cur (by omega) (by omega)).mono ?_
          rintro e w7 ⟨sp, rfl, ho, hcu⟩
          replace hS := hS.draw ho hcu
          clear ho hcu
          go_wp2_with fail
          refine (l01Below_any hS.cur (by omega) (by omega)).mono ?_
          rintro e w8 ⟨zb, rfl, zb1, zb2, ho, hcu⟩
          replace hS := hS.draw ho hcu
          clear ho hcu
          have hwb : IntKind.i64.wrap (4 * zb) = 4 * zb := IntWalk.i64_in _ (by omega)
          have HQ := Lib.hid (HV.out (1 + za) sp (4 * zb) (by omega) (by omega) (by omega) (by omega))
          clear HV
          go_upto_region 13 with fail
          clear hwa hwb hwv v1 v2
          obtain ⟨SB, hSB⟩ : ∃ SB, SB = w8.heap.size := ⟨_, rfl⟩
          have hX := heap_alloc_new w8 (.cells #[.int .i64 (r : Int), .int .i64 (1 + za), .bool sp, .int .i64 (4 * zb)] 54)
          have kS : Below w8.heap.size w8 (w8.alloc (.cells #[.int .i64 (r : Int), .int .i64 (1 + za), .bool sp, .int .i64 (4 * zb)] 54)) := (Below.refl _ _).alloc (Nat.le_refl _) _
          have hne : Hid (∀ b, (Value.slice ca cs.length cc).ownBlock = some b → b ≠ SB) := fun b e => by have := (hS.own.c.below_heap b e).2.1; omega
          have hgS : g + 1 ≤ SB := by have := hS.b1; have := hS.b2; have := hS.b3; have := hS.b4; omega
          replace hS := hS.below kS
          rw [← hSB] at hX ⊢
          clear kS hSB
          generalize w8.alloc (.cells #[.int .i64 (r : Int), .int .i64 (1 + za), .bool sp, .int .i64 (4 * zb)] 54) = wq at *
          refine wp_regionN_drew (S := fun w' => PBox ⟨ind, rs, cs, [], []⟩ (some ⟨G, 0, none⟩) rc ca cc none 0 none 0 P w' ∧ w'.heap[SB]? = some (.cells #[.int .i64 (r : Int), .int .i64 (1 + za), .bool sp, .int .i64 (4 * zb)] 54)) 10 (by kernel_rfl) ?_ (fun hHeld => ?_)
          · exact ⟨hS.drew.box, hX⟩
          replace hS := hS.drew
          replace hX : wq.drew.heap[SB]? = some (.cells #[.int .i64 (r : Int), .int .i64 (1 + za), .bool sp, .int .i64 (4 * zb)] 54) := hX
          generalize wq.drew = wD at *
          refine wpAnyN_take (i := 0) (v := ?v9) (at_op rfl) (by kernel_rfl) (by kernel_rfl) (by kernel_rfl) (by kernel_rfl) (fun _ _ _ h => h) (Or.inl ⟨by rfl, ?y9⟩) (by assumption) ?r9
          case y9 =>
            intro wx hSx
            obtain ⟨p0, p1, p2, p3, p4⟩ := hSx.1.five
            have q0 := cell_heap (j := 0) hSx.2 rfl
            have q1 := cell_heap (j := 1) hSx.2 rfl
            have q2 := cell_heap (j := 2) hSx.2 rfl
            have q3 := cell_heap (j := 3) hSx.2 rfl
            go_simp
            try with_reducible rfl
          try simp only [Act.put, List.setIfInBounds_toArray, List.set_cons_zero, List.set_cons_succ]
          refine wpAnyN_take (i := 1) (v := ?v10) (at_op rfl) (by kernel_rfl) (by kernel_rfl) (by kernel_rfl) (by kernel_rfl) (fun _ _ _ h => h) (Or.inl ⟨by rfl, ?y10⟩) (by assumption) ?r10
          case y10 =>
            intro wx hSx
            obtain ⟨p0, p1, p2, p3, p4⟩ := hSx.1.five
            have q0 := cell_heap (j := 0) hSx.2 rfl
            have q1 := cell_heap (j := 1) hSx.2 rfl
            have q2 := cell_heap (j := 2) hSx.2 rfl
            have q3 := cell_heap (j := 3) hSx.2 rfl
            go_simp
            try with_reducible rfl
          try simp only [Act.put, List.setIfInBounds_toArray, List.set_cons_zero, List.set_cons_succ]
          refine wpAnyN_take (i := 2) (v := ?v11) (at_op rfl) (by kernel_rfl) (by kernel_rfl) (by kernel_rfl) (by kernel_rfl) (fun _ _ _ h => h) (Or.inl ⟨by rfl, ?y11⟩) (by assumption) ?r11
          case y11 =>
            intro wx hSx
            obtain ⟨p0, p1, p2, p3, p4⟩ := hSx.1.five
            have q0 := cell_heap (j := 0) hSx.2 rfl
            have q1 := cell_heap (j := 1) hSx.2 rfl
            have q2 := cell_heap (j := 2) hSx.2 rfl
            have q3 := cell_heap (j := 3) hSx.2 rfl
            go_simp
            try with_reducible rfl
          try simp only [Act.put, List.setIfInBounds_toArray, List.set_cons_zero, List.set_cons_succ]
          refine wpAnyN_take (i := 5) (v := ?v12) (at_op rfl) (by kernel_rfl) (by kernel_rfl) (by kernel_rfl) (by kernel_rfl) (fun _ _ _ h => h) (Or.inl ⟨by rfl, ?y12⟩) (by assumption) ?r12
          case y12 =>
            intro wx hSx
            obtain ⟨p0, p1, p2, p3, p4⟩ := hSx.1.five
            have q0 := cell_heap (j := 0) hSx.2 rfl
            have q1 := cell_heap (j := 1) hSx.2 rfl
            have q2 := cell_heap (j := 2) hSx.2 rfl
            have q3 := cell_heap (j := 3) hSx.2 rfl
            go_simp
            try with_reducible rfl
          try simp only [Act.put, List.setIfInBounds_toArray, List.set_cons_zero, List.set_cons_succ]
          refine wpAnyN_ready (rs := [3]) (by kernel_rfl) (by simp) ?_
          refine AllReadyN.cons (at_op rfl) (fun K hK => ?_) AllReadyN.nil
          go_simp
          have hrl := rd_lit strF wD [(ByteArray.mk #[97] : ByteArray), (ByteArray.mk #[99, 97, 108, 108, 40] : ByteArray), (ByteArray.mk #[115, 111, 109, 101, 32, 43, 32] : ByteArray), (ByteArray.mk #[97, 76, 111, 110, 103, 101, 114, 78, 97, 109, 101] : ByteArray), (ByteArray.mk #[120, 44] : ByteArray)] #[.string (ByteArray.mk #[97] : ByteArray), .string (ByteArray.mk #[99, 97, 108, 108, 40] : ByteArray), .string (ByteArray.mk #[115, 111, 109, 101, 32, 43, 32] : ByteArray), .string (ByteArray.mk #[97, 76, 111, 110, 103, 101, 114, 78, 97, 109, 101] : ByteArray), .string (ByteArray.mk #[120, 44] : ByteArray)] 9 rfl (by decide)
          have kb : Below wD.heap.size wD (wD.alloc (.cells #[.string (ByteArray.mk #[97] : ByteArray), .string (ByteArray.mk #[99, 97, 108, 108, 40] : ByteArray), .string (ByteArray.mk #[115, 111, 109, 101, 32, 43, 32] : ByteArray), .string (ByteArray.mk #[97, 76, 111, 110, 103, 101, 114, 78, 97, 109, 101] : ByteArray), .string (ByteArray.mk #[120, 44] : ByteArray)] 9)) := (Below.refl _ _).alloc (Nat.le_refl _) _
          replace hS := hS.below kb
          replace hX := blk kb hX
          refine hK.out _ _ (fun _ => ⟨hS.box, hX⟩) (fun hSb => ?_)
          replace hSb := hSb (by decide)
          clear hK K
          try simp only [Act.put, List.setIfInBounds_toArray, List.set_cons_zero, List.set_cons_succ]
          have hsl : wD.heap.size + 1 = (wD.alloc (.cells #[.string (ByteArray.mk #[97] : ByteArray), .string (ByteArray.mk #[99, 97, 108, 108, 40] : ByteArray), .string (ByteArray.mk #[115, 111, 109, 101, 32, 43, 32] : ByteArray), .string (ByteArray.mk #[97, 76, 111, 110, 103, 101, 114, 78, 97, 109, 101] : ByteArray), .string (ByteArray.mk #[120, 44] : ByteArray)] 9)).heap.size := by simp
          generalize wD.alloc (.cells #[.string (ByteArray.mk #[97] : ByteArray), .string (ByteArray.mk #[99, 97, 108, 108, 40] : ByteArray), .string (ByteArray.mk #[115, 111, 109, 101, 32, 43, 32] : ByteArray), .string (ByteArray.mk #[97, 76, 111, 110, 103, 101, 114, 78, 97, 109, 101] : ByteArray), .string (ByteArray.mk #[120, 44] : ByteArray)] 9) = wl at *
          clear kb
          refine wpAnyN_ready (rs := [4]) (by kernel_rfl) (by simp) ?_
          refine AllReadyN.cons (at_op rfl) (fun K hK => ?_) AllReadyN.nil
          go_simp
          refine (l01Pick_any hS.cur hrl (by omega) (.inr (by have := hS.b1; have := hS.b2; have := hS.b3; have := hS.b4; omega)) (by decide) (by decide)).mono ?_
          rintro e wa ⟨tx, rfl, htm, ho, hcu⟩
          replace hX := (ho.block SB (blk_lt hX) (by omega)).trans hX
          replace hS := hS.draw ho hcu
          have htx := texts5 tx htm
          clear ho hcu hrl hsl htm
          go_wp2_with fail
          refine hK.out _ _ (fun _ => ⟨hS.box, hX⟩) (fun hSb => ?_)
          replace hSb := hSb (by decide)
          clear hK K
          try simp only [Act.put, List.setIfInBounds_toArray, List.set_cons_zero, List.set_cons_succ]
          refine wpAnyN_take (i := 6) (v := ?v13) (at_op rfl) (by kernel_rfl) (by kernel_rfl) (by kernel_rfl) (by kernel_rfl) (fun _ _ _ h => h) (Or.inl ⟨by rfl, ?y13⟩) (by assumption) ?r13
          case y13 =>
            intro wx hSx
            obtain ⟨p0, p1, p2, p3, p4⟩ := hSx.1.five
            have q0 := cell_heap (j := 0) hSx.2 rfl
            have q1 := cell_heap (j := 1) hSx.2 rfl
            have q2 := cell_heap (j := 2) hSx.2 rfl
            have q3 := cell_heap (j := 3) hSx.2 rfl
            go_simp
            try with_reducible rfl
          try simp only [Act.put, List.setIfInBounds_toArray, List.set_cons_zero, List.set_cons_succ]
          refine wpAnyN_ready (rs := [7]) (by kernel_rfl) (by simp) ?_
          refine AllReadyN.cons (at_op rfl) (fun K hK => ?_) AllReadyN.nil
          go_simp
          have kL : Below wa.heap.size wa (wa.alloc (.cells #[.string tx, .int .i64 (r : Int), .int .i64 (1 + za), .bool sp, .int .i64 (4 * zb)] 56)) := (Below.refl _ _).alloc (Nat.le_refl _) _
          have hSL := hS.below kL
          have hLn := heap_alloc_new wa (.cells #[.string tx, .int .i64 (r : Int), .int .i64 (1 + za), .bool sp, .int .i64 (4 * zb)] 56)
          have hXL := blk kL hX
          refine hK.out _ _ (fun _ => ⟨hSL.box, hXL⟩) (fun hSb => ?_)
          replace hSb := hSb (by decide)
          clear hK K
          try simp only [Act.put, List.setIfInBounds_toArray, List.set_cons_zero, List.set_cons_succ]
          refine wpAnyN_ready (rs := [8]) (by kernel_rfl) (by simp) ?_
          refine readyN_list (at_op rfl) (fun K hK => ?_)
          refine wp_app1g (F := chunkF) (xs := cs) (P := Try.prog) (y := (⟨tx, r, 1 + za, sp, 4 * zb⟩ : Chunk)) rfl (.tmp 66) (.tmp 72) 25 rfl Try.underlying25 hi1 hy0 hy1 hy2 rfl (by decide) rfl hSL.own.c wa.heap.size rfl hLn rfl (by omega) (by omega) hSL.b4 ?_
          intro v9 w9 hO9 hb9 hg9
          obtain ⟨a9, c9, rfl, -, -, -⟩ := hO9.form
          have hS9 := hSL.putc hO9 hb9 hg9
          have hbx9 : PBox ⟨ind, rs, cs, [], []⟩ (some ⟨G, 0, none⟩) rc ca cc none 0 none 0 P w9 := (hb9.block P hSL.b3).trans hSL.box
          have hX9 := (hg9.block SB (blk_lt hXL) (fun e => hne.out _ e.symm rfl)).trans hXL
          refine hK.out _ _ (fun _ => ⟨hbx9, hX9⟩) (fun hSb => ?_)
          replace hSb := hSb (by decide)
          clear hK K
          try simp only [Act.put, List.setIfInBounds_toArray, List.set_cons_zero, List.set_cons_succ]
          refine wpAnyN_take (i := 9) (v := ?v14) (at_op rfl) (by kernel_rfl) (by kernel_rfl) (by kernel_rfl) (by kernel_rfl) (fun _ _ _ h => h) (Or.inl ⟨by rfl, ?y14⟩) (by assumption) ?r14
          case y14 =>
            intro wx hSx
            obtain ⟨p0, p1, p2, p3, p4⟩ := hSx.1.five
            have q0 := cell_heap (j := 0) hSx.2 rfl
            have q1 := cell_heap (j := 1) hSx.2 rfl
            have q2 := cell_heap (j := 2) hSx.2 rfl
            have q3 := cell_heap (j := 3) hSx.2 rfl
            go_simp
            try with_reducible rfl
          try simp only [Act.put, List.setIfInBounds_toArray, List.set_cons_zero, List.set_cons_succ]
          obtain ⟨p0, p1, p2, p3, p4⟩ := hbx9.five
          have fz1 : w9.frozen? ⟨P, 2, none⟩ = false := frozen_heap hbx9
          refine wpAnyN_ready (rs := [10]) (by kernel_rfl) (by simp) ?_
          refine AllReadyN.cons (at_op rfl) (fun K hK => ?_) AllReadyN.nil
          go_wp2_with fail
          refine hK.out _ _ (fun h => absurd rfl h) (fun _ => ?_)
          clear hK K
          try simp only [Act.put, List.setIfInBounds_toArray, List.set_cons_zero, List.set_cons_succ]
          refine wpAnyN_done (by kernel_rfl) ?_ _
          clear hbx9 p0 p1 p2 p3 p4 fz1 hSL hLn kL hb9 hg9 hO9 hS hX9 hX hXL hne
          have hS := hS9
          clear hS9
          simp only [List.length_append, List.length_cons, List.length_nil, Nat.zero_add] at hS
          generalize w9.setCell ⟨P, 2, none⟩ (.slice a9 (cs.length + 1) c9) = wz at *
          go_wp2_with fail
          go_roundw
          case rel => exact ⟨k + 1, by omega, by go_num, cs ++ [⟨tx, r, 1 + za, sp, 4 * zb⟩], a9, c9, Lib.hid (by rw [List.length_append, HCL.out]; rfl), Lib.hid (snoc_all HCD.out (show ChunkD rs ⟨tx, r, 1 + za, sp, 4 * zb⟩ from ⟨htx.1, htx.2, HQ.out⟩)), hS⟩
          case measure => simp [intOf]; omega
        · have hki : ¬ (k : Int) < (m : Int) := by omega
          have HCn : Hid (cs.length = m) := by have := HCL.out; show cs.length = m; omega
          have hcl9 : cs.length ≤ 9 := by have := HCn.out; omega
          go_upto_region 14 with fail
          clear hki hlt hk HCL
          refine wp_regionN_drew (S := fun w' => PBox ⟨ind, rs, cs, [], []⟩ ra rc ca cc none 0 none 0 P w') 9 (by kernel_rfl) ?_ (fun hHeld => ?_)
          · exact hS.drew.box
          replace hS := hS.drew
          generalize wr.drew = wD at *
          refine wpAnyN_take (i := 0) (v := ?v15) (at_op rfl) (by kernel_rfl) (by kernel_rfl) (by kernel_rfl) (by kernel_rfl) (fun _ _ _ h => h) (Or.inl ⟨by rfl, ?y15⟩) (by assumption) ?r15
          case y15 =>
            intro wx hSx
            obtain ⟨p0, p1, p2, p3, p4⟩ := hSx.five
            go_simp
            try with_reducible rfl
          try simp only [Act.put, List.setIfInBounds_toArray, List.set_cons_zero, List.set_cons_succ]
          refine wpAnyN_take (i := 1) (v := ?v16) (at_op rfl) (by kernel_rfl) (by kernel_rfl) (by kernel_rfl) (by kernel_rfl) (fun _ _ _ h => h) (Or.inl ⟨by rfl, ?y16⟩) (by assumption) ?r16
          case y16 =>
            intro wx hSx
            obtain ⟨p0, p1, p2, p3, p4⟩ := hSx.five
            go_simp
            try with_reducible rfl
          try simp only [Act.put, List.setIfInBounds_toArray, List.set_cons_zero, List.set_cons_succ]
          refine wpAnyN_take (i := 2) (v := ?v17) (at_op rfl) (by kernel_rfl) (by kernel_rfl) (by kernel_rfl) (by kernel_rfl) (fun _ _ _ h => h) (Or.inl ⟨by rfl, ?y17⟩) (by assumption) ?r17
          case y17 =>
            intro wx hSx
            obtain ⟨p0, p1, p2, p3, p4⟩ := hSx.five
            go_simp
            try with_reducible rfl
          try simp only [Act.put, List.setIfInBounds_toArray, List.set_cons_zero, List.set_cons_succ]
          refine wpAnyN_ready (rs := [3]) (by kernel_rfl) (by simp) ?_
          refine AllReadyN.cons (at_op rfl) (fun K hK => ?_) AllReadyN.nil
          go_simp
          have hrl := rd_lit strF wD [(ByteArray.mk #[101, 110, 100, 59] : ByteArray), (ByteArray.mk #[41] : ByteArray), (ByteArray.mk #[] : ByteArray)] #[.string (ByteArray.mk #[101, 110, 100, 59] : ByteArray), .string (ByteArray.mk #[41] : ByteArray), .string (ByteArray.mk #[])] 9 rfl (by decide)
          have kb : Below wD.heap.size wD (wD.alloc (.cells #[.string (ByteArray.mk #[101, 110, 100, 59] : ByteArray), .string (ByteArray.mk #[41] : ByteArray), .string (ByteArray.mk #[])] 9)) := (Below.refl _ _).alloc (Nat.le_refl _) _
          replace hS := hS.below kb
          refine hK.out _ _ (fun _ => hS.box) (fun hSb => ?_)
          replace hSb := hSb (by decide)
          clear hK K
          try simp only [Act.put, List.setIfInBounds_toArray, List.set_cons_zero, List.set_cons_succ]
          have hsl : wD.heap.size + 1 = (wD.alloc (.cells #[.string (ByteArray.mk #[101, 110, 100, 59] : ByteArray), .string (ByteArray.mk #[41] : ByteArray), .string (ByteArray.mk #[])] 9)).heap.size := by simp
          generalize wD.alloc (.cells #[.string (ByteArray.mk #[101, 110, 100, 59] : ByteArray), .string (ByteArray.mk #[41] : ByteArray), .string (ByteArray.mk #[])] 9) = wl at *
          clear kb
          refine wpAnyN_ready (rs := [4]) (by kernel_rfl) (by simp) ?_
          refine AllReadyN.cons (at_op rfl) (fun K hK => ?_) AllReadyN.nil
          go_simp
          refine (l01Pick_any hS.cur hrl (by omega) (.inr (by have := hS.b1; have := hS.b2; have := hS.b3; have := hS.b4; omega)) (by decide) (by decide)).mono ?_
          rintro e wa ⟨ty, rfl, htm, ho, hcu⟩
          replace hS := hS.draw ho hcu
          have hty := texts3 ty htm
          clear ho hcu hrl hsl htm
          go_wp2_with fail
          refine hK.out _ _ (fun _ => hS.box) (fun hSb => ?_)
          replace hSb := hSb (by decide)
          clear hK K
          try simp only [Act.put, List.setIfInBounds_toArray, List.set_cons_zero, List.set_cons_succ]
          refine wpAnyN_take (i := 5) (v := ?v18) (at_op rfl) (by kernel_rfl) (by kernel_rfl) (by kernel_rfl) (by kernel_rfl) (fun _ _ _ h => h) (Or.inl ⟨by rfl, ?y18⟩) (by assumption) ?r18
          case y18 =>
            intro wx hSx
            obtain ⟨p0, p1, p2, p3, p4⟩ := hSx.five
            go_simp
            try with_reducible rfl
          try simp only [Act.put, List.setIfInBounds_toArray, List.set_cons_zero, List.set_cons_succ]
          refine wpAnyN_ready (rs := [6]) (by kernel_rfl) (by simp) ?_
          refine AllReadyN.cons (at_op rfl) (fun K hK => ?_) AllReadyN.nil
          go_simp
          have kL : Below wa.heap.size wa (wa.alloc (.cells #[.string ty, .int .i64 0, .int .i64 0, .bool false, .int .i64 0] 56)) := (Below.refl _ _).alloc (Nat.le_refl _) _
          have hSL := hS.below kL
          have hLn := heap_alloc_new wa (.cells #[.string ty, .int .i64 0, .int .i64 0, .bool false, .int .i64 0] 56)
          refine hK.out _ _ (fun _ => hSL.box) (fun hSb => ?_)
          replace hSb := hSb (by decide)
          clear hK K
          try simp only [Act.put, List.setIfInBounds_toArray, List.set_cons_zero, List.set_cons_succ]
          refine wpAnyN_ready (rs := [7]) (by kernel_rfl) (by simp) ?_
          refine readyN_list (at_op rfl) (fun K hK => ?_)
          refine wp_app1g (F := chunkF) (xs := cs) (P := Try.prog) (y := (⟨ty, 0, 0, false, 0⟩ : Chunk)) rfl (.tmp 76) (.tmp 81) 25 rfl Try.underlying25 hi1 hy0 hy1 hy2 rfl (by decide) rfl hSL.own.c wa.heap.size rfl hLn rfl (by omega) (by omega) hSL.b4 ?_
          intro v9 w9 hO9 hb9 hg9
          obtain ⟨a9, c9, rfl, -, -, -⟩ := hO9.form
          have hS9 := hSL.putc hO9 hb9 hg9
          have hbx9 : PBox ⟨ind, rs, cs, [], []⟩ ra rc ca cc none 0 none 0 P w9 := (hb9.block P hSL.b3).trans hSL.box
          refine hK.out _ _ (fun _ => hbx9) (fun hSb => ?_)
          replace hSb := hSb (by decide)
          clear hK K
          try simp only [Act.put, List.setIfInBounds_toArray, List.set_cons_zero, List.set_cons_succ]
          refine wpAnyN_take (i := 8) (v := ?v19) (at_op rfl) (by kernel_rfl) (by kernel_rfl) (by kernel_rfl) (by kernel_rfl) (fun _ _ _ h => h) (Or.inl ⟨by rfl, ?y19⟩) (by assumption) ?r19
          case y19 =>
            intro wx hSx
            obtain ⟨p0, p1, p2, p3, p4⟩ := hSx.five
            go_simp
            try with_reducible rfl
          try simp only [Act.put, List.setIfInBounds_toArray, List.set_cons_zero, List.set_cons_succ]
          obtain ⟨p0, p1, p2, p3, p4⟩ := hbx9.five
          have fz1 : w9.frozen? ⟨P, 2, none⟩ = false := frozen_heap hbx9
          refine wpAnyN_ready (rs := [9]) (by kernel_rfl) (by simp) ?_
          refine AllReadyN.cons (at_op rfl) (fun K hK => ?_) AllReadyN.nil
          go_wp2_with fail
          refine hK.out _ _ (fun h => absurd rfl h) (fun _ => ?_)
          clear hK K
          try simp only [Act.put, List.setIfInBounds_toArray, List.set_cons_zero, List.set_cons_succ]
          refine wpAnyN_done (by kernel_rfl) ?_ _
          clear hbx9 p0 p1 p2 p3 p4 fz1 hSL hLn kL hb9 hg9 hO9 hS
          have hS := hS9
          clear hS9
          simp only [List.length_append, List.length_cons, List.length_nil, Nat.zero_add] at hS
          generalize w9.setCell ⟨P, 2, none⟩ (.slice a9 (cs.length + 1) c9) = wz at *
          obtain ⟨ds, hds⟩ : ∃ ds, Hid (ds = cs ++ [(⟨ty, 0, 0, false, 0⟩ : Chunk)]) := ⟨_, rfl⟩
          rw [← hds.out] at hS
          clear hcl9
          go_upto_region 15 with fail
          go_wp2_with fail
          go_loopw [10] (fun i wr => ∃ k : Nat, k ≤ 2 ∧ i = .int .i64 k ∧ ∃ (ss : List Span) (sa : Option Addr) (sc : Nat), Hid (ss.length = k) ∧ Hid (∀ s ∈ ss, SpanD m s) ∧ PSt ⟨ind, rs, ds, ss, []⟩ ra rc a9 c9 sa sc none 0 g lo hi xs L P w wr) (fun i _ => 3 - (intOf i).toNat)
          case atStart => exact ⟨0, Nat.zero_le _, rfl, [], none, 0, rfl, (fun r h => by cases h), hS⟩
          case round =>
            clear hS
            obtain ⟨k, hk, rfl, ss, sa, sc, HSL, HSD, hS⟩ := hrel
            have hsl2 : ss.length ≤ 2 := by have := HSL.out; omega
            go_wp2_with fail
            refine (l01Below_any hS.cur (by omega) (by omega)).mono ?_
            rintro e w9 ⟨zc, rfl, zc1, zc2, ho, hcu⟩
            replace hS := hS.draw ho hcu
            clear ho hcu
            by_cases hlt : (k : Int) < zc
            · by_cases hm : 0 < m
              · have hk1 : k + 1 ≤ 2 := by omega
                go_upto_region 18 with fail
                clear hlt
                go_wp2_with fail
                refine (l01Below_any hS.cur (by omega) (by omega)).mono ?_
                rintro e w10 ⟨tz, rfl, tz1, tz2, ho, hcu⟩
                replace hS := hS.draw ho hcu
                clear ho hcu
                have hwt : IntKind.i64.wrap (tz + 1) = tz + 1 := IntWalk.i64_in _ (by omega)
                go_upto_region 19 with fail
                refine wp_regionN_drew (S := fun w' => PBox ⟨ind, rs, ds, ss, []⟩ ra rc a9 c9 sa sc none 0 P w') 14 (by kernel_rfl) ?_ (fun hHeld => ?_)
                · exact hS.drew.box
                replace hS := hS.drew
                generalize w10.drew = wD at *
                refine wpAnyN_take (i := 0) (v := ?v20) (at_op rfl) (by kernel_rfl) (by kernel_rfl) (by kernel_rfl) (by kernel_rfl) (fun _ _ _ h => h) (Or.inl ⟨by rfl, ?y20⟩) (by assumption) ?r20
                case y20 =>
                  intro wx hSx
                  obtain ⟨p0, p1, p2, p3, p4⟩ := hSx.five
                  go_simp
                  try with_reducible rfl
                try simp only [Act.put, List.setIfInBounds_toArray, List.set_cons_zero, List.set_cons_succ]
                refine wpAnyN_take (i := 1) (v := ?v21) (at_op rfl) (by kernel_rfl) (by kernel_rfl) (by kernel_rfl) (by kernel_rfl) (fun _ _ _ h => h) (Or.inl ⟨by rfl, ?y21⟩) (by assumption) ?r21
                case y21 =>
                  intro wx hSx
                  obtain ⟨p0, p1, p2, p3, p4⟩ := hSx.five
                  go_simp
                  try with_reducible rfl
                try simp only [Act.put, List.setIfInBounds_toArray, List.set_cons_zero, List.set_cons_succ]
                refine wpAnyN_take (i := 2) (v := ?v22) (at_op rfl) (by kernel_rfl) (by kernel_rfl) (by kernel_rfl) (by kernel_rfl) (fun _ _ _ h => h) (Or.inl ⟨by rfl, ?y22⟩) (by assumption) ?r22
                case y22 =>
                  intro wx hSx
                  obtain ⟨p0, p1, p2, p3, p4⟩ := hSx.five
                  go_simp
                  try with_reducible rfl
                try simp only [Act.put, List.setIfInBounds_toArray, List.set_cons_zero, List.set_cons_succ]
                refine wpAnyN_take (i := 3) (v := ?v23) (at_op rfl) (by kernel_rfl) (by kernel_rfl) (by kernel_rfl) (by kernel_rfl) (fun _ _ _ h => h) (Or.inl ⟨by rfl, ?y23⟩) (by assumption) ?r23
                case y23 =>
                  intro wx hSx
                  obtain ⟨p0, p1, p2, p3, p4⟩ := hSx.five
                  go_simp
                  try with_reducible rfl
                try simp only [Act.put, List.setIfInBounds_toArray, List.set_cons_zero, List.set_cons_succ]
                refine wpAnyN_take (i := 4) (v := ?v24) (at_op rfl) (by kernel_rfl) (by kernel_rfl) (by kernel_rfl) (by kernel_rfl) (fun _ _ _ h => h) (Or.inl ⟨by rfl, ?y24⟩) (by assumption) ?r24
                case y24 =>
                  intro wx hSx
                  obtain ⟨p0, p1, p2, p3, p4⟩ := hSx.five
                  go_simp
                  try with_reducible rfl
                try simp only [Act.put, List.setIfInBounds_toArray, List.set_cons_zero, List.set_cons_succ]
                refine wpAnyN_take (i := 6) (v := ?v25) (at_op rfl) (by kernel_rfl) (by kernel_rfl) (by kernel_rfl) (by kernel_rfl) (fun _ _ _ h => h) (Or.inl ⟨by rfl, ?y25⟩) (by assumption) ?r25
                case y25 =>
                  intro wx hSx
                  obtain ⟨p0, p1, p2, p3, p4⟩ := hSx.five
                  go_simp
                  try with_reducible rfl
                try simp only [Act.put, List.setIfInBounds_toArray, List.set_cons_zero, List.set_cons_succ]
                refine wpAnyN_take (i := 7) (v := ?v26) (at_op rfl) (by kernel_rfl) (by kernel_rfl) (by kernel_rfl) (by kernel_rfl) (fun _ _ _ h => h) (Or.inl ⟨by rfl, ?y26⟩) (by assumption) ?r26
                case y26 =>
                  intro wx hSx
                  obtain ⟨p0, p1, p2, p3, p4⟩ := hSx.five
                  go_simp
                  try with_reducible rfl
                try simp only [Act.put, List.setIfInBounds_toArray, List.set_cons_zero, List.set_cons_succ]
                refine wpAnyN_ready (rs := [5]) (by kernel_rfl) (by simp) ?_
                refine AllReadyN.cons (at_op rfl) (fun K hK => ?_) AllReadyN.nil
                go_simp
                refine (l01Below_any hS.cur (by omega) (by omega)).mono ?_
                rintro e wa ⟨za, rfl, za1, za2, ho, hcu⟩
                replace hS := hS.draw ho hcu
                clear ho hcu
                go_wp2_with fail
                refine hK.out _ _ (fun _ => hS.box) (fun hSb => ?_)
                replace hSb := hSb (by decide)
                clear hK K
                try simp only [Act.put, List.setIfInBounds_toArray, List.set_cons_zero, List.set_cons_succ]
                refine wpAnyN_ready (rs := [8]) (by kernel_rfl) (by simp) ?_
                refine AllReadyN.cons (at_op rfl) (fun K hK => ?_) AllReadyN.nil
                go_simp
                refine (l01Below_any hS.cur (by omega) (by omega)).mono ?_
                rintro e wb ⟨zb, rfl, zb1, zb2, ho, hcu⟩
                replace hS := hS.draw ho hcu
                clear ho hcu
                have hwb : IntKind.i64.wrap (1 + zb) = 1 + zb := IntWalk.i64_in _ (by omega)
                go_wp2_with fail
                refine hK.out _ _ (fun _ => hS.box) (fun hSb => ?_)
                replace hSb := hSb (by decide)
                clear hK K
                try simp only [Act.put, List.setIfInBounds_toArray, List.set_cons_zero, List.set_cons_succ]
                refine wpAnyN_take (i := 9) (v := ?v27) (at_op rfl) (by kernel_rfl) (by kernel_rfl) (by kernel_rfl) (by kernel_rfl) (fun _ _ _ h => h) (Or.inl ⟨by rfl, ?y27⟩) (by assumption) ?r27
                case y27 =>
                  intro wx hSx
                  obtain ⟨p0, p1, p2, p3, p4⟩ := hSx.five
                  go_simp
                  try with_reducible rfl
                try simp only [Act.put, List.setIfInBounds_toArray, List.set_cons_zero, List.set_cons_succ]
                refine wpAnyN_take (i := 10) (v := ?v28) (at_op rfl) (by kernel_rfl) (by kernel_rfl) (by kernel_rfl) (by kernel_rfl) (fun _ _ _ h => h) (Or.inl ⟨by rfl, ?y28⟩) (by assumption) ?r28
                case y28 =>
                  intro wx hSx
                  obtain ⟨p0, p1, p2, p3, p4⟩ := hSx.five
                  go_simp
                  try with_reducible rfl
                try simp only [Act.put, List.setIfInBounds_toArray, List.set_cons_zero, List.set_cons_succ]
                refine wpAnyN_ready (rs := [11]) (by kernel_rfl) (by simp) ?_
                refine AllReadyN.cons (at_op rfl) (fun K hK => ?_) AllReadyN.nil
                go_simp
                have kL : Below wb.heap.size wb (wb.alloc (.cells #[.int .i64 za, .int .i64 tz, .int .i64 (1 + zb)] 121)) := (Below.refl _ _).alloc (Nat.le_refl _) _
                have hSL := hS.below kL
                have hLn := heap_alloc_new wb (.cells #[.int .i64 za, .int .i64 tz, .int .i64 (1 + zb)] 121)
                refine hK.out _ _ (fun _ => hSL.box) (fun hSb => ?_)
                replace hSb := hSb (by decide)
                clear hK K
                try simp only [Act.put, List.setIfInBounds_toArray, List.set_cons_zero, List.set_cons_succ]
                refine wpAnyN_ready (rs := [12]) (by kernel_rfl) (by simp) ?_
                refine readyN_list (at_op rfl) (fun K hK => ?_)
                refine wp_app1g (F := spanF) (xs := ss) (P := Try.prog) (y := (⟨za, tz, 1 + zb⟩ : Span)) rfl (.tmp 98) (.tmp 108) 26 rfl Try.underlying26 hi2 hx0 hx1 hx2 rfl (by decide) rfl hSL.own.s wb.heap.size rfl hLn rfl (by omega) (by omega) hSL.b4 ?_
                intro v9 w9 hO9 hb9 hg9
                obtain ⟨b9, d9, rfl, -, -, -⟩ := hO9.form
                have hS9 := hSL.puts hO9 hb9 hg9
                have hbx9 : PBox ⟨ind, rs, ds, ss, []⟩ ra rc a9 c9 sa sc none 0 P w9 := (hb9.block P hSL.b3).trans hSL.box
                refine hK.out _ _ (fun _ => hbx9) (fun hSb => ?_)
                replace hSb := hSb (by decide)
                clear hK K
                try simp only [Act.put, List.setIfInBounds_toArray, List.set_cons_zero, List.set_cons_succ]
                refine wpAnyN_take (i := 13) (v := ?v29) (at_op rfl) (by kernel_rfl) (by kernel_rfl) (by kernel_rfl) (by kernel_rfl) (fun _ _ _ h => h) (Or.inl ⟨by rfl, ?y29⟩) (by assumption) ?r29
                case y29 =>
                  intro wx hSx
                  obtain ⟨p0, p1, p2, p3, p4⟩ := hSx.five
                  go_simp
                  try with_reducible rfl
                try simp only [Act.put, List.setIfInBounds_toArray, List.set_cons_zero, List.set_cons_succ]
                obtain ⟨p0, p1, p2, p3, p4⟩ := hbx9.five
                have fz1 : w9.frozen? ⟨P, 3, none⟩ = false := frozen_heap hbx9
                refine wpAnyN_ready (rs := [14]) (by kernel_rfl) (by simp) ?_
                refine AllReadyN.cons (at_op rfl) (fun K hK => ?_) AllReadyN.nil
                go_wp2_with fail
                refine hK.out _ _ (fun h => absurd rfl h) (fun _ => ?_)
                clear hK K
                try simp only [Act.put, List.setIfInBounds_toArray, List.set_cons_zero, List.set_cons_succ]
                refine wpAnyN_done (by kernel_rfl) ?_ _
                clear hbx9 p0 p1 p2 p3 p4 fz1 hSL hLn kL hb9 hg9 hO9 hS
                have hS := hS9
                clear hS9
                simp only [List.length_append, List.length_cons, List.length_nil, Nat.zero_add] at hS
                generalize w9.setCell ⟨P, 3, none⟩ (.slice b9 (ss.length + 1) d9) = wz at *
                go_wp2_with fail
                go_roundw
                case rel => exact ⟨k + 1, by omega, by go_num, ss ++ [⟨za, tz, 1 + zb⟩], b9, d9, Lib.hid (by rw [List.length_append, HSL.out]; rfl), Lib.hid (snoc_all HSD.out (by show 0 ≤ za ∧ za ≤ tz ∧ tz < (m : Int) ∧ 0 ≤ 1 + zb ∧ 1 + zb ≤ 9; omega)), hS⟩
                case measure => simp [intOf]; omega
              · go_upto_region 20 with fail
                clear hlt hm
                go_wp2_with fail
                go_loopw [12] (fun i wr => ∃ k : Nat, k ≤ 2 ∧ i = .int .i64 k ∧ ∃ (ts : List Tie) (ta : Option Addr) (tc : Nat), Hid (ts.length = k) ∧ Hid (∀ t ∈ ts, TieD n t) ∧ PSt ⟨ind, rs, ds, ss, ts⟩ ra rc a9 c9 sa sc ta tc g lo hi xs L P w wr) (fun i _ => 3 - (intOf i).toNat)
                case atStart => exact ⟨0, Nat.zero_le _, rfl, [], none, 0, rfl, (fun r h => by cases h), hS⟩
                case round =>
                  clear hS zc1 zc2
                  obtain ⟨k, hk, rfl, ts, ta, tc, HTL, HTD, hS⟩ := hrel
                  have htl2 : ts.length ≤ 2 := by have := HTL.out; omega
                  go_wp2_with fail
                  refine (l01Below_any hS.cur (by omega) (by omega)).mono ?_
                  rintro e w11 ⟨zc, rfl, zc1, zc2, ho, hcu⟩
                  replace hS := hS.draw ho hcu
                  clear ho hcu
                  by_cases hlt : (k : Int) < zc
                  · by_cases hm : 1 < 1 + (n0 : Int)
                    · have hk1 : k + 1 ≤ 2 := by omega
                      go_upto_region 23 with fail
                      clear hlt
                      go_wp2_with fail
                      refine (l01Below_any hS.cur (by have := HN.out; omega) (by have := HN.out; omega)).mono ?_
                      rintro e w12 ⟨az, rfl, az1, az2, ho, hcu⟩
                      replace hS := hS.draw ho hcu
                      clear ho hcu
                      have hn8 : 1 + (n0 : Int) ≤ 5 := by have := HN.out; omega
                      have hwt : IntKind.i64.wrap (az + 1) = az + 1 := IntWalk.i64_in _ (by omega)
                      have hws : IntKind.i64.wrap (1 + (n0 : Int) - 1) = 1 + (n0 : Int) - 1 := IntWalk.i64_in _ (by omega)
                      have hn0 : ¬ (1 + (n0 : Int)) = 0 := by omega
                      go_upto_region 24 with fail
                      refine wp_regionN_drew (S := fun w' => PBox ⟨ind, rs, ds, ss, ts⟩ ra rc a9 c9 sa sc ta tc P w') 16 (by kernel_rfl) ?_ (fun hHeld => ?_)
                      · exact hS.drew.box
                      replace hS := hS.drew
                      generalize w12.drew = wD at *
                      refine wpAnyN_take (i := 0) (v := ?v30) (at_op rfl) (by kernel_rfl) (by kernel_rfl) (by kernel_rfl) (by kernel_rfl) (fun _ _ _ h => h) (Or.inl ⟨by rfl, ?y30⟩) (by assumption) ?r30
                      case y30 =>
                        intro wx hSx
                        obtain ⟨p0, p1, p2, p3, p4⟩ := hSx.five
                        go_simp
                        try with_reducible rfl
                      try simp only [Act.put, List.setIfInBounds_toArray, List.set_cons_zero, List.set_cons_succ]
                      refine wpAnyN_take (i := 1) (v := ?v31) (at_op rfl) (by kernel_rfl) (by kernel_rfl) (by kernel_rfl) (by kernel_rfl) (fun _ _ _ h => h) (Or.inl ⟨by rfl, ?y31⟩) (by assumption) ?r31
                      case y31 =>
                        intro wx hSx
                        obtain ⟨p0, p1, p2, p3, p4⟩ := hSx.five
                        go_simp
                        try with_reducible rfl
                      try simp only [Act.put, List.setIfInBounds_toArray, List.set_cons_zero, List.set_cons_succ]
                      refine wpAnyN_take (i := 2) (v := ?v32) (at_op rfl) (by kernel_rfl) (by kernel_rfl) (by kernel_rfl) (by kernel_rfl) (fun _ _ _ h => h) (Or.inl ⟨by rfl, ?y32⟩) (by assumption) ?r32
                      case y32 =>
                        intro wx hSx
                        obtain ⟨p0, p1, p2, p3, p4⟩ := hSx.five
                        go_simp
                        try with_reducible rfl
                      try simp only [Act.put, List.setIfInBounds_toArray, List.set_cons_zero, List.set_cons_succ]
                      refine wpAnyN_take (i := 3) (v := ?v33) (at_op rfl) (by kernel_rfl) (by kernel_rfl) (by kernel_rfl) (by kernel_rfl) (fun _ _ _ h => h) (Or.inl ⟨by rfl, ?y33⟩) (by assumption) ?r33
                      case y33 =>
                        intro wx hSx
                        obtain ⟨p0, p1, p2, p3, p4⟩ := hSx.five
                        go_simp
                        try with_reducible rfl
                      try simp only [Act.put, List.setIfInBounds_toArray, List.set_cons_zero, List.set_cons_succ]
                      refine wpAnyN_take (i := 4) (v := ?v34) (at_op rfl) (by kernel_rfl) (by kernel_rfl) (by kernel_rfl) (by kernel_rfl) (fun _ _ _ h => h) (Or.inl ⟨by rfl, ?y34⟩) (by assumption) ?r34
                      case y34 =>
                        intro wx hSx
                        obtain ⟨p0, p1, p2, p3, p4⟩ := hSx.five
                        go_simp
                        try with_reducible rfl
                      try simp only [Act.put, List.setIfInBounds_toArray, List.set_cons_zero, List.set_cons_succ]
                      refine wpAnyN_take (i := 5) (v := ?v35) (at_op rfl) (by kernel_rfl) (by kernel_rfl) (by kernel_rfl) (by kernel_rfl) (fun _ _ _ h => h) (Or.inl ⟨by rfl, ?y35⟩) (by assumption) ?r35
                      case y35 =>
                        intro wx hSx
                        obtain ⟨p0, p1, p2, p3, p4⟩ := hSx.five
                        go_simp
                        try with_reducible rfl
                      try simp only [Act.put, List.setIfInBounds_toArray, List.set_cons_zero, List.set_cons_succ]
                      refine wpAnyN_take (i := 6) (v := ?v36) (at_op rfl) (by kernel_rfl) (by kernel_rfl) (by kernel_rfl) (by kernel_rfl) (fun _ _ _ h => h) (Or.inl ⟨by rfl, ?y36⟩) (by assumption) ?r36
                      case y36 =>
                        intro wx hSx
                        obtain ⟨p0, p1, p2, p3, p4⟩ := hSx.five
                        go_simp
                        try with_reducible rfl
                      try simp only [Act.put, List.setIfInBounds_toArray, List.set_cons_zero, List.set_cons_succ]
                      refine wpAnyN_take (i := 7) (v := ?v37) (at_op rfl) (by kernel_rfl) (by kernel_rfl) (by kernel_rfl) (by kernel_rfl) (fun _ _ _ h => h) (Or.inl ⟨by rfl, ?y37⟩) (by assumption) ?r37
                      case y37 =>
                        intro wx hSx
                        obtain ⟨p0, p1, p2, p3, p4⟩ := hSx.five
                        go_simp
                        try with_reducible rfl
                      try simp only [Act.put, List.setIfInBounds_toArray, List.set_cons_zero, List.set_cons_succ]
                      refine wpAnyN_take (i := 10) (v := ?v38) (at_op rfl) (by kernel_rfl) (by kernel_rfl) (by kernel_rfl) (by kernel_rfl) (fun _ _ _ h => h) (Or.inl ⟨by rfl, ?y38⟩) (by assumption) ?r38
                      case y38 =>
                        intro wx hSx
                        obtain ⟨p0, p1, p2, p3, p4⟩ := hSx.five
                        go_simp
                        try with_reducible rfl
                      try simp only [Act.put, List.setIfInBounds_toArray, List.set_cons_zero, List.set_cons_succ]
                      refine wpAnyN_ready (rs := [8]) (by kernel_rfl) (by simp) ?_
                      refine AllReadyN.cons (at_op rfl) (fun K hK => ?_) AllReadyN.nil
                      go_simp
                      refine (l01Below_any hS.cur (by omega) (by omega)).mono ?_
                      rintro e wa ⟨za, rfl, za1, za2, ho, hcu⟩
                      replace hS := hS.draw ho hcu
                      clear ho hcu
                      have hwa : IntKind.i64.wrap (az + 1 + za) = az + 1 + za := IntWalk.i64_in _ (by omega)
                      have hwr : IntKind.i64.wrap (Int.tmod (az + 1 + za) (1 + (n0 : Int))) = Int.tmod (az + 1 + za) (1 + (n0 : Int)) := IntWalk.i64_in _ (by have := tie_mod az1 az2 za1 za2; omega)
                      go_wp2_with fail
                      refine hK.out _ _ (fun _ => hS.box) (fun hSb => ?_)
                      replace hSb := hSb (by decide)
                      clear hK K
                      try simp only [Act.put, List.setIfInBounds_toArray, List.set_cons_zero, List.set_cons_succ]
                      refine wpAnyN_take (i := 9) (v := ?v39) (at_op rfl) (by kernel_rfl) (by kernel_rfl) (by kernel_rfl) (by kernel_rfl) (fun _ _ _ h => h) (Or.inl ⟨by rfl, ?y39⟩) (by assumption) ?r39
                      case y39 =>
                        intro wx hSx
                        obtain ⟨p0, p1, p2, p3, p4⟩ := hSx.five
                        go_simp
                        try with_reducible rfl
                      try simp only [Act.put, List.setIfInBounds_toArray, List.set_cons_zero, List.set_cons_succ]
                      refine wpAnyN_take (i := 11) (v := ?v40) (at_op rfl) (by kernel_rfl) (by kernel_rfl) (by kernel_rfl) (by kernel_rfl) (fun _ _ _ h => h) (Or.inl ⟨by rfl, ?y40⟩) (by assumption) ?r40
                      case y40 =>
                        intro wx hSx
                        obtain ⟨p0, p1, p2, p3, p4⟩ := hSx.five
                        go_simp
                        try with_reducible rfl
                      try simp only [Act.put, List.setIfInBounds_toArray, List.set_cons_zero, List.set_cons_succ]
                      refine wpAnyN_take (i := 12) (v := ?v41) (at_op rfl) (by kernel_rfl) (by kernel_rfl) (by kernel_rfl) (by kernel_rfl) (fun _ _ _ h => h) (Or.inl ⟨by rfl, ?y41⟩) (by assumption) ?r41
                      case y41 =>
                        intro wx hSx
                        obtain ⟨p0, p1, p2, p3, p4⟩ := hSx.five
                        go_simp
                        try with_reducible rfl
                      try simp only [Act.put, List.setIfInBounds_toArray, List.set_cons_zero, List.set_cons_succ]
                      refine wpAnyN_ready (rs := [13]) (by kernel_rfl) (by simp) ?_
                      refine AllReadyN.cons (at_op rfl) (fun K hK => ?_) AllReadyN.nil
                      go_simp
                      have kL : Below wa.heap.size wa (wa.alloc (.cells #[.int .i64 az, .int .i64 (Int.tmod (az + 1 + za) (1 + (n0 : Int)))] 101)) := (Below.refl _ _).alloc (Nat.le_refl _) _
                      have hSL := hS.below kL
                      have hLn := heap_alloc_new wa (.cells #[.int .i64 az, .int .i64 (Int.tmod (az + 1 + za) (1 + (n0 : Int)))] 101)
                      refine hK.out _ _ (fun _ => hSL.box) (fun hSb => ?_)
                      replace hSb := hSb (by decide)
                      clear hK K
                      try simp only [Act.put, List.setIfInBounds_toArray, List.set_cons_zero, List.set_cons_succ]
                      refine wpAnyN_ready (rs := [14]) (by kernel_rfl) (by simp) ?_
                      refine readyN_list (at_op rfl) (fun K hK => ?_)
                      refine wp_app1g (F := tieF) (xs := ts) (P := Try.prog) (y := (⟨az, Int.tmod (az + 1 + za) (1 + (n0 : Int))⟩ : Tie)) rfl (.tmp 125) (.tmp 137) 27 rfl Try.underlying27 hi3 hu0 hu1 hu2 rfl (by decide) rfl hSL.own.t wa.heap.size rfl hLn rfl (by omega) (by omega) hSL.b4 ?_
                      intro v9 w9 hO9 hb9 hg9
                      obtain ⟨b9, d9, rfl, -, -, -⟩ := hO9.form
                      have hS9 := hSL.putt hO9 hb9 hg9
                      have hbx9 : PBox ⟨ind, rs, ds, ss, ts⟩ ra rc a9 c9 sa sc ta tc P w9 := (hb9.block P hSL.b3).trans hSL.box
                      refine hK.out _ _ (fun _ => hbx9) (fun hSb => ?_)
                      replace hSb := hSb (by decide)
                      clear hK K
                      try simp only [Act.put, List.setIfInBounds_toArray, List.set_cons_zero, List.set_cons_succ]
                      refine wpAnyN_take (i := 15) (v := ?v42) (at_op rfl) (by kernel_rfl) (by kernel_rfl) (by kernel_rfl) (by kernel_rfl) (fun _ _ _ h => h) (Or.inl ⟨by rfl, ?y42⟩) (by assumption) ?r42
                      case y42 =>
                        intro wx hSx
                        obtain ⟨p0, p1, p2, p3, p4⟩ := hSx.five
                        go_simp
                        try with_reducible rfl
                      try simp only [Act.put, List.setIfInBounds_toArray, List.set_cons_zero, List.set_cons_succ]
                      obtain ⟨p0, p1, p2, p3, p4⟩ := hbx9.five
                      have fz1 : w9.frozen? ⟨P, 4, none⟩ = false := frozen_heap hbx9
                      refine wpAnyN_ready (rs := [16]) (by kernel_rfl) (by simp) ?_
                      refine AllReadyN.cons (at_op rfl) (fun K hK => ?_) AllReadyN.nil
                      go_wp2_with fail
                      refine hK.out _ _ (fun h => absurd rfl h) (fun _ => ?_)
                      clear hK K
                      try simp only [Act.put, List.setIfInBounds_toArray, List.set_cons_zero, List.set_cons_succ]
                      refine wpAnyN_done (by kernel_rfl) ?_ _
                      clear hbx9 p0 p1 p2 p3 p4 fz1 hSL hLn kL hb9 hg9 hO9 hS
                      have hS := hS9
                      clear hS9
                      simp only [List.length_append, List.length_cons, List.length_nil, Nat.zero_add] at hS
                      generalize w9.setCell ⟨P, 4, none⟩ (.slice b9 (ts.length + 1) d9) = wz at *
                      go_wp2_with fail
                      go_roundw
                      case rel => exact ⟨k + 1, by omega, by go_num, ts ++ [⟨az, Int.tmod (az + 1 + za) (1 + (n0 : Int))⟩], b9, d9, Lib.hid (by rw [List.length_append, HTL.out]; rfl), Lib.hid (snoc_all HTD.out (by show 0 ≤ az ∧ az < (n : Int) ∧ 0 ≤ Int.tmod (az + 1 + za) (1 + (n0 : Int)) ∧ Int.tmod (az + 1 + za) (1 + (n0 : Int)) < (n : Int) ∧ az ≠ Int.tmod (az + 1 + za) (1 + (n0 : Int)); have := HN.out; have := tie_mod az1 az2 za1 za2; omega)), hS⟩
                      case measure => simp [intOf]; omega
                    · go_upto_region 25 with fail
                      clear hlt hm
                      obtain ⟨p0, p1, p2, p3, p4⟩ := hS.box.five
                      have z0 := cell_heap (j := 0) hS.res rfl
                      have z1 := cell_heap (j := 1) hS.res rfl
                      have z2 := cell_heap (j := 2) hS.res rfl
                      have z3 := cell_heap (j := 3) hS.res rfl
                      have z4 := cell_heap (j := 4) hS.res rfl
                      have f0 := frozen_heap (j := 0) hS.res
                      have f1 := frozen_heap (j := 1) hS.res
                      have f2 := frozen_heap (j := 2) hS.res
                      have f3 := frozen_heap (j := 3) hS.res
                      have f4 := frozen_heap (j := 4) hS.res
                      go_wp2
                      change bodyPost _ _ _ _ _ (storeAll w.heap.size [.int .i64 ind, .slice ra rs.length rc, .slice a9 ds.length c9, .slice sa ss.length sc, .slice ta ts.length tc] 0 w11)
                      clear p0 p1 p2 p3 p4 z0 z1 z2 z3 z4 f0 f1 f2 f3 f4
                      generalize hwf : storeAll w.heap.size [.int .i64 ind, .slice ra rs.length rc, .slice a9 ds.length c9, .slice sa ss.length sc, .slice ta ts.length tc] 0 w11 = wf
                      obtain ⟨⟨q0, q1, q2, q3, q4⟩, HO, HB, HC⟩ := hS.done hwf
                      clear hwf hS
                      refine bodyPost_ret (v := .agg #[.int .i64 ind, .slice ra rs.length rc, .slice a9 ds.length c9, .slice sa ss.length sc, .slice ta ts.length tc]) (by simp [results, Try.results52, go_sem, q0, q1, q2, q3, q4]) rfl ?_
                      have hss : ss.length ≤ 40 := by have := HSL.out; omega
                      have hok := drawn_ok (x := ⟨ind, rs, ds, ss, ts⟩) (n := n) (m := m) (tx := ty) (cs := cs) hsi (by omega) (by omega) HRn.out HRD.out hds.out HCn.out HCD.out hty hss HSD.out (show ts.length ≤ 20 by omega) HTD.out
                      exact ⟨⟨ind, rs, ds, ss, ts⟩, ra, rc, a9, c9, sa, sc, ta, tc, rfl, hok.1, hok.2, (by show 1 ≤ rs.length; have := HRn.out; omega), (by show rs.length ≤ 5; have := HRn.out; omega), (by show ds.length ≤ 9; rw [hds.out, List.length_append, HCn.out]; show m + 1 ≤ 9; omega), HO, HB, HC⟩
                  · go_upto_region 25 with fail
                    clear hlt
                    obtain ⟨p0, p1, p2, p3, p4⟩ := hS.box.five
                    have z0 := cell_heap (j := 0) hS.res rfl
                    have z1 := cell_heap (j := 1) hS.res rfl
                    have z2 := cell_heap (j := 2) hS.res rfl
                    have z3 := cell_heap (j := 3) hS.res rfl
                    have z4 := cell_heap (j := 4) hS.res rfl
                    have f0 := frozen_heap (j := 0) hS.res
                    have f1 := frozen_heap (j := 1) hS.res
                    have f2 := frozen_heap (j := 2) hS.res
                    have f3 := frozen_heap (j := 3) hS.res
                    have f4 := frozen_heap (j := 4) hS.res
                    go_wp2
                    change bodyPost _ _ _ _ _ (storeAll w.heap.size [.int .i64 ind, .slice ra rs.length rc, .slice a9 ds.length c9, .slice sa ss.length sc, .slice ta ts.length tc] 0 w11)
                    clear p0 p1 p2 p3 p4 z0 z1 z2 z3 z4 f0 f1 f2 f3 f4
                    generalize hwf : storeAll w.heap.size [.int .i64 ind, .slice ra rs.length rc, .slice a9 ds.length c9, .slice sa ss.length sc, .slice ta ts.length tc] 0 w11 = wf
                    obtain ⟨⟨q0, q1, q2, q3, q4⟩, HO, HB, HC⟩ := hS.done hwf
                    clear hwf hS
                    refine bodyPost_ret (v := .agg #[.int .i64 ind, .slice ra rs.length rc, .slice a9 ds.length c9, .slice sa ss.length sc, .slice ta ts.length tc]) (by simp [results, Try.results52, go_sem, q0, q1, q2, q3, q4]) rfl ?_
                    have hss : ss.length ≤ 40 := by have := HSL.out; omega
                    have hok := drawn_ok (x := ⟨ind, rs, ds, ss, ts⟩) (n := n) (m := m) (tx := ty) (cs := cs) hsi (by omega) (by omega) HRn.out HRD.out hds.out HCn.out HCD.out hty hss HSD.out (show ts.length ≤ 20 by omega) HTD.out
                    exact ⟨⟨ind, rs, ds, ss, ts⟩, ra, rc, a9, c9, sa, sc, ta, tc, rfl, hok.1, hok.2, (by show 1 ≤ rs.length; have := HRn.out; omega), (by show rs.length ≤ 5; have := HRn.out; omega), (by show ds.length ≤ 9; rw [hds.out, List.length_append, HCn.out]; show m + 1 ≤ 9; omega), HO, HB, HC⟩
            · go_upto_region 20 with fail
              clear hlt
              go_wp2_with fail
              go_loopw [12] (fun i wr => ∃ k : Nat, k ≤ 2 ∧ i = .int .i64 k ∧ ∃ (ts : List Tie) (ta : Option Addr) (tc : Nat), Hid (ts.length = k) ∧ Hid (∀ t ∈ ts, TieD n t) ∧ PSt ⟨ind, rs, ds, ss, ts⟩ ra rc a9 c9 sa sc ta tc g lo hi xs L P w wr) (fun i _ => 3 - (intOf i).toNat)
              case atStart => exact ⟨0, Nat.zero_le _, rfl, [], none, 0, rfl, (fun r h => by cases h), hS⟩
              case round =>
                clear hS zc1 zc2
                obtain ⟨k, hk, rfl, ts, ta, tc, HTL, HTD, hS⟩ := hrel
                have htl2 : ts.length ≤ 2 := by have := HTL.out; omega
                go_wp2_with fail
                refine (l01Below_any hS.cur (by omega) (by omega)).mono ?_
                rintro e w11 ⟨zc, rfl, zc1, zc2, ho, hcu⟩
                replace hS := hS.draw ho hcu
                clear ho hcu
                by_cases hlt : (k : Int) < zc
                · by_cases hm : 1 < 1 + (n0 : Int)
                  · have hk1 : k + 1 ≤ 2 := by omega
                    go_upto_region 23 with fail
                    clear hlt
                    go_wp2_with fail
                    refine (l01Below_any hS.cur (by have := HN.out; omega) (by have := HN.out; omega)).mono ?_
                    rintro e w12 ⟨az, rfl, az1, az2, ho, hcu⟩
                    replace hS := hS.draw ho hcu
                    clear ho hcu
                    have hn8 : 1 + (n0 : Int) ≤ 5 := by have := HN.out; omega
                    have hwt : IntKind.i64.wrap (az + 1) = az + 1 := IntWalk.i64_in _ (by omega)
                    have hws : IntKind.i64.wrap (1 + (n0 : Int) - 1) = 1 + (n0 : Int) - 1 := IntWalk.i64_in _ (by omega)
                    have hn0 : ¬ (1 + (n0 : Int)) = 0 := by omega
                    go_upto_region 24 with fail
                    refine wp_regionN_drew (S := fun w' => PBox ⟨ind, rs, ds, ss, ts⟩ ra rc a9 c9 sa sc ta tc P w') 16 (by kernel_rfl) ?_ (fun hHeld => ?_)
                    · exact hS.drew.box
                    replace hS := hS.drew
                    generalize w12.drew = wD at *
                    refine wpAnyN_take (i := 0) (v := ?v43) (at_op rfl) (by kernel_rfl) (by kernel_rfl) (by kernel_rfl) (by kernel_rfl) (fun _ _ _ h => h) (Or.inl ⟨by rfl, ?y43⟩) (by assumption) ?r43
                    case y43 =>
                      intro wx hSx
                      obtain ⟨p0, p1, p2, p3, p4⟩ := hSx.five
                      go_simp
                      try with_reducible rfl
                    try simp only [Act.put, List.setIfInBounds_toArray, List.set_cons_zero, List.set_cons_succ]
                    refine wpAnyN_take (i := 1) (v := ?v44) (at_op rfl) (by kernel_rfl) (by kernel_rfl) (by kernel_rfl) (by kernel_rfl) (fun _ _ _ h => h) (Or.inl ⟨by rfl, ?y44⟩) (by assumption) ?r44
                    case y44 =>
                      intro wx hSx
                      obtain ⟨p0, p1, p2, p3, p4⟩ := hSx.five
                      go_simp
                      try with_reducible rfl
                    try simp only [Act.put, List.setIfInBounds_toArray, List.set_cons_zero, List.set_cons_succ]
                    refine wpAnyN_take (i := 2) (v := ?v45) (at_op rfl) (by kernel_rfl) (by kernel_rfl) (by kernel_rfl) (by kernel_rfl) (fun _ _ _ h => h) (Or.inl ⟨by rfl, ?y45⟩) (by assumption) ?r45
                    case y45 =>
                      intro wx hSx
                      obtain ⟨p0, p1, p2, p3, p4⟩ := hSx.five
                      go_simp
                      try with_reducible rfl
                    try simp only [Act.put, List.setIfInBounds_toArray, List.set_cons_zero, List.set_cons_succ]
                    refine wpAnyN_take (i := 3) (v := ?v46) (at_op rfl) (by kernel_rfl) (by kernel_rfl) (by kernel_rfl) (by kernel_rfl) (fun _ _ _ h => h) (Or.inl ⟨by rfl, ?y46⟩) (by assumption) ?r46
                    case y46 =>
                      intro wx hSx
                      obtain ⟨p0, p1, p2, p3, p4⟩ := hSx.five
                      go_simp
                      try with_reducible rfl
                    try simp only [Act.put, List.setIfInBounds_toArray, List.set_cons_zero, List.set_cons_succ]
                    refine wpAnyN_take (i := 4) (v := ?v47) (at_op rfl) (by kernel_rfl) (by kernel_rfl) (by kernel_rfl) (by kernel_rfl) (fun _ _ _ h => h) (Or.inl ⟨by rfl, ?y47⟩) (by assumption) ?r47
                    case y47 =>
                      intro wx hSx
                      obtain ⟨p0, p1, p2, p3, p4⟩ := hSx.five
                      go_simp
                      try with_reducible rfl
                    try simp only [Act.put, List.setIfInBounds_toArray, List.set_cons_zero, List.set_cons_succ]
                    refine wpAnyN_take (i := 5) (v := ?v48) (at_op rfl) (by kernel_rfl) (by kernel_rfl) (by kernel_rfl) (by kernel_rfl) (fun _ _ _ h => h) (Or.inl ⟨by rfl, ?y48⟩) (by assumption) ?r48
                    case y48 =>
                      intro wx hSx
                      obtain ⟨p0, p1, p2, p3, p4⟩ := hSx.five
                      go_simp
                      try with_reducible rfl
                    try simp only [Act.put, List.setIfInBounds_toArray, List.set_cons_zero, List.set_cons_succ]
                    refine wpAnyN_take (i := 6) (v := ?v49) (at_op rfl) (by kernel_rfl) (by kernel_rfl) (by kernel_rfl) (by kernel_rfl) (fun _ _ _ h => h) (Or.inl ⟨by rfl, ?y49⟩) (by assumption) ?r49
                    case y49 =>
                      intro wx hSx
                      obtain ⟨p0, p1, p2, p3, p4⟩ := hSx.five
                      go_simp
                      try with_reducible rfl
                    try simp only [Act.put, List.setIfInBounds_toArray, List.set_cons_zero, List.set_cons_succ]
                    refine wpAnyN_take (i := 7) (v := ?v50) (at_op rfl) (by kernel_rfl) (by kernel_rfl) (by kernel_rfl) (by kernel_rfl) (fun _ _ _ h => h) (Or.inl ⟨by rfl, ?y50⟩) (by assumption) ?r50
                    case y50 =>
                      intro wx hSx
                      obtain ⟨p0, p1, p2, p3, p4⟩ := hSx.five
                      go_simp
                      try with_reducible rfl
                    try simp only [Act.put, List.setIfInBounds_toArray, List.set_cons_zero, List.set_cons_succ]
                    refine wpAnyN_take (i := 10) (v := ?v51) (at_op rfl) (by kernel_rfl) (by kernel_rfl) (by kernel_rfl) (by kernel_rfl) (fun _ _ _ h => h) (Or.inl ⟨by rfl, ?y51⟩) (by assumption) ?r51
                    case y51 =>
                      intro wx hSx
                      obtain ⟨p0, p1, p2, p3, p4⟩ := hSx.five
                      go_simp
                      try with_reducible rfl
                    try simp only [Act.put, List.setIfInBounds_toArray, List.set_cons_zero, List.set_cons_succ]
                    refine wpAnyN_ready (rs := [8]) (by kernel_rfl) (by simp) ?_
                    refine AllReadyN.cons (at_op rfl) (fun K hK => ?_) AllReadyN.nil
                    go_simp
                    refine (l01Below_any hS.cur (by omega) (by omega)).mono ?_
                    rintro e wa ⟨za, rfl, za1, za2, ho, hcu⟩
                    replace hS := hS.draw ho hcu
                    clear ho hcu
                    have hwa : IntKind.i64.wrap (az + 1 + za) = az + 1 + za := IntWalk.i64_in _ (by omega)
                    have hwr : IntKind.i64.wrap (Int.tmod (az + 1 + za) (1 + (n0 : Int))) = Int.tmod (az + 1 + za) (1 + (n0 : Int)) := IntWalk.i64_in _ (by have := tie_mod az1 az2 za1 za2; omega)
                    go_wp2_with fail
                    refine hK.out _ _ (fun _ => hS.box) (fun hSb => ?_)
                    replace hSb := hSb (by decide)
                    clear hK K
                    try simp only [Act.put, List.setIfInBounds_toArray, List.set_cons_zero, List.set_cons_succ]
                    refine wpAnyN_take (i := 9) (v := ?v52) (at_op rfl) (by kernel_rfl) (by kernel_rfl) (by kernel_rfl) (by kernel_rfl) (fun _ _ _ h => h) (Or.inl ⟨by rfl, ?y52⟩) (by assumption) ?r52
                    case y52 =>
                      intro wx hSx
                      obtain ⟨p0, p1, p2, p3, p4⟩ := hSx.five
                      go_simp
                      try with_reducible rfl
                    try simp only [Act.put, List.setIfInBounds_toArray, List.set_cons_zero, List.set_cons_succ]
                    refine wpAnyN_take (i := 11) (v := ?v53) (at_op rfl) (by kernel_rfl) (by kernel_rfl) (by kernel_rfl) (by kernel_rfl) (fun _ _ _ h => h) (Or.inl ⟨by rfl, ?y53⟩) (by assumption) ?r53
                    case y53 =>
                      intro wx hSx
                      obtain ⟨p0, p1, p2, p3, p4⟩ := hSx.five
                      go_simp
                      try with_reducible rfl
                    try simp only [Act.put, List.setIfInBounds_toArray, List.set_cons_zero, List.set_cons_succ]
                    refine wpAnyN_take (i := 12) (v := ?v54) (at_op rfl) (by kernel_rfl) (by kernel_rfl) (by kernel_rfl) (by kernel_rfl) (fun _ _ _ h => h) (Or.inl ⟨by rfl, ?y54⟩) (by assumption) ?r54
                    case y54 =>
                      intro wx hSx
                      obtain ⟨p0, p1, p2, p3, p4⟩ := hSx.five
                      go_simp
                      try with_reducible rfl
                    try simp only [Act.put, List.setIfInBounds_toArray, List.set_cons_zero, List.set_cons_succ]
                    refine wpAnyN_ready (rs := [13]) (by kernel_rfl) (by simp) ?_
                    refine AllReadyN.cons (at_op rfl) (fun K hK => ?_) AllReadyN.nil
                    go_simp
                    have kL : Below wa.heap.size wa (wa.alloc (.cells #[.int .i64 az, .int .i64 (Int.tmod (az + 1 + za) (1 + (n0 : Int)))] 101)) := (Below.refl _ _).alloc (Nat.le_refl _) _
                    have hSL := hS.below kL
                    have hLn := heap_alloc_new wa (.cells #[.int .i64 az, .int .i64 (Int.tmod (az + 1 + za) (1 + (n0 : Int)))] 101)
                    refine hK.out _ _ (fun _ => hSL.box) (fun hSb => ?_)
                    replace hSb := hSb (by decide)
                    clear hK K
                    try simp only [Act.put, List.setIfInBounds_toArray, List.set_cons_zero, List.set_cons_succ]
                    refine wpAnyN_ready (rs := [14]) (by kernel_rfl) (by simp) ?_
                    refine readyN_list (at_op rfl) (fun K hK => ?_)
                    refine wp_app1g (F := tieF) (xs := ts) (P := Try.prog) (y := (⟨az, Int.tmod (az + 1 + za) (1 + (n0 : Int))⟩ : Tie)) rfl (.tmp 125) (.tmp 137) 27 rfl Try.underlying27 hi3 hu0 hu1 hu2 rfl (by decide) rfl hSL.own.t wa.heap.size rfl hLn rfl (by omega) (by omega) hSL.b4 ?_
                    intro v9 w9 hO9 hb9 hg9
                    obtain ⟨b9, d9, rfl, -, -, -⟩ := hO9.form
                    have hS9 := hSL.putt hO9 hb9 hg9
                    have hbx9 : PBox ⟨ind, rs, ds, ss, ts⟩ ra rc a9 c9 sa sc ta tc P w9 := (hb9.block P hSL.b3).trans hSL.box
                    refine hK.out _ _ (fun _ => hbx9) (fun hSb => ?_)
                    replace hSb := hSb (by decide)
                    clear hK K
                    try simp only [Act.put, List.setIfInBounds_toArray, List.set_cons_zero, List.set_cons_succ]
                    refine wpAnyN_take (i := 15) (v := ?v55) (at_op rfl) (by kernel_rfl) (by kernel_rfl) (by kernel_rfl) (by kernel_rfl) (fun _ _ _ h => h) (Or.inl ⟨by rfl, ?y55⟩) (by assumption) ?r55
                    case y55 =>
                      intro wx hSx
                      obtain ⟨p0, p1, p2, p3, p4⟩ := hSx.five
                      go_simp
                      try with_reducible rfl
                    try simp only [Act.put, List.setIfInBounds_toArray, List.set_cons_zero, List.set_cons_succ]
                    obtain ⟨p0, p1, p2, p3, p4⟩ := hbx9.five
                    have fz1 : w9.frozen? ⟨P, 4, none⟩ = false := frozen_heap hbx9
                    refine wpAnyN_ready (rs := [16]) (by kernel_rfl) (by simp) ?_
                    refine AllReadyN.cons (at_op rfl) (fun K hK => ?_) AllReadyN.nil
                    go_wp2_with fail
                    refine hK.out _ _ (fun h => absurd rfl h) (fun _ => ?_)
                    clear hK K
                    try simp only [Act.put, List.setIfInBounds_toArray, List.set_cons_zero, List.set_cons_succ]
                    refine wpAnyN_done (by kernel_rfl) ?_ _
                    clear hbx9 p0 p1 p2 p3 p4 fz1 hSL hLn kL hb9 hg9 hO9 hS
                    have hS := hS9
                    clear hS9
                    simp only [List.length_append, List.length_cons, List.length_nil, Nat.zero_add] at hS
                    generalize w9.setCell ⟨P, 4, none⟩ (.slice b9 (ts.length + 1) d9) = wz at *
                    go_wp2_with fail
                    go_roundw
                    case rel => exact ⟨k + 1, by omega, by go_num, ts ++ [⟨az, Int.tmod (az + 1 + za) (1 + (n0 : Int))⟩], b9, d9, Lib.hid (by rw [List.length_append, HTL.out]; rfl), Lib.hid (snoc_all HTD.out (by show 0 ≤ az ∧ az < (n : Int) ∧ 0 ≤ Int.tmod (az + 1 + za) (1 + (n0 : Int)) ∧ Int.tmod (az + 1 + za) (1 + (n0 : Int)) < (n : Int) ∧ az ≠ Int.tmod (az + 1 + za) (1 + (n0 : Int)); have := HN.out; have := tie_mod az1 az2 za1 za2; omega)), hS⟩
                    case measure => simp [intOf]; omega
                  · go_upto_region 25 with fail
                    clear hlt hm
                    obtain ⟨p0, p1, p2, p3, p4⟩ := hS.box.five
                    have z0 := cell_heap (j := 0) hS.res rfl
                    have z1 := cell_heap (j := 1) hS.res rfl
                    have z2 := cell_heap (j := 2) hS.res rfl
                    have z3 := cell_heap (j := 3) hS.res rfl
                    have z4 := cell_heap (j := 4) hS.res rfl
                    have f0 := frozen_heap (j := 0) hS.res
                    have f1 := frozen_heap (j := 1) hS.res
                    have f2 := frozen_heap (j := 2) hS.res
                    have f3 := frozen_heap (j := 3) hS.res
                    have f4 := frozen_heap (j := 4) hS.res
                    go_wp2
                    change bodyPost _ _ _ _ _ (storeAll w.heap.size [.int .i64 ind, .slice ra rs.length rc, .slice a9 ds.length c9, .slice sa ss.length sc, .slice ta ts.length tc] 0 w11)
                    clear p0 p1 p2 p3 p4 z0 z1 z2 z3 z4 f0 f1 f2 f3 f4
                    generalize hwf : storeAll w.heap.size [.int .i64 ind, .slice ra rs.length rc, .slice a9 ds.length c9, .slice sa ss.length sc, .slice ta ts.length tc] 0 w11 = wf
                    obtain ⟨⟨q0, q1, q2, q3, q4⟩, HO, HB, HC⟩ := hS.done hwf
                    clear hwf hS
                    refine bodyPost_ret (v := .agg #[.int .i64 ind, .slice ra rs.length rc, .slice a9 ds.length c9, .slice sa ss.length sc, .slice ta ts.length tc]) (by simp [results, Try.results52, go_sem, q0, q1, q2, q3, q4]) rfl ?_
                    have hss : ss.length ≤ 40 := by have := HSL.out; omega
                    have hok := drawn_ok (x := ⟨ind, rs, ds, ss, ts⟩) (n := n) (m := m) (tx := ty) (cs := cs) hsi (by omega) (by omega) HRn.out HRD.out hds.out HCn.out HCD.out hty hss HSD.out (show ts.length ≤ 20 by omega) HTD.out
                    exact ⟨⟨ind, rs, ds, ss, ts⟩, ra, rc, a9, c9, sa, sc, ta, tc, rfl, hok.1, hok.2, (by show 1 ≤ rs.length; have := HRn.out; omega), (by show rs.length ≤ 5; have := HRn.out; omega), (by show ds.length ≤ 9; rw [hds.out, List.length_append, HCn.out]; show m + 1 ≤ 9; omega), HO, HB, HC⟩
                · go_upto_region 25 with fail
                  clear hlt
                  obtain ⟨p0, p1, p2, p3, p4⟩ := hS.box.five
                  have z0 := cell_heap (j := 0) hS.res rfl
                  have z1 := cell_heap (j := 1) hS.res rfl
                  have z2 := cell_heap (j := 2) hS.res rfl
                  have z3 := cell_heap (j := 3) hS.res rfl
                  have z4 := cell_heap (j := 4) hS.res rfl
                  have f0 := frozen_heap (j := 0) hS.res
                  have f1 := frozen_heap (j := 1) hS.res
                  have f2 := frozen_heap (j := 2) hS.res
                  have f3 := frozen_heap (j := 3) hS.res
                  have f4 := frozen_heap (j := 4) hS.res
                  go_wp2
                  change bodyPost _ _ _ _ _ (storeAll w.heap.size [.int .i64 ind, .slice ra rs.length rc, .slice a9 ds.length c9, .slice sa ss.length sc, .slice ta ts.length tc] 0 w11)
                  clear p0 p1 p2 p3 p4 z0 z1 z2 z3 z4 f0 f1 f2 f3 f4
                  generalize hwf : storeAll w.heap.size [.int .i64 ind, .slice ra rs.length rc, .slice a9 ds.length c9, .slice sa ss.length sc, .slice ta ts.length tc] 0 w11 = wf
                  obtain ⟨⟨q0, q1, q2, q3, q4⟩, HO, HB, HC⟩ := hS.done hwf
                  clear hwf hS
                  refine bodyPost_ret (v := .agg #[.int .i64 ind, .slice ra rs.length rc, .slice a9 ds.length c9, .slice sa ss.length sc, .slice ta ts.length tc]) (by simp [results, Try.results52, go_sem, q0, q1, q2, q3, q4]) rfl ?_
                  have hss : ss.length ≤ 40 := by have := HSL.out; omega
                  have hok := drawn_ok (x := ⟨ind, rs, ds, ss, ts⟩) (n := n) (m := m) (tx := ty) (cs := cs) hsi (by omega) (by omega) HRn.out HRD.out hds.out HCn.out HCD.out hty hss HSD.out (show ts.length ≤ 20 by omega) HTD.out
                  exact ⟨⟨ind, rs, ds, ss, ts⟩, ra, rc, a9, c9, sa, sc, ta, tc, rfl, hok.1, hok.2, (by show 1 ≤ rs.length; have := HRn.out; omega), (by show rs.length ≤ 5; have := HRn.out; omega), (by show ds.length ≤ 9; rw [hds.out, List.length_append, HCn.out]; show m + 1 ≤ 9; omega), HO, HB, HC⟩
end Go.Proofs.Ytllpgomloblfjaa
