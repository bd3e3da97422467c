/- Piece: how it lies in memory (a struct of an integer and four slices); the law's helpers for it. By mk_piece.py. -/
import Derived.Test.YtllpgomloblfjaaHRule
import Derived.Test.YtllpgomloblfjaaHChunk
import Derived.Test.YtllpgomloblfjaaHSpan
import Derived.Test.YtllpgomloblfjaaHTie
namespace Go.Proofs.Ytllpgomloblfjaa
open Go.RowKit
structure Piece where
  indent : Int
  rules : List Rule
  chunks : List Chunk
  spans : List Span
  ties : List Tie
def Piece.v (x : Piece) (ra : Option Addr) (rc : Nat) (ca : Option Addr) (cc : Nat) (sa : Option Addr) (sc : Nat) (ta : Option Addr) (tc : Nat) : Value :=
  .agg #[.int .i64 x.indent, .slice ra x.rules.length rc, .slice ca x.chunks.length cc, .slice sa x.spans.length sc, .slice ta x.ties.length tc]
abbrev ruleS : Shape Rule := ruleF.shape
abbrev chunkS : Shape Chunk := chunkF.shape
abbrev spanS : Shape Span := spanF.shape
abbrev tieS : Shape Tie := tieF.shape
/-- all four slices read -/
structure PFour (x : Piece) (ra : Option Addr) (rc : Nat) (ca : Option Addr) (cc : Nat) (sa : Option Addr) (sc : Nat) (ta : Option Addr) (tc : Nat) (lo hi : Nat) (w : World) : Prop where
  r : Rd ruleS lo hi w (.slice ra x.rules.length rc) x.rules
  c : Rd chunkS lo hi w (.slice ca x.chunks.length cc) x.chunks
  s : Rd spanS lo hi w (.slice sa x.spans.length sc) x.spans
  t : Rd tieS lo hi w (.slice ta x.ties.length tc) x.ties
/-- the value v reads as the piece x -/
def PRd (lo hi : Nat) (w : World) (v : Value) (x : Piece) : Prop := ∃ ra rc ca cc sa sc ta tc, v = x.v ra rc ca cc sa sc ta tc ∧ PFour x ra rc ca cc sa sc ta tc lo hi w
section
variable {x : Piece} {ra ca sa ta : Option Addr} {rc cc sc tc lo hi : Nat} {w w' : World}
theorem PFour.same (h : PFour x ra rc ca cc sa sc ta tc lo hi w) (hs : Same lo hi w w') : PFour x ra rc ca cc sa sc ta tc lo hi w' := ⟨h.r.same hs, h.c.same hs, h.s.same hs, h.t.same hs⟩
theorem PFour.below {B : Nat} (h : PFour x ra rc ca cc sa sc ta tc lo hi w) (hb : Below B w w') (hh : hi ≤ B) : PFour x ra rc ca cc sa sc ta tc lo hi w' := h.same (.of_below hb hh)
theorem PFour.wide {lo' hi' : Nat} (h : PFour x ra rc ca cc sa sc ta tc lo hi w) (h1 : lo' ≤ lo) (h2 : hi ≤ hi') : PFour x ra rc ca cc sa sc ta tc lo' hi' w := ⟨h.r.wide h1 h2, h.c.wide h1 h2, h.s.wide h1 h2, h.t.wide h1 h2⟩
theorem PRd.same {v : Value} (h : PRd lo hi w v x) (hs : Same lo hi w w') : PRd lo hi w' v x := by
  obtain ⟨ra, rc, ca, cc, sa, sc, ta, tc, h1, h2⟩ := h
  exact ⟨ra, rc, ca, cc, sa, sc, ta, tc, h1, h2.same hs⟩
theorem PRd.below {B : Nat} {v : Value} (h : PRd lo hi w v x) (hb : Below B w w') (hh : hi ≤ B) : PRd lo hi w' v x := h.same (.of_below hb hh)
theorem PRd.wide {lo' hi' : Nat} {v : Value} (h : PRd lo hi w v x) (h1 : lo' ≤ lo) (h2 : hi ≤ hi') : PRd lo' hi' w v x := by
  obtain ⟨ra, rc, ca, cc, sa, sc, ta, tc, g1, g2⟩ := h
  exact ⟨ra, rc, ca, cc, sa, sc, ta, tc, g1, g2.wide h1 h2⟩
end
def pieceS : Shape Piece :=
  { size := 5, rel := fun lo hi w x cs => PRd lo hi w (.agg cs.toArray) x,
    len := by
      rintro _ _ _ x cs ⟨ra, rc, ca, cc, sa, sc, ta, tc, h, _⟩
      injection h with h
      have := congrArg Array.size h
      simpa using this
    same := fun h hs => h.same hs
    wide := fun h h1 h2 => h.wide h1 h2 }
def Piece.Ok (x : Piece) : Prop := I64 x.indent ∧ (∀ r ∈ x.rules, r.Ok) ∧ (∀ r ∈ x.chunks, r.Ok) ∧ (∀ r ∈ x.spans, r.Ok) ∧ (∀ r ∈ x.ties, r.Ok)
theorem Try.cells73 : Try.prog.cellsOf 73 = 5 := by kernel_rfl
theorem Try.cells68 : Try.prog.cellsOf 68 = 1 := by kernel_rfl
theorem Try.cells69 : Try.prog.cellsOf 69 = 1 := by kernel_rfl
theorem Try.cells70 : Try.prog.cellsOf 70 = 1 := by kernel_rfl
theorem Try.cells71 : Try.prog.cellsOf 71 = 1 := by kernel_rfl
theorem opens_Piece : Opens Try.prog pieceS 73 Piece.Ok := by
  intro H enc w base spare held fuel cs x hx
  obtain ⟨ys, m, _, _, hlen, hl, hf⟩ := DataW.trod_struct Try.underlying73 hx
  rw [Try.cells73] at hlen
  obtain ⟨c0, r0, rfl, hn0⟩ := list_cons hlen
  obtain ⟨c1, r1, rfl, hn1⟩ := list_cons hn0
  obtain ⟨c2, r2, rfl, hn2⟩ := list_cons hn1
  obtain ⟨c3, r3, rfl, hn3⟩ := list_cons hn2
  obtain ⟨c4, r4, rfl, hn4⟩ := list_cons hn3
  obtain rfl := list_nil hn4
  have h0 : DataW.trod enc Try.prog w base spare held m 3 ((([c0, c1, c2, c3, c4] : List Value).drop 0).take (Try.prog.cellsOf 3)) = ys[0]? := hf 0 _ rfl
  rw [Try.cellsInt, List.getElem?_eq_getElem (show 0 < ys.length by rw [hl]; exact of_decide_eq_true rfl)] at h0
  obtain ⟨a0, e0, k0⟩ := opens_int Try.underlying3 H enc w base spare held m _ _ h0
  have h1 : DataW.trod enc Try.prog w base spare held m 68 ((([c0, c1, c2, c3, c4] : List Value).drop 1).take (Try.prog.cellsOf 68)) = ys[1]? := hf 1 _ rfl
  rw [Try.cells68, List.getElem?_eq_getElem (show 1 < ys.length by rw [hl]; exact of_decide_eq_true rfl)] at h1
  obtain ⟨a1, ⟨v1, e1, hr1⟩, k1⟩ := opens_sl Try.underlying68 Try.cells143 (by decide) opens_Rule H enc w base spare held m _ _ h1
  have h2 : DataW.trod enc Try.prog w base spare held m 69 ((([c0, c1, c2, c3, c4] : List Value).drop 2).take (Try.prog.cellsOf 69)) = ys[2]? := hf 2 _ rfl
  rw [Try.cells69, List.getElem?_eq_getElem (show 2 < ys.length by rw [hl]; exact of_decide_eq_true rfl)] at h2
  obtain ⟨a2, ⟨v2, e2, hr2⟩, k2⟩ := opens_sl Try.underlying69 Try.cells141 (by decide) opens_Chunk H enc w base spare held m _ _ h2
  have h3 : DataW.trod enc Try.prog w base spare held m 70 ((([c0, c1, c2, c3, c4] : List Value).drop 3).take (Try.prog.cellsOf 70)) = ys[3]? := hf 3 _ rfl
  rw [Try.cells70, List.getElem?_eq_getElem (show 3 < ys.length by rw [hl]; exact of_decide_eq_true rfl)] at h3
  obtain ⟨a3, ⟨v3, e3, hr3⟩, k3⟩ := opens_sl Try.underlying70 Try.cells146 (by decide) opens_Span H enc w base spare held m _ _ h3
  have h4 : DataW.trod enc Try.prog w base spare held m 71 ((([c0, c1, c2, c3, c4] : List Value).drop 4).take (Try.prog.cellsOf 71)) = ys[4]? := hf 4 _ rfl
  rw [Try.cells71, List.getElem?_eq_getElem (show 4 < ys.length by rw [hl]; exact of_decide_eq_true rfl)] at h4
  obtain ⟨a4, ⟨v4, e4, hr4⟩, k4⟩ := opens_sl Try.underlying71 Try.cells148 (by decide) opens_Tie H enc w base spare held m _ _ h4
  obtain rfl : c0 = .int .i64 a0 := (List.cons.inj e0).1
  obtain rfl : c1 = v1 := (List.cons.inj e1).1
  obtain rfl : c2 = v2 := (List.cons.inj e2).1
  obtain rfl : c3 = v3 := (List.cons.inj e3).1
  obtain rfl : c4 = v4 := (List.cons.inj e4).1
  obtain ⟨b1, d1, u1, _⟩ := id hr1
  subst u1
  obtain ⟨b2, d2, u2, _⟩ := id hr2
  subst u2
  obtain ⟨b3, d3, u3, _⟩ := id hr3
  subst u3
  obtain ⟨b4, d4, u4, _⟩ := id hr4
  subst u4
  exact ⟨⟨a0, a1, a2, a3, a4⟩, ⟨b1, d1, b2, d2, b3, d3, b4, d4, rfl, ⟨hr1, hr2, hr3, hr4⟩⟩, k0, k1, k2, k3, k4⟩
/-- what a piece weighs -/
def Piece.wt (x : Piece) : Nat := x.rules.length + Chunk.wts x.chunks + x.spans.length + x.ties.length
set_option maxHeartbeats 1000000 in
set_option maxRecDepth 100000 in
theorem szPiece_any (x : Piece) (ra ca sa ta : Option Addr) (rc cc sc tc lo hi : Nat) (left : Int) (w : World) (hp : PFour x ra rc ca cc sa sc ta tc lo hi w) (hh : hi ≤ w.heap.size) (h0 : 0 ≤ left) (h1 : left ≤ 1048576) (hs : ∀ c ∈ x.chunks, c.text.size ≤ maxLen) :
    Calls Try.prog 43 #[x.v ra rc ca cc sa sc ta tc, .int .i64 left] w fun e w' => e = .returned (.int .i64 (szR left x.wt)) ∧ Below w.heap.size w w' := by
  obtain ⟨indent, rules, chunks, spans, ties⟩ := x
  obtain ⟨hr, hc, hsp, ht⟩ := hp
  unfold Piece.v Piece.wt
  simp only at hs hr hc hsp ht ⊢
  go_enter Try.func43, Try.ntmps43
  go_wp2_with fail
  generalize hA : Obj.cells #[Value.int IntKind.i64 indent, Value.slice ra rules.length rc, Value.slice ca chunks.length cc, Value.slice sa spans.length sc, Value.slice ta ties.length tc] 73 = A
  have hb0 : Below w.heap.size w (w.alloc A) := (Below.refl _ _).alloc (Nat.le_refl _) _
  have q0 := heap_alloc_new w A
  rw [← hA] at q0
  have p2 := cell_heap (j := 2) q0 rfl
  have p3 := cell_heap (j := 3) q0 rfl
  have p4 := cell_heap (j := 4) q0 rfl
  rw [hA] at p2 p3 p4
  have hs0 := hb0.size
  clear q0 hA
  generalize w.alloc A = w0 at *
  refine (szRuleS_any rules _ lo hi _ _ (hr.below hb0 hh) (by omega) (by omega) (by omega)).mono ?_
  rintro e w1 ⟨rfl, k1⟩
  have hb1 := hb0.trans (k1.mono hs0)
  have hs1 := hb1.size
  replace p2 := keepc p2 k1
  replace p3 := keepc p3 k1
  replace p4 := keepc p4 k1
  by_cases z0 : left - ((rules.length : Nat) : Int) < 0
  · have Z := Lib.hid (szR_no (left := left) (t := rules.length + Chunk.wts chunks + spans.length + ties.length) (by omega))
    rw [← szR_no z0]
    go_wp2
    go_ret
    exact ⟨ret_int Z.out, hb1⟩
  rw [← szR_yes (Int.not_lt.1 z0)]
  clear hb0 k1
  go_wp2_with fail
  refine (szChunkS_any chunks _ lo hi _ _ (hc.below hb1 hh) (by omega) (by omega) (by omega) hs).mono ?_
  rintro e w2 ⟨rfl, k2⟩
  have hb2 := hb1.trans (k2.mono hs1)
  have hs2 := hb2.size
  replace p3 := keepc p3 k2
  replace p4 := keepc p4 k2
  by_cases z1 : left - ((rules.length : Nat) : Int) - ((Chunk.wts chunks : Nat) : Int) < 0
  · have Z := Lib.hid (szR_no (left := left) (t := rules.length + Chunk.wts chunks + spans.length + ties.length) (by omega))
    rw [← szR_no z1]
    go_wp2
    go_ret
    exact ⟨ret_int Z.out, hb2⟩
  rw [← szR_yes (Int.not_lt.1 z1)]
  clear hb1 k2
  go_wp2_with fail
  refine (szSpanS_any spans _ lo hi _ _ (hsp.below hb2 hh) (by omega) (by omega) (by omega)).mono ?_
  rintro e w3 ⟨rfl, k3⟩
  have hb3 := hb2.trans (k3.mono hs2)
  have hs3 := hb3.size
  replace p4 := keepc p4 k3
  by_cases z2 : left - ((rules.length : Nat) : Int) - ((Chunk.wts chunks : Nat) : Int) - ((spans.length : Nat) : Int) < 0
  · have Z := Lib.hid (szR_no (left := left) (t := rules.length + Chunk.wts chunks + spans.length + ties.length) (by omega))
    rw [← szR_no z2]
    go_wp2
    go_ret
    exact ⟨ret_int Z.out, hb3⟩
  rw [← szR_yes (Int.not_lt.1 z2)]
  clear hb2 k3
  go_wp2_with fail
  refine (szTieS_any ties _ lo hi _ _ (ht.below hb3 hh) (by omega) (by omega) (by omega)).mono ?_
  rintro e w4 ⟨rfl, k4⟩
  have hb4 := hb3.trans (k4.mono hs3)
  have hs4 := hb4.size
  by_cases z3 : left - ((rules.length : Nat) : Int) - ((Chunk.wts chunks : Nat) : Int) - ((spans.length : Nat) : Int) - ((ties.length : Nat) : Int) < 0
  · have Z := Lib.hid (szR_no (left := left) (t := rules.length + Chunk.wts chunks + spans.length + ties.length) (by omega))
    rw [← szR_no z3]
    go_wp2
    go_ret
    exact ⟨ret_int Z.out, hb4⟩
  rw [← szR_yes (Int.not_lt.1 z3)]
  have Z := Lib.hid (szR_yes (left := left) (t := rules.length + Chunk.wts chunks + spans.length + ties.length) (by omega))
  have Z2 := Lib.hid (show left - ((rules.length : Nat) : Int) - ((Chunk.wts chunks : Nat) : Int) - ((spans.length : Nat) : Int) - ((ties.length : Nat) : Int) = left - ((rules.length + Chunk.wts chunks + spans.length + ties.length : Nat) : Int) by omega)
  go_wp2
  go_ret
  exact ⟨ret_int (Z2.out.trans Z.out), hb4⟩
end Go.Proofs.Ytllpgomloblfjaa
