/- When a piece is right, said of lists; what follows from it. -/
import Derived.Test.YtllpgomloblfjaaHPiece
import Derived.Test.YtllpgomloblfjaaHInt
import Derived.Test.YtllpgomloblfjaaRange
import Derived.Test.YtllpgomloblfjaaPlain8
namespace Go.Proofs.Ytllpgomloblfjaa
open Go.RowKit

def inR (n a b : Int) : Bool := decide (a ≤ n) && decide (n ≤ b)
theorem inR_yes {n a b : Int} (h1 : a ≤ n) (h2 : n ≤ b) : inR n a b = true := by simp [inR, h1, h2]
theorem inR_no {n a b : Int} (h : ¬ (a ≤ n ∧ n ≤ b)) : inR n a b = false := by
  unfold inR
  by_cases h1 : a ≤ n
  · have h2 : ¬ n ≤ b := fun h2 => h ⟨h1, h2⟩
    simp [h2]
  · simp [h1]
theorem inR_of {n a b : Int} (h : inR n a b = true) : a ≤ n ∧ n ≤ b := by simpa [inR] using h
theorem inR_not {n a b : Int} (h : inR n a b = false) : ¬ (a ≤ n ∧ n ≤ b) := fun hc => by rw [inR_yes hc.1 hc.2] at h; cases h
theorem inRange_any (n a b : Int) (w : World) : Calls Try.prog 71 #[.int .i64 n, .int .i64 a, .int .i64 b] w fun e w' => e = .returned (.bool (inR n a b)) ∧ w = w' := by
  by_cases h : a ≤ n ∧ n ≤ b
  · rw [inR_yes h.1 h.2]; exact inRange_yes n a b w h.1 h.2
  · rw [inR_no h]; exact inRange_no n a b w h
theorem l01In_any (n a b : Int) (w : World) : Calls Try.prog 57 #[.int .i64 n, .int .i64 a, .int .i64 b] w fun e w' => e = .returned (.bool (inR n a b)) ∧ w = w' := by
  by_cases h : a ≤ n ∧ n ≤ b
  · rw [inR_yes h.1 h.2]; exact l01In_yes n a b w h.1 h.2
  · rw [inR_no h]; exact l01In_no n a b w h
/-- the piece lies boxed in block b -/
def PBox (x : Piece) (ra : Option Addr) (rc : Nat) (ca : Option Addr) (cc : Nat) (sa : Option Addr) (sc : Nat) (ta : Option Addr) (tc : Nat) (b : Nat) (w : World) : Prop :=
  w.heap[b]? = some (.cells #[.int .i64 x.indent, .slice ra x.rules.length rc, .slice ca x.chunks.length cc, .slice sa x.spans.length sc, .slice ta x.ties.length tc] 29)
section
variable {x : Piece} {ra ca sa ta : Option Addr} {rc cc sc tc b : Nat} {w w' : World}
theorem PBox.five (h : PBox x ra rc ca cc sa sc ta tc b w) : w.cell? ⟨b, 0, none⟩ = some (.int .i64 x.indent) ∧ w.cell? ⟨b, 1, none⟩ = some (.slice ra x.rules.length rc) ∧ w.cell? ⟨b, 2, none⟩ = some (.slice ca x.chunks.length cc) ∧ w.cell? ⟨b, 3, none⟩ = some (.slice sa x.spans.length sc) ∧ w.cell? ⟨b, 4, none⟩ = some (.slice ta x.ties.length tc) := Go.Proofs.Ytllpgomloblfjaa.five h
theorem PBox.lt (h : PBox x ra rc ca cc sa sc ta tc b w) : b < w.heap.size := blk_lt h
theorem PBox.below (h : PBox x ra rc ca cc sa sc ta tc b w) (hb : Below w.heap.size w w') : PBox x ra rc ca cc sa sc ta tc b w' := blk hb h
theorem PBox.alloc (h : PBox x ra rc ca cc sa sc ta tc b w) (o : Obj) : PBox x ra rc ca cc sa sc ta tc b (w.alloc o) := h.below ((Below.refl _ _).alloc (Nat.le_refl _) _)
theorem PBox.drew (h : PBox x ra rc ca cc sa sc ta tc b w) : PBox x ra rc ca cc sa sc ta tc b w.drew := h
theorem PBox.drewN (h : PBox x ra rc ca cc sa sc ta tc b w) (n : Nat) : PBox x ra rc ca cc sa sc ta tc b (w.drewN n) := h
theorem PBox.far (h : PBox x ra rc ca cc sa sc ta tc b w) {g j : Nat} (hg : b ≠ g) (u : Value) : PBox x ra rc ca cc sa sc ta tc b (w.setCell ⟨g, j, none⟩ u) := heap_set_other hg h
end
theorem PBox.new (x : Piece) (ra ca sa ta : Option Addr) (rc cc sc tc : Nat) (w : World) : PBox x ra rc ca cc sa sc ta tc w.heap.size (w.alloc (.cells #[.int .i64 x.indent, .slice ra x.rules.length rc, .slice ca x.chunks.length cc, .slice sa x.spans.length sc, .slice ta x.ties.length tc] 29)) := heap_alloc_new _ _
theorem at_rule {lo hi n c : Nat} {w : World} {a : Option Addr} {xs : List Rule} (h : Rd ruleF.shape lo hi w (.slice a n c) xs) : xs.length ≤ 9223372036854775807 ∧ ∀ k (h : k < xs.length), ∃ b off, a = some ⟨b, off, none⟩ ∧ lo ≤ b ∧ b < hi ∧ w.cell? ⟨b, off + k * 2, none⟩ = some (.int .i64 xs[k].values) ∧ w.cell? ⟨b, off + k * 2 + 1, none⟩ = some (.int .i64 xs[k].cost) := by
  have hl := h.len_le
  obtain ⟨a', c', e, h2, h3, h4, h5⟩ := h.ruleF
  injection e with e1 e2 e3
  subst e1
  exact ⟨hl, h5⟩
theorem at_span {lo hi n c : Nat} {w : World} {a : Option Addr} {xs : List Span} (h : Rd spanF.shape lo hi w (.slice a n c) xs) : xs.length ≤ 9223372036854775807 ∧ ∀ k (h : k < xs.length), ∃ b off, a = some ⟨b, off, none⟩ ∧ lo ≤ b ∧ b < hi ∧ w.cell? ⟨b, off + k * 3, none⟩ = some (.int .i64 xs[k].fro) ∧ w.cell? ⟨b, off + k * 3 + 1, none⟩ = some (.int .i64 xs[k].til) ∧ w.cell? ⟨b, off + k * 3 + 1 + 1, none⟩ = some (.int .i64 xs[k].cost) := by
  have hl := h.len_le
  obtain ⟨a', c', e, h2, h3, h4, h5⟩ := h.spanF
  injection e with e1 e2 e3
  subst e1
  exact ⟨hl, h5⟩
theorem at_tie {lo hi n c : Nat} {w : World} {a : Option Addr} {xs : List Tie} (h : Rd tieF.shape lo hi w (.slice a n c) xs) : xs.length ≤ 9223372036854775807 ∧ ∀ k (h : k < xs.length), ∃ b off, a = some ⟨b, off, none⟩ ∧ lo ≤ b ∧ b < hi ∧ w.cell? ⟨b, off + k * 2, none⟩ = some (.int .i64 xs[k].kid) ∧ w.cell? ⟨b, off + k * 2 + 1, none⟩ = some (.int .i64 xs[k].up) := by
  have hl := h.len_le
  obtain ⟨a', c', e, h2, h3, h4, h5⟩ := h.tieF
  injection e with e1 e2 e3
  subst e1
  exact ⟨hl, h5⟩
theorem at_chunk {lo hi n c : Nat} {w : World} {a : Option Addr} {xs : List Chunk} (h : Rd chunkF.shape lo hi w (.slice a n c) xs) : xs.length ≤ 9223372036854775807 ∧ ∀ k (h : k < xs.length), ∃ b off, a = some ⟨b, off, none⟩ ∧ lo ≤ b ∧ b < hi ∧ w.cell? ⟨b, off + k * 5, none⟩ = some (.string xs[k].text) ∧ w.cell? ⟨b, off + k * 5 + 1, none⟩ = some (.int .i64 xs[k].rule) ∧ w.cell? ⟨b, off + k * 5 + 1 + 1, none⟩ = some (.int .i64 xs[k].fro) ∧ w.cell? ⟨b, off + k * 5 + 1 + 1 + 1, none⟩ = some (.bool xs[k].space) ∧ w.cell? ⟨b, off + k * 5 + 1 + 1 + 1 + 1, none⟩ = some (.int .i64 xs[k].nest) := by
  have hl := h.len_le
  obtain ⟨a', c', e, h2, h3, h4, h5⟩ := h.chunkF
  injection e with e1 e2 e3
  subst e1
  exact ⟨hl, h5⟩
theorem at_int {lo hi n c : Nat} {w : World} {a : Option Addr} {xs : List Int} (h : Rd intF.shape lo hi w (.slice a n c) xs) : xs.length ≤ 9223372036854775807 ∧ ∀ k (h : k < xs.length), ∃ b off, a = some ⟨b, off, none⟩ ∧ lo ≤ b ∧ b < hi ∧ w.cell? ⟨b, off + k, none⟩ = some (.int .i64 xs[k]) := by
  have hl := h.len_le
  obtain ⟨a', c', e, h2, h3, h4, h5⟩ := h.intF
  injection e with e1 e2 e3
  subst e1
  exact ⟨hl, h5⟩
theorem getD_at {xs : List Int} {k : Nat} (h : k < xs.length) : xs.getD k 0 = xs[k] := by simp [List.getD, h]

def Chunk.split (c : Chunk) : Split := ⟨c.rule, c.fro, c.space, c.nest⟩
def ruleOk (r : Rule) : Bool := inR r.values 2 3 && inR r.cost 0 9
def splitOk (rules : List Rule) (s : Split) : Bool := inR s.rule 0 ((rules.length : Int) - 1) && inR s.fro 1 ((rules.getD s.rule.toNat Rule.zero).values - 1) && inR s.nest 0 40
def chunkAt (cs : List Chunk) (i : Nat) : Chunk := cs.getD i Chunk.zero
def chunkOk (rules : List Rule) (cs : List Chunk) (i : Nat) : Bool := plainB (chunkAt cs i).text && (decide (cs.length ≤ i + 1) || splitOk rules (chunkAt cs i).split)
def lastOk (cs : List Chunk) : Bool := decide ((chunkAt cs (cs.length - 1)).rule = 0) && decide ((chunkAt cs (cs.length - 1)).fro = 0) && !(chunkAt cs (cs.length - 1)).space && decide ((chunkAt cs (cs.length - 1)).nest = 0)
def chunksOk (rules : List Rule) (cs : List Chunk) : Bool := inR (cs.length : Int) 1 80 && (List.range cs.length).all (chunkOk rules cs) && lastOk cs
def spanOk (n : Nat) (s : Span) : Bool := inR s.til 0 ((n : Int) - 2) && inR s.fro 0 s.til && inR s.cost 0 9
def tieOk (m : Nat) (t : Tie) : Bool := inR t.kid 0 ((m : Int) - 1) && inR t.up 0 ((m : Int) - 1) && !decide (t.kid = t.up)
def pieceOk (x : Piece) : Bool := inR x.indent 0 60 && x.rules.all ruleOk && decide (x.rules.length ≤ 8) && chunksOk x.rules x.chunks && decide (x.spans.length ≤ 40) && decide (x.ties.length ≤ 20) && x.spans.all (spanOk x.chunks.length) && x.ties.all (tieOk x.rules.length)
theorem chunkAt_lt {cs : List Chunk} {i : Nat} (h : i < cs.length) : chunkAt cs i = cs[i] := by simp [chunkAt, List.getD, h]
theorem range_all_succ {p : Nat → Bool} {k : Nat} (h : (List.range k).all p = true) (hx : p k = true) : (List.range (k + 1)).all p = true := by
  rw [List.range_succ]; exact allp_succ rfl h hx
theorem range_all_no {p : Nat → Bool} {k n : Nat} (h : k < n) (hx : p k = false) : (List.range n).all p = false := by
  cases hb : (List.range n).all p with
  | false => rfl
  | true => rw [List.all_eq_true.1 hb k (List.mem_range.2 h)] at hx; cases hx
/-- what a right piece has -/
structure Right (x : Piece) : Prop where
  indent : 0 ≤ x.indent ∧ x.indent ≤ 60
  rules : x.rules.length ≤ 8
  rule : ∀ i (h : i < x.rules.length), 2 ≤ x.rules[i].values ∧ x.rules[i].values ≤ 3 ∧ 0 ≤ x.rules[i].cost ∧ x.rules[i].cost ≤ 9
  chunks : 1 ≤ x.chunks.length ∧ x.chunks.length ≤ 80
  plain : ∀ i (h : i < x.chunks.length), plainB x.chunks[i].text = true
  split : ∀ i (h : i + 1 < x.chunks.length), splitOk x.rules x.chunks[i].split = true
  last : lastOk x.chunks = true
  spans : x.spans.length ≤ 40
  ties : x.ties.length ≤ 20
  span : ∀ i (h : i < x.spans.length), 0 ≤ x.spans[i].fro ∧ x.spans[i].fro ≤ x.spans[i].til ∧ x.spans[i].til + 2 ≤ x.chunks.length ∧ 0 ≤ x.spans[i].cost ∧ x.spans[i].cost ≤ 9
  tie : ∀ i (h : i < x.ties.length), 0 ≤ x.ties[i].kid ∧ x.ties[i].kid < x.rules.length ∧ 0 ≤ x.ties[i].up ∧ x.ties[i].up < x.rules.length ∧ x.ties[i].kid ≠ x.ties[i].up
theorem right_of {x : Piece} (h : pieceOk x = true) : Right x := by
  unfold pieceOk chunksOk at h
  simp only [Bool.and_eq_true, decide_eq_true_eq] at h
  obtain ⟨⟨⟨⟨⟨⟨⟨h1, h2⟩, h3⟩, ⟨h4, h5⟩, h6⟩, h7⟩, h8⟩, h9⟩, h10⟩ := h
  have hr : ∀ i (h : i < x.rules.length), inR x.rules[i].values 2 3 = true ∧ inR x.rules[i].cost 0 9 = true := fun i h => by
    have := List.all_eq_true.1 h2 _ (List.getElem_mem h)
    simpa [ruleOk] using this
  have hc : ∀ i (_ : i < x.chunks.length), chunkOk x.rules x.chunks i = true := fun i h => List.all_eq_true.1 h5 i (List.mem_range.2 h)
  refine ⟨inR_of h1, h3, fun i h => ?_, ?_, fun i h => ?_, fun i h => ?_, h6, h7, h8, fun i h => ?_, fun i h => ?_⟩
  · have h11 := inR_of (hr i h).1
    have h12 := inR_of (hr i h).2
    omega
  · have := inR_of h4
    omega
  · have := hc i h
    rw [chunkOk, chunkAt_lt h] at this
    simp only [Bool.and_eq_true] at this
    exact this.1
  · have := hc i (by omega)
    rw [chunkOk, chunkAt_lt (by omega)] at this
    simp only [Bool.and_eq_true, Bool.or_eq_true, decide_eq_true_eq] at this
    exact this.2.resolve_left (by omega)
  · have := List.all_eq_true.1 h9 _ (List.getElem_mem h)
    simp only [spanOk, Bool.and_eq_true] at this
    have a1 := inR_of this.1.1
    have a2 := inR_of this.1.2
    have a3 := inR_of this.2
    omega
  · have := List.all_eq_true.1 h10 _ (List.getElem_mem h)
    simp only [tieOk, Bool.and_eq_true, Bool.not_eq_true', decide_eq_false_iff_not] at this
    have a1 := inR_of this.1.1
    have a2 := inR_of this.1.2
    have a3 := this.2
    omega
theorem split_of {rules : List Rule} {s : Split} (h : splitOk rules s = true) (hr : ∀ i (h : i < rules.length), 2 ≤ rules[i].values ∧ rules[i].values ≤ 3) : 0 ≤ s.rule ∧ s.rule < rules.length ∧ 1 ≤ s.fro ∧ s.fro ≤ 2 ∧ 0 ≤ s.nest ∧ s.nest ≤ 40 := by
  simp only [splitOk, Bool.and_eq_true] at h
  have a1 := inR_of h.1.1
  have a2 := inR_of h.1.2
  have a3 := inR_of h.2
  have hlt : s.rule.toNat < rules.length := by omega
  have : rules.getD s.rule.toNat Rule.zero = rules[s.rule.toNat] := by simp [List.getD, hlt]
  rw [this] at a2
  have := hr _ hlt
  omega
/-- right values of the first rules -/
def firstOk (rules : List Rule) (vals : List Int) : Bool := decide (vals.length ≤ rules.length) && (List.range vals.length).all fun i => inR (vals.getD i 0) 0 (wrap64 ((rules.getD i Rule.zero).values - 1))
def valuesOk (rules : List Rule) (vals : List Int) : Bool := decide (vals.length = rules.length) && (List.range vals.length).all fun i => inR (vals.getD i 0) 0 (wrap64 ((rules.getD i Rule.zero).values - 1))
end Go.Proofs.Ytllpgomloblfjaa
