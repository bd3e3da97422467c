/- What the first values of a piece cost at least, said of lists. -/
import Derived.Test.YtllpgomloblfjaaPieceD
namespace Go.Proofs.Ytllpgomloblfjaa
open Go.RowKit

def ruleAt (rs : List Rule) (i : Nat) : Rule := rs.getD i Rule.zero
def spanNth (ss : List Span) (i : Nat) : Span := ss.getD i Span.zero
theorem ruleAt_lt {rs : List Rule} {i : Nat} (h : i < rs.length) : ruleAt rs i = rs[i] := by simp [ruleAt, List.getD, h]
theorem spanNth_lt {rs : List Span} {i : Nat} (h : i < rs.length) : spanNth rs i = rs[i] := by simp [spanNth, List.getD, h]
def valAt (rs : List Rule) (vals : List Int) (i : Nat) : Bool := inR (vals.getD i 0) 0 (wrap64 ((rs.getD i Rule.zero).values - 1))
theorem firstOk_eq (rs : List Rule) (vals : List Int) : firstOk rs vals = (decide (vals.length ≤ rs.length) && (List.range vals.length).all (valAt rs vals)) := rfl
theorem valuesOk_eq (rs : List Rule) (vals : List Int) : valuesOk rs vals = (decide (vals.length = rs.length) && (List.range vals.length).all (valAt rs vals)) := rfl
theorem range_all_eq {p q : Nat → Bool} {n : Nat} (h : ∀ i, i < n → p i = q i) : (List.range n).all p = (List.range n).all q := by
  rw [Bool.eq_iff_iff, List.all_eq_true, List.all_eq_true]
  constructor
  · intro g i hi; rw [← h i (List.mem_range.1 hi)]; exact g i hi
  · intro g i hi; rw [h i (List.mem_range.1 hi)]; exact g i hi
theorem valuesOk_take {rs : List Rule} {vals : List Int} (h : vals.length ≤ rs.length) : valuesOk (rs.take vals.length) vals = firstOk rs vals := by
  have hl : (rs.take vals.length).length = vals.length := by rw [List.length_take]; omega
  rw [firstOk_eq, valuesOk_eq, hl]
  simp only [decide_true, Bool.true_and, h]
  refine range_all_eq fun i hi => ?_
  have e : (rs.take vals.length).getD i Rule.zero = rs.getD i Rule.zero := by
    simp only [List.getD]
    rw [List.getElem?_take_of_lt hi]
  unfold valAt
  rw [e]
theorem firstOk_no {rs : List Rule} {vals : List Int} (h : rs.length < vals.length) : firstOk rs vals = false := by
  rw [firstOk_eq, decide_eq_false (by omega)]; rfl
theorem valAt_at {rs : List Rule} {vals : List Int} {i : Nat} (h : i < vals.length) (hr : i < rs.length) : valAt rs vals i = inR vals[i] 0 (wrap64 (rs[i].values - 1)) := by
  unfold valAt
  rw [getD_at h]
  have : rs.getD i Rule.zero = rs[i] := by simp [List.getD, hr]
  rw [this]
/-- right values of the first rules of a right piece -/
structure RightV (x : Piece) (v : List Int) : Prop where
  len : v.length ≤ x.rules.length
  val : ∀ i (h : i < v.length), 0 ≤ v[i] ∧ v[i] ≤ 2
theorem rightV_of {x : Piece} {v : List Int} (hx : Right x) (h : firstOk x.rules v = true) : RightV x v := by
  rw [firstOk_eq, Bool.and_eq_true, decide_eq_true_eq] at h
  obtain ⟨h1, h2⟩ := h
  refine ⟨h1, fun i hi => ?_⟩
  have h3 := List.all_eq_true.1 h2 i (List.mem_range.2 hi)
  have hr : i < x.rules.length := by omega
  rw [valAt_at hi hr] at h3
  have h4 := inR_of h3
  have h5 := hx.rule i hr
  rw [IntWalk.wrap64_in _ (by omega)] at h4
  omega
/-- it is split behind the i-th chunk -/
def splitsAt (x : Piece) (v : List Int) (i : Nat) : Bool := decide ((chunkAt x.chunks i).fro ≤ v.getD (chunkAt x.chunks i).rule.toNat 0)
def spanAt (x : Piece) (v : List Int) (i : Nat) : Bool := decide ((chunkAt x.chunks i).rule < (v.length : Int)) && splitsAt x v i
/-- it is split behind one from the a-th on and before the b-th -/
def anyAt (x : Piece) (v : List Int) (a b : Nat) : Bool := (List.range (b - a)).any fun d => spanAt x v (a + d)
theorem anyAt_none {x : Piece} {v : List Int} {a b : Nat} (h : b ≤ a) : anyAt x v a b = false := by
  unfold anyAt; rw [show b - a = 0 by omega]; rfl
theorem anyAt_succ {x : Piece} {v : List Int} {a b : Nat} (h : a ≤ b) : anyAt x v a (b + 1) = (anyAt x v a b || spanAt x v b) := by
  unfold anyAt
  rw [show b + 1 - a = (b - a) + 1 by omega, List.range_succ, List.any_append]
  simp [show a + (b - a) = b by omega]
theorem anyAt_yes {x : Piece} {v : List Int} {a b k : Nat} (h1 : a ≤ k) (h2 : k < b) (h : spanAt x v k = true) : anyAt x v a b = true := by
  unfold anyAt
  rw [List.any_eq_true]
  exact ⟨k - a, List.mem_range.2 (by omega), by rw [show a + (k - a) = k by omega]; exact h⟩
def splitSpan (x : Piece) (v : List Int) (s : Span) : Bool := anyAt x v s.fro.toNat (s.til.toNat + 1)
def costTo (x : Piece) (v : List Int) : Nat → Int
  | 0 => 0
  | k + 1 => costTo x v k + v.getD k 0 * (ruleAt x.rules k).cost
def spanTo (x : Piece) (v : List Int) : Nat → Int
  | 0 => 0
  | k + 1 => spanTo x v k + if splitSpan x v (spanNth x.spans k) then (spanNth x.spans k).cost else 0
def boundOf (x : Piece) (v : List Int) : Int := costTo x v v.length + spanTo x v x.spans.length
theorem mul_bd {n c : Int} (h : 0 ≤ n ∧ n ≤ 2) (hc : 0 ≤ c ∧ c ≤ 9) : 0 ≤ n * c ∧ n * c ≤ 18 := by
  have : n = 0 ∨ n = 1 ∨ n = 2 := by omega
  rcases this with rfl | rfl | rfl <;> omega
theorem costTo_succ {x : Piece} {v : List Int} {k : Nat} (h : k < v.length) (hr : k < x.rules.length) : costTo x v (k + 1) = costTo x v k + v[k] * x.rules[k].cost := by
  show costTo x v k + v.getD k 0 * (ruleAt x.rules k).cost = _
  rw [getD_at h, ruleAt_lt hr]
theorem costTo_bd {x : Piece} {v : List Int} (hx : Right x) (hv : RightV x v) : ∀ k, k ≤ v.length → 0 ≤ costTo x v k ∧ costTo x v k ≤ 18 * (k : Int)
  | 0, _ => ⟨Int.le_refl 0, Int.le_refl 0⟩
  | k + 1, hk => by
    have h1 := costTo_bd hx hv k (by omega)
    have hr : k < x.rules.length := by have := hv.len; omega
    rw [costTo_succ (by omega) hr]
    have h2 := mul_bd (hv.val k (by omega)) (hx.rule k hr).2.2
    omega
theorem spanTo_succ {x : Piece} {v : List Int} {k : Nat} (h : k < x.spans.length) : spanTo x v (k + 1) = spanTo x v k + if splitSpan x v x.spans[k] then x.spans[k].cost else 0 := by
  show spanTo x v k + (if splitSpan x v (spanNth x.spans k) then (spanNth x.spans k).cost else 0) = _
  rw [spanNth_lt h]
theorem spanTo_bd {x : Piece} {v : List Int} (hx : Right x) : ∀ k, k ≤ x.spans.length → 0 ≤ spanTo x v k ∧ spanTo x v k ≤ 9 * (k : Int)
  | 0, _ => ⟨Int.le_refl 0, Int.le_refl 0⟩
  | k + 1, hk => by
    have h1 := spanTo_bd (v := v) hx k (by omega)
    rw [spanTo_succ (by omega)]
    have h2 := hx.span k (by omega)
    split <;> omega
/-- what the split of a chunk that is not the last has -/
theorem chunk_of {x : Piece} (hx : Right x) {i : Nat} (h : i + 1 < x.chunks.length) : 0 ≤ x.chunks[i].rule ∧ x.chunks[i].rule < x.rules.length ∧ 1 ≤ x.chunks[i].fro ∧ x.chunks[i].fro ≤ 2 ∧ 0 ≤ x.chunks[i].nest ∧ x.chunks[i].nest ≤ 40 :=
  split_of (hx.split i h) fun i h => ⟨(hx.rule i h).1, (hx.rule i h).2.1⟩
def boundB (x : Piece) (v : List Int) : Int := if firstOk x.rules v && pieceOk x then boundOf x v else 0
end Go.Proofs.Ytllpgomloblfjaa
