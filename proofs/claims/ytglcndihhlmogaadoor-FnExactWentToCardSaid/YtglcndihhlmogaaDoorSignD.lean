/- The signs of a text, said of lists. -/
import Derived.Test.YtglcndihhlmogaaDoorSignP
import Derived.Test.YtglcndihhlmogaaDoorHSign
namespace Go.Proofs.YtglcndihhlmogaaDoor
open Go.RowKit

/-- the signs from a place on, behind those that there are; none: what stands there is no sign -/
def scan (t : ByteArray) (a br : Nat) (out : List Sign) : Option (List Sign) :=
  if h : a < t.size then
    if t[a] = 32 then scan t (a + 1) br out
    else if t[a] = 10 then scan t (a + 1) (br + 1) out
    else match hs : sgn t a with
      | none => none
      | some (k, x, n) => scan t (a + n) 0 (out ++ [⟨k, x, (a : Int), decide (1 < br)⟩])
  else some out
termination_by t.size - a
decreasing_by
  · omega
  · omega
  · have := sgn_pos hs; omega
theorem scan_end {t : ByteArray} {a br : Nat} {out : List Sign} (h : ¬ a < t.size) : scan t a br out = some out := by rw [scan, dif_neg h]
theorem scan_blank {t : ByteArray} {a br : Nat} {out : List Sign} (h : a < t.size) (hb : t[a] = 32) : scan t a br out = scan t (a + 1) br out := by rw [scan, dif_pos h, if_pos hb]
theorem scan_line {t : ByteArray} {a br : Nat} {out : List Sign} (h : a < t.size) (hb : t[a] = 10) : scan t a br out = scan t (a + 1) (br + 1) out := by rw [scan, dif_pos h, if_neg (by rw [hb]; decide), if_pos hb]
theorem scan_none {t : ByteArray} {a br : Nat} {out : List Sign} (h : a < t.size) (hb : ¬ t[a] = 32) (hl : ¬ t[a] = 10) (hs : sgn t a = none) : scan t a br out = none := by
  rw [scan, dif_pos h, if_neg hb, if_neg hl]
  split
  · rfl
  · rename_i e; rw [hs] at e; cases e
theorem scan_sign {t x : ByteArray} {a br n : Nat} {k : Int} {out : List Sign} (h : a < t.size) (hb : ¬ t[a] = 32) (hl : ¬ t[a] = 10) (hs : sgn t a = some (k, x, n)) : scan t a br out = scan t (a + n) 0 (out ++ [⟨k, x, (a : Int), decide (1 < br)⟩]) := by
  rw [scan, dif_pos h, if_neg hb, if_neg hl]
  split
  · rename_i e; rw [hs] at e; cases e
  · rename_i e; rw [hs] at e; injection e with e; injection e with e1 e2; injection e2 with e2 e3; subst e1; subst e2; subst e3; rfl
/-- the signs of a text; none: it has none, or is too long -/
def signsB (t : ByteArray) : Option (List Sign) := if 3000 < t.size then none else scan t 0 0 []
def signsL (t : ByteArray) : List Sign := (signsB t).getD []
def comma : ByteArray := ⟨#[44]⟩
/-- a comma ahead of a bracket that closes -/
def spareAt (xs : List Sign) (i : Nat) : Bool :=
  match xs[i]?, xs[i + 1]? with
  | some x, some y => (x.kind == 4) && (x.text.toList == [44]) && ((y.kind == 4) && ((y.text.toList == [41]) || (y.text.toList == [93])))
  | _, _ => false
def leftTo (xs : List Sign) : Nat → List Sign
  | 0 => []
  | i + 1 => match xs[i]? with
    | some x => if spareAt xs i then leftTo xs i else leftTo xs i ++ [x]
    | none => leftTo xs i
def leftL (xs : List Sign) : List Sign := leftTo xs xs.length
theorem leftTo_yes {xs : List Sign} {i : Nat} (h : i < xs.length) (hs : spareAt xs i = true) : leftTo xs (i + 1) = leftTo xs i := by
  simp only [leftTo, List.getElem?_eq_getElem h, if_pos hs]
theorem leftTo_no {xs : List Sign} {i : Nat} (h : i < xs.length) (hs : spareAt xs i = false) : leftTo xs (i + 1) = leftTo xs i ++ [xs[i]] := by
  simp only [leftTo, List.getElem?_eq_getElem h, hs]; rfl
theorem leftTo_len (xs : List Sign) : ∀ i, (leftTo xs i).length ≤ i
  | 0 => Nat.le_refl _
  | i + 1 => by
    have := leftTo_len xs i
    unfold leftTo
    split
    · split
      · omega
      · simp; omega
    · omega
def placesL (t : ByteArray) : List Int := (leftL (signsL t)).map fun x => x.pos
theorem scan_len {t : ByteArray} : ∀ m a br out, t.size - a = m → ∀ ls, scan t a br out = some ls → ls.length ≤ out.length + (t.size - a) := by
  intro m
  induction m using Nat.strongRecOn with
  | _ m ih =>
  intro a br out hm ls h
  by_cases ha : a < t.size
  · by_cases hb : t[a] = 32
    · rw [scan_blank ha hb] at h
      have := ih (t.size - (a + 1)) (by omega) (a + 1) br out rfl ls h
      omega
    · by_cases hl : t[a] = 10
      · rw [scan_line ha hl] at h
        have := ih (t.size - (a + 1)) (by omega) (a + 1) (br + 1) out rfl ls h
        omega
      · cases hs : sgn t a with
        | none => rw [scan_none ha hb hl hs] at h; cases h
        | some v =>
          obtain ⟨k, x, n⟩ := v
          rw [scan_sign ha hb hl hs] at h
          have hp := sgn_pos hs
          have := ih (t.size - (a + n)) (by omega) (a + n) 0 _ rfl ls h
          rw [List.length_append] at this
          simp at this
          omega
  · rw [scan_end ha] at h
    injection h with h
    subst h
    omega
theorem signsL_len (t : ByteArray) : (signsL t).length ≤ 3000 := by
  unfold signsL signsB
  split
  · simp
  · cases h : scan t 0 0 [] with
    | none => simp
    | some ls => have := scan_len _ 0 0 [] rfl ls h; simp at this ⊢; omega
theorem placesL_len (t : ByteArray) : (placesL t).length ≤ 3000 := by
  unfold placesL leftL
  rw [List.length_map]
  exact Nat.le_trans (leftTo_len _ _) (signsL_len t)
/-- where a place went -/
def wentL (xs ys : List Int) (at_ : Int) : Nat → Int
  | 0 => -1
  | k + 1 => match xs[k]? with
    | some x => if x ≤ at_ then ys.getD k 0 else wentL xs ys at_ k
    | none => wentL xs ys at_ k
theorem went_yes {xs ys : List Int} {a : Int} {k : Nat} (h : k < xs.length) (hx : xs.getD k 0 ≤ a) : wentL xs ys a (k + 1) = ys.getD k 0 := by
  have e : xs.getD k 0 = xs[k] := by rw [List.getD_eq_getElem?_getD, List.getElem?_eq_getElem h]; rfl
  rw [e] at hx
  simp only [wentL, List.getElem?_eq_getElem h, if_pos hx]
theorem went_no {xs ys : List Int} {a : Int} {k : Nat} (h : k < xs.length) (hx : ¬ xs.getD k 0 ≤ a) : wentL xs ys a (k + 1) = wentL xs ys a k := by
  have e : xs.getD k 0 = xs[k] := by rw [List.getD_eq_getElem?_getD, List.getElem?_eq_getElem h]; rfl
  rw [e] at hx
  simp only [wentL, List.getElem?_eq_getElem h, if_neg hx]
def wentTo (a b : ByteArray) (at_ : Int) : Int := if (placesL a).length = (placesL b).length then wentL (placesL a) (placesL b) at_ (placesL a).length else -1
/-- the marks of the reference, in its order -/
def marksA : List ByteArray := marks2 ++ marks1
def markHit (t : ByteArray) (a : Nat) (m : ByteArray) : Bool := decide (a + m.size ≤ t.size) && ((t.extract a (a + m.size)).toList == m.toList)
theorem inMarks_get {ms : List ByteArray} {x : ByteArray} (h : inMarks ms x = true) : ∃ i, ∃ h : i < ms.length, x = ms[i] := by
  unfold inMarks at h
  rw [List.any_eq_true] at h
  obtain ⟨m, hm, e⟩ := h
  obtain ⟨i, hi, rfl⟩ := List.mem_iff_getElem.1 hm
  exact ⟨i, hi, str_eq.1 e⟩
theorem inMarks_of {ms : List ByteArray} {i : Nat} (h : i < ms.length) : inMarks ms ms[i] = true := by
  unfold inMarks
  rw [List.any_eq_true]
  exact ⟨ms[i], List.getElem_mem h, str_yes rfl⟩
theorem extract_short {t m : ByteArray} {a n : Nat} (h : t.extract a (a + n) = m) (hn : m.size = n) (hp : 0 < n) : a + n ≤ t.size := by
  have e := congrArg (fun b : ByteArray => b.data.toList.length) h
  simp only [Lib.extract_data, List.length_take, List.length_drop, lsize] at e
  omega
theorem hit_of {t m : ByteArray} {a n : Nat} (h : t.extract a (a + n) = m) (hn : m.size = n) (hp : 0 < n) : markHit t a m = true := by
  unfold markHit
  rw [hn, h, decide_eq_true (extract_short h hn hp), str_yes rfl]; rfl
theorem marks2_sz : ∀ i (h : i < marks2.length), marks2[i].size = 2 := by decide
theorem marks1_sz : ∀ i (h : i < marks1.length), marks1[i].size = 1 := by decide
theorem marksA_get2 : ∀ i (h : i < marks2.length), marksA.getD i ⟨#[]⟩ = marks2[i] := by decide
theorem marksA_get1 : ∀ i (h : i < marks1.length), marksA.getD (i + 5) ⟨#[]⟩ = marks1[i] := by decide
theorem mark_miss {t : ByteArray} {a : Nat} (h : ∀ s, s < 21 → markHit t a (marksA.getD s ⟨#[]⟩) = false) : markAt t a = none := by
  have n2 : inMarks marks2 (t.extract a (a + 2)) = false := by
    cases g : inMarks marks2 (t.extract a (a + 2)) with
    | false => rfl
    | true =>
      obtain ⟨i, hi, e⟩ := inMarks_get g
      have := h i (by have : marks2.length = 5 := rfl; omega)
      rw [marksA_get2 i hi, hit_of e (marks2_sz i hi) (by omega)] at this
      cases this
  have n1 : inMarks marks1 (t.extract a (a + 1)) = false := by
    cases g : inMarks marks1 (t.extract a (a + 1)) with
    | false => rfl
    | true =>
      obtain ⟨i, hi, e⟩ := inMarks_get g
      have := h (i + 5) (by have : marks1.length = 16 := rfl; omega)
      rw [marksA_get1 i hi, hit_of e (marks1_sz i hi) (by omega)] at this
      cases this
  unfold markAt markLen
  rw [n2, n1]; rfl
theorem mark_hit {t : ByteArray} {a j : Nat} (hj : j < 21) (h : ∀ s, s < j → markHit t a (marksA.getD s ⟨#[]⟩) = false) (hh : markHit t a (marksA.getD j ⟨#[]⟩) = true) : markAt t a = some (4, marksA.getD j ⟨#[]⟩, (marksA.getD j ⟨#[]⟩).size) ∧ 0 < (marksA.getD j ⟨#[]⟩).size := by
  unfold markHit at hh
  rw [Bool.and_eq_true, decide_eq_true_iff] at hh
  have he := str_eq.1 hh.2
  by_cases h5 : j < 5
  · have hi : j < marks2.length := h5
    rw [marksA_get2 j hi] at he ⊢
    have hz := marks2_sz j hi
    rw [hz] at he ⊢
    unfold markAt markLen
    rw [he, inMarks_of hi]
    simp only [if_true]
    exact ⟨by rw [if_neg (by decide), he], by decide⟩
  · obtain ⟨i, rfl⟩ : ∃ i, j = i + 5 := ⟨j - 5, by omega⟩
    have hi : i < marks1.length := by have : marks1.length = 16 := rfl; omega
    have n2 : inMarks marks2 (t.extract a (a + 2)) = false := by
      cases g : inMarks marks2 (t.extract a (a + 2)) with
      | false => rfl
      | true =>
        obtain ⟨q, hq, e⟩ := inMarks_get g
        have := h q (by have : marks2.length = 5 := rfl; omega)
        rw [marksA_get2 q hq, hit_of e (marks2_sz q hq) (by omega)] at this
        cases this
    rw [marksA_get1 i hi] at he ⊢
    have hz := marks1_sz i hi
    rw [hz] at he ⊢
    unfold markAt markLen
    rw [n2, he, inMarks_of hi]
    simp only [if_true]
    exact ⟨by simp [he], by decide⟩
end Go.Proofs.YtglcndihhlmogaaDoor
