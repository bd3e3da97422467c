/- Neat, said of lists. -/
import Derived.Test.YtgcgipbjmobekaaDoorLinesP
import Derived.Test.YtgcgipbjmobekaaDoorPlain
import Derived.Lib.TrimByte
namespace Go.Proofs.YtgcgipbjmobekaaDoor

/-- the last byte is c -/
def lastIs (c : UInt8) (s : ByteArray) : Bool := Lib.hasSuffix s.data.toList [c]
theorem suffix_snoc (xs : List UInt8) (b c : UInt8) : Lib.hasSuffix (xs ++ [b]) [c] = (b == c) := by
  unfold Lib.hasSuffix List.isSuffixOf
  rw [List.reverse_append]
  show (c == b && List.isPrefixOf [] xs.reverse) = _
  rw [List.isPrefixOf_nil_left, Bool.and_true]
  exact Bool.eq_iff_iff.2 ⟨fun h => by simpa using (beq_iff_eq.1 h).symm, fun h => by simpa using (beq_iff_eq.1 h).symm⟩
theorem suffix_nil (c : UInt8) : Lib.hasSuffix [] [c] = false := rfl
theorem trim_snoc_yes (xs : List UInt8) (c : UInt8) : Lib.trimRightB (xs ++ [c]) c = Lib.trimRightB xs c := by simp [Lib.trimRightB]
theorem trim_snoc_no (xs : List UInt8) {b c : UInt8} (h : b ≠ c) : Lib.trimRightB (xs ++ [b]) c = xs ++ [b] := by simp [Lib.trimRightB, h]
theorem trim_nil (c : UInt8) : Lib.trimRightB [] c = [] := rfl
theorem dropWhile_le {α : Type} (p : α → Bool) (xs : List α) : (xs.dropWhile p).length ≤ xs.length := by
  induction xs with
  | nil => exact Nat.le_refl _
  | cons x xs ih =>
    rw [List.dropWhile]
    split
    · exact Nat.le_succ_of_le ih
    · exact Nat.le_refl _
theorem trim_len (xs : List UInt8) (c : UInt8) : (Lib.trimRightB xs c).length ≤ xs.length := by
  unfold Lib.trimRightB
  rw [List.length_reverse]
  exact Nat.le_trans (dropWhile_le _ _) (by simp)
theorem snoc_cases (l : List UInt8) : l = [] ∨ ∃ xs b, l = xs ++ [b] := by
  rcases List.eq_nil_or_concat l with h | ⟨xs, b, h⟩
  · exact .inl h
  · exact .inr ⟨xs, b, by rw [h, List.concat_eq_append]⟩
theorem trim_eq_iff (l : List UInt8) (c : UInt8) : Lib.trimRightB l c = l ↔ Lib.hasSuffix l [c] = false := by
  rcases snoc_cases l with rfl | ⟨xs, b, rfl⟩
  · exact ⟨fun _ => rfl, fun _ => rfl⟩
  · rw [suffix_snoc]
    by_cases h : b = c
    · subst h
      rw [trim_snoc_yes]
      constructor
      · intro e
        have h1 := trim_len xs b
        have h2 := congrArg List.length e
        simp at h2
        omega
      · intro e; simp at e
    · rw [trim_snoc_no xs h]
      exact ⟨fun _ => by simpa using h, fun _ => rfl⟩
def trimT (s : ByteArray) : ByteArray := ⟨(Lib.trimRightB s.data.toList 32).toArray⟩
theorem trimT_eq (s : ByteArray) : trimT s = s ↔ lastIs 32 s = false := by
  rw [lastIs, ← trim_eq_iff]
  obtain ⟨⟨l⟩⟩ := s
  constructor
  · intro h
    exact congrArg (fun b : ByteArray => b.data.toList) h
  · intro h
    show (⟨(Lib.trimRightB l 32).toArray⟩ : ByteArray) = ⟨⟨l⟩⟩
    rw [show Lib.trimRightB l 32 = l from h]
def atB (xs : List ByteArray) (i : Nat) : ByteArray := xs.getD i ⟨#[]⟩
theorem atB_lt {xs : List ByteArray} {i : Nat} (h : i < xs.length) : atB xs i = xs[i] := by simp [atB, List.getD, h]
def empB (s : ByteArray) : Bool := s.data.toList.isEmpty
theorem empB_yes {s : ByteArray} (h : s = ⟨#[]⟩) : empB s = true := by subst h; rfl
theorem empB_no {s : ByteArray} (h : ¬ s = ⟨#[]⟩) : empB s = false := by
  obtain ⟨⟨l⟩⟩ := s
  cases l with
  | nil => exact absurd rfl h
  | cons a l => rfl
def lineOk (x : ByteArray) : Bool := plainB x && !lastIs 32 x
/-- as the program looks at line i -/
def neatI (xs : List ByteArray) (i : Nat) : Bool := lineOk (atB xs i) && !(empB (atB xs i) && (decide (i = 0) || decide (i + 1 = xs.length) || empB (atB xs (i - 1))))
/-- as the reference does -/
def neatS (xs : List ByteArray) (i : Nat) : Bool := lineOk (atB xs i) && !(empB (atB xs i) && (decide (i + 1 = xs.length) || empB (atB xs (i + 1))))
def allI (xs : List ByteArray) : Bool := (List.range xs.length).all (neatI xs)
def allS (xs : List ByteArray) : Bool := (List.range xs.length).all (neatS xs)
theorem neat_same (xs : List ByteArray) : allI xs = (allS xs && !(decide (0 < xs.length) && empB (atB xs 0))) := by
  rw [Bool.eq_iff_iff]
  unfold allI allS neatI neatS
  simp only [List.all_eq_true, List.mem_range, Bool.and_eq_true, Bool.not_eq_true', Bool.and_eq_false_iff, Bool.or_eq_false_iff, decide_eq_false_iff_not]
  constructor
  · intro h
    refine ⟨fun i hi => ⟨(h i hi).1, ?_⟩, ?_⟩
    · cases he : empB (atB xs i) with
      | false => exact .inl rfl
      | true =>
        obtain ⟨⟨a, b⟩, c⟩ := (h i hi).2.resolve_left (by rw [he]; decide)
        refine .inr ⟨b, ?_⟩
        cases hf : empB (atB xs (i + 1)) with
        | false => rfl
        | true =>
          obtain ⟨_, d⟩ := (h (i + 1) (by omega)).2.resolve_left (by rw [hf]; decide)
          rw [Nat.add_sub_cancel, he] at d
          cases d
    · by_cases hn : 0 < xs.length
      · refine .inr ?_
        cases he : empB (atB xs 0) with
        | false => rfl
        | true =>
          obtain ⟨⟨a, _⟩, _⟩ := (h 0 hn).2.resolve_left (by rw [he]; decide)
          exact absurd rfl a
      · exact .inl hn
  · rintro ⟨h, h0⟩ i hi
    refine ⟨(h i hi).1, ?_⟩
    cases he : empB (atB xs i) with
    | false => exact .inl rfl
    | true =>
      have hne : i ≠ 0 := by
        rintro rfl
        rcases h0 with h0 | h0
        · exact h0 hi
        · rw [h0] at he; cases he
      obtain ⟨b, _⟩ := (h i hi).2.resolve_left (by rw [he]; decide)
      refine .inr ⟨⟨hne, b⟩, ?_⟩
      cases hf : empB (atB xs (i - 1)) with
      | false => rfl
      | true =>
        obtain ⟨_, d⟩ := (h (i - 1) (by omega)).2.resolve_left (by rw [hf]; decide)
        rw [show i - 1 + 1 = i by omega, he] at d
        cases d
theorem ln_head (l : List UInt8) : ∀ cur, cur ≠ [] → ∃ h t, ln cur l = h :: t ∧ h ≠ [] := by
  induction l with
  | nil => intro cur hc; exact ⟨cur, [], by cases cur with | nil => exact absurd rfl hc | cons a b => rfl, hc⟩
  | cons b l ih =>
    intro cur hc
    by_cases h : b == 10
    · exact ⟨cur, ln [] l, by simp only [ln, h, if_true], hc⟩
    · have h' : (b == 10) = false := by simpa using h
      obtain ⟨x, t, h1, h2⟩ := ih (cur ++ [b]) (by simp)
      exact ⟨x, t, by simp only [ln, h']; exact h1, h2⟩
/-- the first byte is 10 -/
def firstIs (s : ByteArray) : Bool := s.data.toList.head? == some 10
theorem first_line (s : ByteArray) (h : s.data.toList ≠ []) : (decide (0 < (linesB s).length) && empB (atB (linesB s) 0)) = firstIs s := by
  unfold firstIs linesB
  cases hl : s.data.toList with
  | nil => exact absurd hl h
  | cons b l =>
    by_cases hb : b = 10
    · subst hb
      rw [ln_end]
      rfl
    · rw [ln_other _ _ hb]
      obtain ⟨x, t, h1, h2⟩ := ln_head l ([] ++ [b]) (by simp)
      rw [h1]
      have e : empB (mkb x) = false := empB_no (by
        intro e
        have := congrArg (fun b : ByteArray => b.data.toList) e
        exact h2 (by simpa [mkb] using this))
      show (decide (0 < (t.map mkb).length + 1) && empB (mkb x)) = _
      rw [e]
      simp [hb]
def neatB (s : ByteArray) : Bool := empB s || (lastIs 10 s && !firstIs s && allS (linesB s))
theorem neat_impl_is (s : ByteArray) : neatB s = ((empB s || lastIs 10 s) && allI (linesB s)) := by
  unfold neatB
  cases he : empB s with
  | true =>
    have : linesB s = [] := by
      unfold empB at he
      unfold linesB
      rw [List.isEmpty_iff.1 he]
      rfl
    rw [this]
    rfl
  | false =>
    have hne : s.data.toList ≠ [] := by
      intro e
      unfold empB at he
      rw [e] at he
      cases he
    rw [neat_same, first_line s hne]
    cases lastIs 10 s <;> cases firstIs s <;> cases allS (linesB s) <;> rfl
end Go.Proofs.YtgcgipbjmobekaaDoor
