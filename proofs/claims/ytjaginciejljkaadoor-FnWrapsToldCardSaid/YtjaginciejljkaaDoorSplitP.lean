/- strings.Split at one byte, said of lists; words and lines out of it. -/
import Derived.Test.YtjaginciejljkaaDoorWordsP
import Derived.Lib.SplitLaws
import Derived.Lib.IndexBytes
namespace Go.Proofs.YtjaginciejljkaaDoor

/-- a list cut at each c; cur has been read already of the first piece -/
def sp (c : UInt8) (cur : List UInt8) : List UInt8 → List (List UInt8)
  | [] => [cur]
  | b :: bs => if b == c then cur :: sp c [] bs else sp c (cur ++ [b]) bs
def onHead (pre : List UInt8) : List (List UInt8) → List (List UInt8)
  | [] => []
  | h :: t => (pre ++ h) :: t
theorem onHead_two (a b : List UInt8) (xs : List (List UInt8)) : onHead a (onHead b xs) = onHead (a ++ b) xs := by
  cases xs with
  | nil => rfl
  | cons h t => simp [onHead, List.append_assoc]
theorem onHead_nil (xs : List (List UInt8)) : onHead [] xs = xs := by cases xs <;> rfl
theorem sp_pre (c : UInt8) (l : List UInt8) : ∀ cur, sp c cur l = onHead cur (sp c [] l) := by
  induction l with
  | nil => intro cur; simp [sp, onHead]
  | cons b l ih =>
    intro cur
    by_cases h : b == c
    · simp only [sp, h, if_true]
      simp [onHead]
    · have h' : (b == c) = false := by simpa using h
      simp only [sp, h']
      show sp c (cur ++ [b]) l = onHead cur (sp c ([] ++ [b]) l)
      rw [ih (cur ++ [b]), ih ([] ++ [b]), onHead_two]
      rfl
theorem splitK_other {b c : UInt8} (h : b ≠ c) (n : Nat) (l : List UInt8) : Lib.splitK [c] 0 n (b :: l) = onHead [b] (Lib.splitK [c] 0 n l) := by
  cases n with
  | zero => rfl
  | succ n =>
    have hi : Lib.index (b :: l) [c] = if Lib.index l [c] == -1 then -1 else Lib.index l [c] + 1 := by
      rw [Lib.index_one, Lib.index_one]
      show (if b == c then _ else _) = _
      rw [if_neg (by simpa using h)]
    have hge := Lib.index_ge l [c]
    unfold Lib.splitK
    rw [hi]
    by_cases hm : Lib.index l [c] == -1
    · simp [hm, onHead]
    · have hm' : ¬ (Lib.index l [c]) = -1 := by simpa using hm
      obtain ⟨i, hi2⟩ := Int.eq_ofNat_of_zero_le (show 0 ≤ Lib.index l [c] by omega)
      rw [if_neg hm, if_neg (by simp; omega), if_neg hm, hi2]
      have e : ((i : Int) + 1).toNat = i + 1 := by omega
      rw [e]
      simp [onHead]
theorem split_one (c : UInt8) (l : List UInt8) : Lib.split l [c] = sp c [] l := by
  unfold Lib.split
  induction l with
  | nil => rw [Lib.count_one]; rfl
  | cons b l ih =>
    by_cases h : b = c
    · subst h
      rw [Lib.count_cons_eq, Nat.add_comm]
      have h0 : Lib.index (b :: l) [b] = 0 := by
        rw [Lib.index_one]
        show (if b == b then _ else _) = _
        simp
      unfold Lib.splitK
      rw [h0, if_neg (by decide)]
      show [] :: Lib.splitK [b] 0 (Lib.count l [b]) l = _
      rw [ih]
      simp [sp]
    · rw [Lib.count_cons_ne _ _ _ h, splitK_other h, ih]
      have h' : (b == c) = false := by simpa using h
      simp only [sp, h']
      show _ = sp c ([] ++ [b]) l
      rw [sp_pre c l ([] ++ [b])]
      rfl
/-- the pieces of a text between the bytes c -/
def pieces (c : UInt8) (s : ByteArray) : List ByteArray := Lib.splitB ⟨#[c]⟩ 0 (Lib.countB s ⟨#[c]⟩) s
theorem pieces_data (c : UInt8) (s : ByteArray) : (pieces c s).map (·.data.toList) = sp c [] s.data.toList := by
  rw [pieces, Lib.splitB_data, ← split_one]
  rfl
theorem pieces_len (c : UInt8) (s : ByteArray) : (pieces c s).length = Lib.countB s ⟨#[c]⟩ + 1 := Lib.splitB_all ⟨#[c]⟩ (Nat.le_refl 1) 0 _ s rfl
theorem pieces_le (c : UInt8) (s : ByteArray) : (pieces c s).length ≤ s.size + 1 := by
  rw [pieces_len]
  have := Lib.countB_le ⟨#[c]⟩ (Nat.le_refl 1) s.size s (Nat.le_refl _)
  omega
theorem mk_data (x : ByteArray) : (⟨x.data.toList.toArray⟩ : ByteArray) = x := by obtain ⟨⟨l⟩⟩ := x; rfl
theorem pieces_map (c : UInt8) (s : ByteArray) : pieces c s = (sp c [] s.data.toList).map fun l => ⟨l.toArray⟩ := by
  rw [← pieces_data, List.map_map]
  conv => lhs; rw [← List.map_id (pieces c s)]
  exact List.map_congr_left fun x _ => (mk_data x).symm
def full (x : ByteArray) : Bool := !x.data.toList.isEmpty
theorem wd_sp (l : List UInt8) : ∀ cur, wd cur l = (sp 32 cur l).filter fun x => !x.isEmpty := by
  induction l with
  | nil => intro cur; cases cur <;> simp [wd, sp, flushW]
  | cons b l ih =>
    intro cur
    by_cases h : b == 32
    · simp only [wd, sp, h, if_true, ih]
      cases cur <;> simp [flushW]
    · have h' : (b == 32) = false := by simpa using h
      simp only [wd, sp, h', ih]
      simp
theorem words_pieces (s : ByteArray) : wordsB s = (pieces 32 s).filter full := by
  rw [wordsB, wd_sp, pieces_map, List.filter_map]
  rfl
theorem full_no {x : ByteArray} (h : x = ⟨#[]⟩) : full x = false := by subst h; rfl
theorem full_yes {x : ByteArray} (h : ¬ x = ⟨#[]⟩) : full x = true := by
  obtain ⟨⟨l⟩⟩ := x
  cases l with
  | nil => exact absurd rfl h
  | cons a l => rfl
theorem filter_yes {p : ByteArray → Bool} {xs : List ByteArray} {k : Nat} (h : k < xs.length) (hp : p xs[k] = true) : (xs.take (k + 1)).filter p = (xs.take k).filter p ++ [xs[k]] := by
  rw [List.take_succ_eq_append_getElem h, List.filter_append]; simp [hp]
theorem filter_no {p : ByteArray → Bool} {xs : List ByteArray} {k : Nat} (h : k < xs.length) (hp : p xs[k] = false) : (xs.take (k + 1)).filter p = (xs.take k).filter p := by
  rw [List.take_succ_eq_append_getElem h, List.filter_append]; simp [hp]
end Go.Proofs.YtjaginciejljkaaDoor
