/- Words, said of lists: the pieces between blanks; the words that may be put into lines; lines that are filled one behind the other. -/
import Derived.Test.YtoloplpmjcgbdaaGreatDoorBase
namespace Go.Proofs.YtoloplpmjcgbdaaGreatDoor

def flushW (cur : List UInt8) : List (List UInt8) := if cur.isEmpty then [] else [cur]
/-- the words in bs, where cur has been read already of the first one -/
def wd (cur : List UInt8) : List UInt8 → List (List UInt8)
  | [] => flushW cur
  | b :: bs => if b == 32 then flushW cur ++ wd [] bs else wd (cur ++ [b]) bs
theorem wd_blank (cur bs : List UInt8) : wd cur (32 :: bs) = flushW cur ++ wd [] bs := rfl
theorem wd_other {b : UInt8} (cur bs : List UInt8) (h : b ≠ 32) : wd cur (b :: bs) = wd (cur ++ [b]) bs := by
  rw [wd, if_neg (by simpa using h)]
theorem flush_cons (c : UInt8) (cs : List UInt8) : flushW (c :: cs) = [c :: cs] := rfl
theorem flush_snoc (cs : List UInt8) (c : UInt8) : flushW (cs ++ [c]) = [cs ++ [c]] := by
  unfold flushW
  rw [if_neg (by simp)]
theorem flush_pos {cs : List UInt8} (h : 0 < cs.length) : flushW cs = [cs] := by
  cases cs with
  | nil => simp at h
  | cons c cs => rfl
theorem wd_none (bs : List UInt8) (h : (32 : UInt8) ∉ bs) : ∀ cur, wd cur bs = flushW (cur ++ bs) := by
  induction bs with
  | nil => intro cur; rw [List.append_nil]; rfl
  | cons b bs ih =>
    intro cur
    rw [wd_other _ _ (fun e => h (by simp [e])), ih (fun hm => h (by simp [hm])), List.append_assoc]
    rfl
def lenSum (xs : List (List UInt8)) : Nat := (xs.map List.length).sum
theorem lenSum_append (xs ys : List (List UInt8)) : lenSum (xs ++ ys) = lenSum xs + lenSum ys := by simp [lenSum]
theorem lenSum_flush (cur : List UInt8) : lenSum (flushW cur) = cur.length := by
  cases cur <;> simp [lenSum, flushW]
theorem wd_sum (bs : List UInt8) : ∀ cur, lenSum (wd cur bs) ≤ cur.length + bs.length := by
  induction bs with
  | nil => intro cur; show lenSum (flushW cur) ≤ _; rw [lenSum_flush]; simp
  | cons b bs ih =>
    intro cur
    rw [wd]
    split
    · rw [lenSum_append, lenSum_flush]
      have := ih []
      simp at this ⊢
      omega
    · have := ih (cur ++ [b])
      simp at this ⊢
      omega
theorem wd_sum_lt (bs : List UInt8) (h : (32 : UInt8) ∈ bs) : ∀ cur, lenSum (wd cur bs) < cur.length + bs.length := by
  induction bs with
  | nil => simp at h
  | cons b bs ih =>
    intro cur
    rw [wd]
    split
    · rw [lenSum_append, lenSum_flush]
      have := wd_sum bs []
      simp at this ⊢
      omega
    · next hb =>
      have h' : (32 : UInt8) ∈ bs := by
        rcases List.mem_cons.1 h with e | h
        · exact absurd (by simp [← e]) hb
        · exact h
      have := ih h' (cur ++ [b])
      simp at this ⊢
      omega
theorem flush_len (cur : List UInt8) : (flushW cur).length ≤ cur.length := by
  cases cur with
  | nil => exact Nat.le_refl _
  | cons c cs => simp [flushW]
theorem wd_len (bs : List UInt8) : ∀ cur, (wd cur bs).length ≤ cur.length + bs.length := by
  induction bs with
  | nil => intro cur; show (flushW cur).length ≤ _; have := flush_len cur; simp; omega
  | cons b bs ih =>
    intro cur
    rw [wd]
    split
    · have := ih []
      have := flush_len cur
      simp at *
      omega
    · have := ih (cur ++ [b])
      simp at this ⊢
      omega

/-- the words of a text -/
def wordsB (s : ByteArray) : List ByteArray := (wd [] s.data.toList).map fun l => ⟨l.toArray⟩
theorem size_list (s : ByteArray) : s.size = s.data.toList.length := by rw [Array.length_toList]; rfl
theorem wordsB_len (s : ByteArray) : (wordsB s).length ≤ s.size := by
  unfold wordsB
  rw [List.length_map, size_list]
  have := wd_len s.data.toList []
  rwa [List.length_nil, Nat.zero_add] at this
/-- a word that may be put into a line -/
def fineW (s : ByteArray) : Bool := !s.data.toList.isEmpty && !s.data.toList.contains 32
theorem fine_words {s : ByteArray} (h : s.data.toList ≠ []) : fineW s = (match wordsB s with | [x] => x.size == s.size | _ => false) := by
  unfold fineW wordsB
  have he : s.data.toList.isEmpty = false := by cases hs : s.data.toList <;> simp_all
  rw [he]
  by_cases hb : (32 : UInt8) ∈ s.data.toList
  · rw [List.contains_iff_mem.2 hb]
    have h1 := wd_sum_lt _ hb []
    generalize wd [] s.data.toList = ws at *
    cases ws with
    | nil => rfl
    | cons x xs =>
      cases xs with
      | nil =>
        have e : lenSum [x] = x.length := by simp [lenSum]
        rw [e, List.length_nil, Nat.zero_add] at h1
        show _ = (x.toArray.size == s.size)
        rw [List.size_toArray, size_list]
        have : (x.length == s.data.toList.length) = false := beq_eq_false_iff_ne.2 (by omega)
        rw [this]
        rfl
      | cons y ys => rfl
  · have hc : s.data.toList.contains 32 = false := by
      cases hc : s.data.toList.contains 32 with
      | false => rfl
      | true => exact absurd (List.contains_iff_mem.1 hc) hb
    rw [hc, wd_none _ hb, List.nil_append]
    have hp : 0 < s.data.toList.length := (List.length_pos_iff.2 h)
    rw [flush_pos hp]
    show true = (s.data.toList.toArray.size == s.size)
    rw [List.size_toArray, size_list]
    simp
def okWords (ws : List ByteArray) : Bool := ws.all fineW && decide (ws.length ≤ 60)

/-- what one word more makes of lines; 'ahead' bytes stand ahead of each -/
def growL (ahead width : Int) (ls : List ByteArray) (x : ByteArray) : List ByteArray :=
  match ls.getLast? with
  | none => [x]
  | some l => if ahead + l.size + 1 + x.size ≤ width then ls.dropLast ++ [l ++ (⟨#[32]⟩ ++ x)] else ls ++ [x]
def fillL (ahead width : Int) (ws : List ByteArray) : List ByteArray := ws.foldl (growL ahead width) []
def greedyL (ahead width : Int) (ws : List ByteArray) : List ByteArray := if okWords ws then fillL ahead width ws else []
theorem fillL_succ (ahead width : Int) (ws : List ByteArray) (k : Nat) (h : k < ws.length) : fillL ahead width (ws.take (k + 1)) = growL ahead width (fillL ahead width (ws.take k)) ws[k] := by
  unfold fillL
  rw [List.take_succ_eq_append_getElem h, List.foldl_append]
  rfl
theorem growL_snoc_yes {ahead width : Int} {out : List ByteArray} {l x : ByteArray} (h : ahead + l.size + 1 + x.size ≤ width) : growL ahead width (out ++ [l]) x = out ++ [l ++ (⟨#[32]⟩ ++ x)] := by
  unfold growL
  simp [h]
theorem growL_snoc_no {ahead width : Int} {out : List ByteArray} {l x : ByteArray} (h : ¬ ahead + l.size + 1 + x.size ≤ width) : growL ahead width (out ++ [l]) x = out ++ [l] ++ [x] := by
  unfold growL
  simp [h]
theorem growL_nil {ahead width : Int} {x : ByteArray} : growL ahead width [] x = [x] := rfl
theorem snoc_of {α : Type} {ls : List α} (h : ls ≠ []) : ∃ out l, ls = out ++ [l] := ⟨ls.dropLast, ls.getLast h, (List.dropLast_concat_getLast h).symm⟩
theorem growL_ne {ahead width : Int} {ls : List ByteArray} {x : ByteArray} : growL ahead width ls x ≠ [] := by
  by_cases h : ls = []
  · subst h; simp [growL]
  · obtain ⟨out, l, rfl⟩ := snoc_of h
    by_cases hc : ahead + l.size + 1 + x.size ≤ width
    · rw [growL_snoc_yes hc]; simp
    · rw [growL_snoc_no hc]; simp
def szSum (ls : List ByteArray) : Nat := sumOf (fun x : ByteArray => x.size) ls
theorem szSum_append (xs ys : List ByteArray) : szSum (xs ++ ys) = szSum xs + szSum ys := by simp [szSum, sumOf]
theorem szSum_one (x : ByteArray) : szSum [x] = x.size := by simp [szSum, sumOf]
theorem growL_sum (ahead width : Int) (ls : List ByteArray) (x : ByteArray) : szSum (growL ahead width ls x) ≤ szSum ls + x.size + 1 ∧ (growL ahead width ls x).length ≤ ls.length + 1 := by
  by_cases h : ls = []
  · subst h; simp [growL, szSum_one]; omega
  · obtain ⟨out, l, rfl⟩ := snoc_of h
    by_cases hc : ahead + l.size + 1 + x.size ≤ width
    · rw [growL_snoc_yes hc, szSum_append, szSum_append, szSum_one, szSum_one]
      have : (l ++ (⟨#[32]⟩ ++ x) : ByteArray).size = l.size + (1 + x.size) := by
        rw [ByteArray.size_append, ByteArray.size_append]; rfl
      rw [List.length_append, List.length_append, List.length_singleton, List.length_singleton]
      omega
    · rw [growL_snoc_no hc, szSum_append, szSum_one, List.length_append, List.length_singleton]
      omega
theorem fillL_sum (ahead width : Int) (ws : List ByteArray) (k : Nat) (h : k ≤ ws.length) : szSum (fillL ahead width (ws.take k)) ≤ szSum ws + ws.length ∧ (fillL ahead width (ws.take k)).length ≤ k ∧ szSum (fillL ahead width (ws.take k)) ≤ szSum (ws.take k) + k := by
  induction k with
  | zero => simp [fillL, szSum, sumOf]
  | succ k ih =>
    obtain ⟨_, i2, i3⟩ := ih (by omega)
    have h1 := growL_sum ahead width (fillL ahead width (ws.take k)) ws[k]
    have h2 : szSum (ws.take (k + 1)) = szSum (ws.take k) + ws[k].size := sumOf_succ _ ws k h
    have h3 : szSum (ws.take (k + 1)) ≤ szSum ws := sumOf_le _ ws (k + 1)
    rw [fillL_succ _ _ _ _ h]
    omega
theorem fillL_ne (ahead width : Int) (ws : List ByteArray) (k : Nat) (h : k < ws.length) : fillL ahead width (ws.take (k + 1)) ≠ [] := by
  rw [fillL_succ _ _ _ _ h]
  exact growL_ne
theorem last_sum (out : List ByteArray) (l : ByteArray) : l.size ≤ szSum (out ++ [l]) := by
  rw [szSum_append, szSum_one]; omega
theorem greedyL_len (ahead width : Int) (ws : List ByteArray) : (greedyL ahead width ws).length ≤ ws.length := by
  unfold greedyL
  split
  · have := (fillL_sum ahead width ws ws.length (Nat.le_refl _)).2.1
    rwa [List.take_length] at this
  · simp
theorem greedyL_room (ahead width : Int) (ws : List ByteArray) : greedyL ahead width ws = greedyL 0 (if width > ahead then width - ahead else 0) ws := by
  unfold greedyL fillL
  have e : growL ahead width = growL 0 (if width > ahead then width - ahead else 0) := by
    funext ls x
    unfold growL
    cases ls.getLast? with
    | none => rfl
    | some l =>
      simp only
      by_cases hw : width > ahead
      · rw [if_pos hw]
        by_cases hc : ahead + l.size + 1 + x.size ≤ width
        · rw [if_pos hc, if_pos (by omega)]
        · rw [if_neg hc, if_neg (by omega)]
      · rw [if_neg hw, if_neg (by omega), if_neg (by omega)]
  rw [e]
end Go.Proofs.YtoloplpmjcgbdaaGreatDoor
