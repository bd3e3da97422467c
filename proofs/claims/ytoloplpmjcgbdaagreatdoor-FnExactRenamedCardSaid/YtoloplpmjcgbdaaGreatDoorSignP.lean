/- Signs, said of texts. -/
import Derived.Test.YtoloplpmjcgbdaaGreatDoorTrimP
import Derived.Test.YtoloplpmjcgbdaaGreatDoorBytesP
import Derived.Lib.Strings
import Derived.Lib.IndexBytes
namespace Go.Proofs.YtoloplpmjcgbdaaGreatDoor
open Go.RowKit

def firstN (n : Int) : Bool := (decide (97 ≤ n) && decide (n ≤ 122)) || (decide (65 ≤ n) && decide (n ≤ 90)) || (n == 95)
def figN (n : Int) : Bool := decide (48 ≤ n) && decide (n ≤ 57)
def innerN (n : Int) : Bool := firstN n || figN n
def notNl (n : Int) : Bool := n != 10
def notQ (n : Int) : Bool := n != 39
/-- the end of the run of bytes of a kind that begins at a place -/
def runTo (p : Int → Bool) (s : ByteArray) (i : Nat) : Nat :=
  if h : i < s.size then (if p (s[i].toNat : Int) then runTo p s (i + 1) else i) else i
termination_by s.size - i
theorem runTo_step {p : Int → Bool} {s : ByteArray} {i : Nat} (h : i < s.size) (hp : p (s[i].toNat : Int) = true) : runTo p s i = runTo p s (i + 1) := by
  conv => lhs; rw [runTo, dif_pos h, if_pos hp]
theorem runTo_stop {p : Int → Bool} {s : ByteArray} {i : Nat} (h : i < s.size) (hp : p (s[i].toNat : Int) = false) : runTo p s i = i := by
  rw [runTo, dif_pos h, if_neg (by simp [hp])]
theorem runTo_end {p : Int → Bool} {s : ByteArray} {i : Nat} (h : s.size ≤ i) : runTo p s i = i := by
  rw [runTo, dif_neg (by omega)]
theorem runTo_ge' (p : Int → Bool) (s : ByteArray) : ∀ n i, s.size - i = n → i ≤ runTo p s i ∧ (i ≤ s.size → runTo p s i ≤ s.size)
  | 0, i, h => by rw [runTo_end (by omega)]; exact ⟨Nat.le_refl _, id⟩
  | n + 1, i, h => by
    have hi : i < s.size := by omega
    cases g : p (s[i].toNat : Int) with
    | true => rw [runTo_step hi g]; have := runTo_ge' p s n (i + 1) (by omega); exact ⟨by omega, fun _ => this.2 (by omega)⟩
    | false => rw [runTo_stop hi g]; exact ⟨Nat.le_refl _, id⟩
theorem runTo_ge (p : Int → Bool) (s : ByteArray) (i : Nat) : i ≤ runTo p s i := (runTo_ge' p s _ i rfl).1
theorem runTo_le {p : Int → Bool} {s : ByteArray} {i : Nat} (h : i ≤ s.size) : runTo p s i ≤ s.size := (runTo_ge' p s _ i rfl).2 h
theorem runTo_more {p : Int → Bool} {s : ByteArray} {i : Nat} (h : i < s.size) (hp : p (s[i].toNat : Int) = true) : i < runTo p s i := by
  rw [runTo_step h hp]; exact runTo_ge p s (i + 1)
theorem runTo_iff' (p : Int → Bool) (s : ByteArray) (j : Nat) (hj : j ≤ s.size) : ∀ n i, s.size - i = n → i ≤ j → (j ≤ runTo p s i ↔ ∀ k (h : k < s.size), i ≤ k → k < j → p (s[k].toNat : Int) = true)
  | 0, i, h, hij => by
    rw [runTo_end (by omega)]
    exact ⟨fun _ k hk h1 h2 => by omega, fun _ => by omega⟩
  | n + 1, i, h, hij => by
    have hi : i < s.size := by omega
    by_cases e : i = j
    · subst e
      exact ⟨fun _ k hk h1 h2 => by omega, fun _ => runTo_ge p s i⟩
    cases g : p (s[i].toNat : Int) with
    | true =>
      rw [runTo_step hi g, runTo_iff' p s j hj n (i + 1) (by omega) (by omega)]
      constructor
      · intro q k hk h1 h2
        by_cases e2 : k = i
        · subst e2; exact g
        · exact q k hk (by omega) h2
      · intro q k hk h1 h2
        exact q k hk (by omega) h2
    | false =>
      rw [runTo_stop hi g]
      constructor
      · intro q; omega
      · intro q
        have := q i hi (Nat.le_refl _) (by omega)
        rw [g] at this; cases this
theorem runTo_iff {p : Int → Bool} {s : ByteArray} {i j : Nat} (hj : j ≤ s.size) (hij : i ≤ j) : j ≤ runTo p s i ↔ ∀ k (h : k < s.size), i ≤ k → k < j → p (s[k].toNat : Int) = true := runTo_iff' p s j hj _ i rfl hij
theorem lsize (s : ByteArray) : s.data.toList.length = s.size := by rw [Array.length_toList]; rfl
theorem at_list {s : ByteArray} {k : Nat} (h : k < s.size) : s.data.toList[k]'(by rw [lsize]; exact h) = s[k] := rfl
theorem ba_ext {a b : ByteArray} (h : a.data.toList = b.data.toList) : a = b := by
  obtain ⟨⟨x⟩⟩ := a; obtain ⟨⟨y⟩⟩ := b; exact congrArg (fun l => (⟨⟨l⟩⟩ : ByteArray)) h
/-- what stands from a place on -/
def tl (t : ByteArray) (a : Nat) : ByteArray := t.extract a t.size
theorem tl_list (t : ByteArray) (a : Nat) : (tl t a).data.toList = t.data.toList.drop a := Lib.extract_to_end t a
theorem tl_size (t : ByteArray) (a : Nat) : (tl t a).size = t.size - a := by rw [← lsize, tl_list, List.length_drop, lsize]
theorem tl_zero (t : ByteArray) : tl t 0 = t := ba_ext (by rw [tl_list]; rfl)
theorem tl_at {t : ByteArray} {a i : Nat} (h : i < (tl t a).size) : (tl t a)[i] = t[a + i]'(by rw [tl_size] at h; omega) := by
  have h2 : a + i < t.size := by rw [tl_size] at h; omega
  rw [← at_list h, ← at_list h2]
  have e : (tl t a).data.toList[i]? = t.data.toList[a + i]? := by rw [tl_list, List.getElem?_drop]
  rw [List.getElem?_eq_getElem (by rw [lsize]; exact h), List.getElem?_eq_getElem (by rw [lsize]; exact h2)] at e
  exact Option.some.inj e
theorem tl_extract (t : ByteArray) (a i j : Nat) : (tl t a).extract i j = t.extract (a + i) (a + j) := by
  apply ba_ext
  rw [Lib.extract_data, Lib.extract_data, tl_list, List.drop_drop, show a + j - (a + i) = j - i by omega]
theorem runTo_tl' (p : Int → Bool) (t : ByteArray) (a : Nat) : ∀ n i, t.size - (a + i) = n → a + runTo p (tl t a) i = runTo p t (a + i)
  | 0, i, h => by rw [runTo_end (by rw [tl_size]; omega), runTo_end (by omega)]
  | n + 1, i, h => by
    have h1 : a + i < t.size := by omega
    have h2 : i < (tl t a).size := by rw [tl_size]; omega
    cases g : p (t[a + i].toNat : Int) with
    | true => rw [runTo_step h1 g, runTo_step h2 (by rw [tl_at h2]; exact g), runTo_tl' p t a n (i + 1) (by omega)]; rfl
    | false => rw [runTo_stop h1 g, runTo_stop h2 (by rw [tl_at h2]; exact g)]
theorem runTo_tl (p : Int → Bool) (t : ByteArray) (a i : Nat) : a + runTo p (tl t a) i = runTo p t (a + i) := runTo_tl' p t a _ i rfl
/-- a piece of a text is plain -/
theorem plain_piece {t : ByteArray} {i j : Nat} (hj : j ≤ t.size) (hij : i ≤ j) : plainB (t.extract i j) = decide (j ≤ runTo plainN t i) := by
  rw [Bool.eq_iff_iff, decide_eq_true_iff, runTo_iff hj hij]
  unfold plainB
  rw [Lib.extract_data, List.all_eq_true]
  constructor
  · intro q k hk h1 h2
    rw [plainN_byte]
    apply q
    rw [List.mem_iff_getElem?]
    refine ⟨k - i, ?_⟩
    rw [List.getElem?_take_of_lt (by omega), List.getElem?_drop, show i + (k - i) = k by omega, List.getElem?_eq_getElem (by rw [lsize]; exact hk)]
    rfl
  · intro q b hb
    rw [List.mem_iff_getElem?] at hb
    obtain ⟨m, hm⟩ := hb
    have hml : m < j - i := by
      rcases Nat.lt_or_ge m (j - i) with h | h
      · exact h
      · rw [List.getElem?_eq_none (by rw [List.length_take]; omega)] at hm; cases hm
    rw [List.getElem?_take_of_lt hml, List.getElem?_drop, List.getElem?_eq_getElem (by rw [lsize]; omega)] at hm
    have := q (i + m) (by omega) (by omega) (by omega)
    rw [plainN_byte] at this
    injection hm with hm
    rw [← hm]
    exact this
def slashes : ByteArray := ⟨#[47, 47]⟩
def isNote (t : ByteArray) (a : Nat) : Bool := (t.extract a (a + 2)).toList == slashes.toList
theorem isNote_size {t : ByteArray} {a : Nat} (h : isNote t a = true) : a + 2 ≤ t.size := by
  have e := congrArg (fun b : ByteArray => b.data.toList.length) (str_eq.1 h)
  simp only [Lib.extract_data, List.length_take, List.length_drop, lsize] at e
  have e2 : slashes.size = 2 := rfl
  omega
def marks2 : List ByteArray := [⟨#[38, 38]⟩, ⟨#[124, 124]⟩, ⟨#[61, 61]⟩, ⟨#[61, 62]⟩, ⟨#[46, 46]⟩]
def marks1 : List ByteArray := [⟨#[40]⟩, ⟨#[41]⟩, ⟨#[123]⟩, ⟨#[125]⟩, ⟨#[91]⟩, ⟨#[93]⟩, ⟨#[59]⟩, ⟨#[44]⟩, ⟨#[46]⟩, ⟨#[61]⟩, ⟨#[43]⟩, ⟨#[45]⟩, ⟨#[42]⟩, ⟨#[60]⟩, ⟨#[63]⟩, ⟨#[58]⟩]
def inMarks (ms : List ByteArray) (x : ByteArray) : Bool := ms.any fun m => x.toList == m.toList
def markLen (t : ByteArray) (a : Nat) : Nat := if inMarks marks2 (t.extract a (a + 2)) then 2 else if inMarks marks1 (t.extract a (a + 1)) then 1 else 0
def nameAt (t : ByteArray) (a : Nat) : Option (Int × ByteArray × Nat) := if runTo innerN t a - a ≤ 30 then some (1, t.extract a (runTo innerN t a), runTo innerN t a - a) else none
def numAt (t : ByteArray) (a : Nat) : Option (Int × ByteArray × Nat) := if runTo figN t a - a ≤ 12 then some (2, t.extract a (runTo figN t a), runTo figN t a - a) else none
def textAt (t : ByteArray) (a : Nat) : Option (Int × ByteArray × Nat) := if runTo notQ t (a + 1) < t.size ∧ runTo notQ t (a + 1) ≤ runTo plainN t (a + 1) then some (3, t.extract a (runTo notQ t (a + 1) + 1), runTo notQ t (a + 1) + 1 - a) else none
def noteAt (t : ByteArray) (a : Nat) : Option (Int × ByteArray × Nat) := if runTo notNl t a ≤ runTo plainN t a then some (5, trimT (t.extract a (runTo notNl t a)), runTo notNl t a - a) else none
def markAt (t : ByteArray) (a : Nat) : Option (Int × ByteArray × Nat) := if markLen t a = 0 then none else some (4, t.extract a (a + markLen t a), markLen t a)
/-- the sign at a place: its kind, its text, how long it is -/
def sgn (t : ByteArray) (a : Nat) : Option (Int × ByteArray × Nat) :=
  if h : a < t.size then
    if firstN (t[a].toNat : Int) then nameAt t a
    else if figN (t[a].toNat : Int) then numAt t a
    else if (t[a].toNat : Int) == 39 then textAt t a
    else if isNote t a then noteAt t a
    else markAt t a
  else none
theorem sub_tl {a n m : Nat} (h : a + n = m) : n = m - a := by omega
theorem isNote_tl (t : ByteArray) (a : Nat) : isNote (tl t a) 0 = isNote t a := by unfold isNote; rw [tl_extract]; rfl
theorem markLen_tl (t : ByteArray) (a : Nat) : markLen (tl t a) 0 = markLen t a := by unfold markLen; rw [tl_extract, tl_extract]; rfl
theorem run_tl (p : Int → Bool) (t : ByteArray) (a : Nat) : runTo p (tl t a) 0 = runTo p t a - a := sub_tl (runTo_tl p t a 0)
theorem run_tl1 (p : Int → Bool) (t : ByteArray) (a : Nat) : runTo p (tl t a) (0 + 1) = runTo p t (a + 1) - a := sub_tl (runTo_tl p t a 1)
theorem nameAt_tl (t : ByteArray) (a : Nat) : nameAt (tl t a) 0 = nameAt t a := by
  have := runTo_ge innerN t a
  unfold nameAt
  rw [run_tl, tl_extract, show a + (runTo innerN t a - a) = runTo innerN t a by omega, Nat.sub_zero, Nat.add_zero]
theorem numAt_tl (t : ByteArray) (a : Nat) : numAt (tl t a) 0 = numAt t a := by
  have := runTo_ge figN t a
  unfold numAt
  rw [run_tl, tl_extract, show a + (runTo figN t a - a) = runTo figN t a by omega, Nat.sub_zero, Nat.add_zero]
theorem textAt_tl (t : ByteArray) (a : Nat) : textAt (tl t a) 0 = textAt t a := by
  have g1 := runTo_ge notQ t (a + 1)
  have g2 := runTo_ge plainN t (a + 1)
  unfold textAt
  rw [run_tl1, run_tl1, tl_extract, tl_size, show a + (runTo notQ t (a + 1) - a + 1) = runTo notQ t (a + 1) + 1 by omega, show runTo notQ t (a + 1) - a + 1 - 0 = runTo notQ t (a + 1) + 1 - a by omega, Nat.add_zero]
  generalize runTo notQ t (a + 1) = x at *
  generalize runTo plainN t (a + 1) = y at *
  by_cases h : x < t.size ∧ x ≤ y
  · rw [if_pos h, if_pos (by omega)]; rfl
  · rw [if_neg h, if_neg (by omega)]
theorem noteAt_tl (t : ByteArray) (a : Nat) : noteAt (tl t a) 0 = noteAt t a := by
  have g1 := runTo_ge notNl t a
  have g2 := runTo_ge plainN t a
  unfold noteAt
  rw [run_tl, run_tl, tl_extract, show a + (runTo notNl t a - a) = runTo notNl t a by omega, Nat.sub_zero, Nat.add_zero]
  generalize runTo notNl t a = x at *
  generalize runTo plainN t a = y at *
  by_cases h : x ≤ y
  · rw [if_pos h, if_pos (by omega)]
  · rw [if_neg h, if_neg (by omega)]
theorem markAt_tl (t : ByteArray) (a : Nat) : markAt (tl t a) 0 = markAt t a := by
  unfold markAt
  rw [markLen_tl, tl_extract, Nat.add_zero, Nat.zero_add]
theorem sgn_tl {t : ByteArray} {a : Nat} (h : a < t.size) : sgn (tl t a) 0 = sgn t a := by
  have h0 : 0 < (tl t a).size := by rw [tl_size]; omega
  have e0 : (tl t a)[0] = t[a] := tl_at h0
  unfold sgn
  rw [dif_pos h, dif_pos h0, e0, isNote_tl, nameAt_tl, numAt_tl, textAt_tl, noteAt_tl, markAt_tl]
theorem sgn_pos {t : ByteArray} {a n : Nat} {k : Int} {x : ByteArray} (h : sgn t a = some (k, x, n)) : 0 < n ∧ a + n ≤ t.size := by
  unfold sgn at h
  split at h
  · rename_i ha
    split at h
    · rename_i hf
      unfold nameAt at h
      split at h
      · simp only [Option.some.injEq, Prod.mk.injEq] at h
        have := runTo_more (p := innerN) ha (by simp [innerN, hf])
        have := runTo_le (p := innerN) (Nat.le_of_lt ha)
        omega
      · cases h
    · split at h
      · rename_i hf
        unfold numAt at h
        split at h
        · simp only [Option.some.injEq, Prod.mk.injEq] at h
          have := runTo_more ha hf
          have := runTo_le (p := figN) (Nat.le_of_lt ha)
          omega
        · cases h
      · split at h
        · unfold textAt at h
          split at h
          · simp only [Option.some.injEq, Prod.mk.injEq] at h
            have := runTo_ge notQ t (a + 1)
            omega
          · cases h
        · split at h
          · rename_i hn
            unfold noteAt at h
            split at h
            · simp only [Option.some.injEq, Prod.mk.injEq] at h
              have := runTo_le (p := notNl) (Nat.le_of_lt ha)
              have hs := isNote_size hn
              have e := str_eq.1 hn
              have e1 : t[a] = 47 := by
                have := congrArg (fun b : ByteArray => b.data.toList[0]?) e
                simp only [Lib.extract_data] at this
                rw [List.getElem?_take_of_lt (by omega), List.getElem?_drop, List.getElem?_eq_getElem (by rw [lsize]; omega)] at this
                exact Option.some.inj this
              have := runTo_more (p := notNl) ha (by rw [e1]; rfl)
              omega
            · cases h
          · unfold markAt at h
            split at h
            · cases h
            · rename_i hm
              simp only [Option.some.injEq, Prod.mk.injEq] at h
              have hz : ∀ (ms : List ByteArray) (q : Nat), (∀ m ∈ ms, m.size = q) → inMarks ms (t.extract a (a + q)) = true → a + q ≤ t.size := by
                intro ms q hq hi
                unfold inMarks at hi
                rw [List.any_eq_true] at hi
                obtain ⟨m, hm1, hm2⟩ := hi
                have e := congrArg (fun b : ByteArray => b.data.toList.length) (str_eq.1 hm2)
                simp only [Lib.extract_data, List.length_take, List.length_drop, lsize] at e
                have := hq m hm1
                omega
              have : a + markLen t a ≤ t.size := by
                unfold markLen at hm ⊢
                split
                · rename_i h2; exact hz marks2 2 (by decide) h2
                · split
                  · rename_i h1; exact hz marks1 1 (by decide) h1
                  · omega
              omega
  · cases h
end Go.Proofs.YtoloplpmjcgbdaaGreatDoor
