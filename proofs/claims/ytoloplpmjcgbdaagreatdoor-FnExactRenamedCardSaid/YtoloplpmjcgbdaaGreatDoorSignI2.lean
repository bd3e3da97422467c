/- The sign at the head of a text, of the program. -/
import Derived.Test.YtoloplpmjcgbdaaGreatDoorSignI
import Derived.Test.YtoloplpmjcgbdaaGreatDoorShelf
namespace Go.Proofs.YtoloplpmjcgbdaaGreatDoor
open Go.RowKit

theorem index_run' (s : ByteArray) : ∀ n i, s.size - i = n → Lib.indexByte (tl s i).data.toList 39 = if runTo notQ s i < s.size then ((runTo notQ s i - i : Nat) : Int) else -1
  | 0, i, h => by
    rw [runTo_end (by omega), if_neg (by omega), tl_list, List.drop_eq_nil_of_le (by rw [lsize]; omega)]; rfl
  | n + 1, i, h => by
    have hi : i < s.size := by omega
    rw [tl_list, List.drop_eq_getElem_cons (by rw [lsize]; exact hi)]
    show (if s.data.toList[i] == 39 then (0 : Int) else if Lib.indexByte (s.data.toList.drop (i + 1)) 39 == -1 then -1 else Lib.indexByte (s.data.toList.drop (i + 1)) 39 + 1) = _
    rw [show s.data.toList[i]'(by rw [lsize]; exact hi) = s[i] from rfl, ← tl_list s (i + 1), index_run' s n (i + 1) (by omega)]
    cases g : notQ (s[i].toNat : Int) with
    | false =>
      have e : (s[i].toNat : Int) = 39 := by simpa [notQ] using g
      have e2 : s[i] = 39 := UInt8.toNat_inj.1 (by show s[i].toNat = 39; omega)
      rw [runTo_stop hi g, if_pos hi, e2]; simp
    | true =>
      have e : ¬ (s[i].toNat : Int) = 39 := by simpa [notQ] using g
      have e2 : ¬ s[i] = 39 := fun h => e (by rw [h]; rfl)
      have := runTo_ge notQ s (i + 1)
      rw [runTo_step hi g, if_neg (by simpa using e2)]
      by_cases q : runTo notQ s (i + 1) < s.size
      · rw [if_pos q, if_pos q, if_neg (by simp)]; omega
      · rw [if_neg q, if_neg q]; rfl
theorem index_run (s : ByteArray) (i : Nat) : Lib.indexByte (tl s i).data.toList 39 = if runTo notQ s i < s.size then ((runTo notQ s i - i : Nat) : Int) else -1 := index_run' s _ i rfl
theorem ex_size {s : ByteArray} {i j : Nat} (h : j ≤ s.size) : (s.extract i j).size = j - i := by
  rw [← lsize, Lib.extract_data, List.length_take, List.length_drop, lsize]; omega
theorem run_stopped {p : Int → Bool} {s : ByteArray} {i : Nat} (h : runTo p s i < s.size) : p (s[runTo p s i].toNat : Int) = false := by
  cases g : p (s[runTo p s i].toNat : Int) with
  | false => rfl
  | true =>
    have h1 := runTo_ge p s i
    have := (runTo_iff (p := p) (s := s) (i := i) (j := runTo p s i + 1) (by omega) (by omega)).2 (fun k hk h2 h3 => by
      by_cases e : k = runTo p s i
      · subst e; exact g
      · exact (runTo_iff (p := p) (s := s) (i := i) (j := runTo p s i) (by omega) h1).1 (Nat.le_refl _) k hk h2 (by omega))
    omega
theorem text_plain {s : ByteArray} (h0 : 0 < s.size) (hq : (s[0].toNat : Int) = 39) (he : runTo notQ s 1 < s.size) : plainB (s.extract 0 (runTo notQ s 1 + 1)) = decide (runTo notQ s 1 ≤ runTo plainN s 1) := by
  have h1 := runTo_ge notQ s 1
  rw [plain_piece (by omega) (Nat.zero_le _)]
  apply decide_eq_decide.2
  have hs := run_stopped he
  have hs2 : (s[runTo notQ s 1].toNat : Int) = 39 := by simpa [notQ] using hs
  rw [runTo_iff (by omega) (by omega), runTo_iff (by omega) h1]
  constructor
  · intro q k hk a b
    exact q k hk (by omega) (by omega)
  · intro q k hk a b
    by_cases e : k = 0
    · subst e; rw [hq]; rfl
    · by_cases e2 : k = runTo notQ s 1
      · subst e2; rw [hs2]; rfl
      · exact q k hk (by omega) (by omega)
set_option maxHeartbeats 1000000 in
set_option maxRecDepth 100000 in
theorem quoted_any (s : ByteArray) (w : World) (hs : s.size ≤ 4611686018427387904) (h0 : 0 < s.size) (hq : (s[0].toNat : Int) = 39) :
    Calls Tryz.prog 106 #[.string s] w fun e w' => ∃ x ok, e = .returned (.tuple #[.string x, .bool ok]) ∧ textAt s 0 = (if ok then some (3, x, x.size) else none) ∧ w = w' := by
  have h1 := runTo_ge notQ s 1
  have HI := Lib.hid (index_run s 1)
  have HP := Lib.hid (text_plain h0 hq)
  clear hq
  have h0i : (1 : Int) ≤ (s.size : Int) := by omega
  go_enter Tryz.func106, Tryz.ntmps106
  go_wp2_with fail
  refine (Tryz.strings_IndexByte _ 39 _).mono ?_
  rintro e w' ⟨rfl, hw⟩
  subst hw
  have E : Lib.indexByte (s.extract 1 s.size).data.toList (39 : Int).toNat.toUInt8 = if runTo notQ s 1 < s.size then ((runTo notQ s 1 - 1 : Nat) : Int) else -1 := HI.out
  rw [E]
  clear E
  by_cases g : runTo notQ s 1 < s.size
  · rw [if_pos g]
    obtain ⟨q, hq⟩ : ∃ q, runTo notQ s 1 = q + 1 := ⟨runTo notQ s 1 - 1, by omega⟩
    have HP2 := Lib.hid (HP.out g)
    have HT : Hid (textAt s 0 = if plainB (s.extract 0 (q + 2)) then some (3, s.extract 0 (q + 2), q + 2) else none) := by
      have e := HP2.out
      rw [hq] at e
      show textAt s 0 = _
      unfold textAt
      rw [show (0 : Nat) + 1 = 1 from rfl, hq, show q + 2 = q + 1 + 1 from rfl, e]
      rw [hq] at g
      by_cases z : q + 1 ≤ runTo plainN s 1
      · rw [if_pos ⟨g, z⟩, decide_eq_true z]; rfl
      · rw [if_neg (fun c => z c.2), decide_eq_false z]; rfl
    have HZ := Lib.hid (ex_size (s := s) (i := 0) (j := q + 2) (by omega))
    clear HP HP2
    rw [show runTo notQ s 1 - 1 = q by omega]
    rw [hq] at g h1
    have gi : (q : Int) + 2 ≤ (s.size : Int) := by omega
    have gt : ((q : Int) + 2).toNat = q + 2 := by omega
    go_wp2_with fail
    refine (isPlain_impl _ _ (by rw [HZ.out]; omega)).mono ?_
    rintro e w' ⟨rfl, rfl⟩
    go_wp2
    go_ret2
    exact ⟨_, _, rfl, by rw [HT.out, HZ.out]; rfl, rfl⟩
  · rw [if_neg g]
    have HT : Hid (textAt s 0 = none) := by
      show textAt s 0 = none
      unfold textAt
      rw [if_neg (fun c => g c.1)]
    go_wp2
    go_ret2
    exact ⟨_, _, rfl, by rw [HT.out]; rfl, rfl⟩
theorem index_mem (l : List UInt8) (c : UInt8) : (decide (0 ≤ Lib.indexByte l c)) = l.any (fun b => b == c) := by
  induction l with
  | nil => rfl
  | cons b l ih =>
    have hg := Lib.indexByte_ge l c
    rw [List.any_cons, ← ih]
    show decide (0 ≤ (if b == c then (0 : Int) else if Lib.indexByte l c == -1 then -1 else Lib.indexByte l c + 1)) = _
    cases hbc : b == c with
    | true => rfl
    | false =>
      rw [if_neg (by simp), Bool.false_or]
      by_cases z : Lib.indexByte l c = -1
      · rw [z]; rfl
      · rw [if_neg (by simpa using z)]; exact decide_eq_decide.2 (by omega)
def markChars : List UInt8 := [40, 41, 123, 125, 91, 93, 59, 44, 46, 61, 43, 45, 42, 60, 63, 58]
def markText : ByteArray := ⟨#[40, 41, 123, 125, 91, 93, 59, 44, 46, 61, 43, 45, 42, 60, 63, 58]⟩
theorem one_eq (b c : UInt8) : ((⟨#[c]⟩ : ByteArray).toList == (⟨#[b]⟩ : ByteArray).toList) = (b == c) := by
  by_cases h : b = c
  · subst h; simp
  · rw [str_no (fun e => h (by injection e with e; injection e with e; injection e with e; exact e.symm))]
    exact (beq_eq_false_iff_ne.2 h).symm
theorem inMarks_one (c : UInt8) : inMarks marks1 ⟨#[c]⟩ = decide (0 ≤ Lib.indexByte markText.data.toList c) := by
  rw [index_mem]
  unfold inMarks marks1 markText
  simp only [List.any_cons, List.any_nil, one_eq]
theorem inMarks_size {ms : List ByteArray} {q : Nat} {x : ByteArray} (hq : ∀ m ∈ ms, m.size = q) (h : inMarks ms x = true) : x.size = q := by
  unfold inMarks at h
  rw [List.any_eq_true] at h
  obtain ⟨m, h1, h2⟩ := h
  rw [str_eq.1 h2]; exact hq m h1
theorem size_one {x : ByteArray} (h : x.size = 1) : ∃ c, x = ⟨#[c]⟩ := by
  obtain ⟨⟨l⟩⟩ := x
  match l, h with
  | [c], _ => exact ⟨c, rfl⟩
def okMark (x : ByteArray) : Bool := inMarks marks2 x || inMarks marks1 x
set_option maxHeartbeats 1000000 in
set_option maxRecDepth 100000 in
theorem markOk_impl (x : ByteArray) (w : World) (hs : x.size ≤ 9223372036854775807) :
    Calls Tryz.prog 111 #[.string x] w fun e w' => e = .returned (.bool (okMark x)) ∧ w = w' := by
  obtain ⟨d1, e1⟩ : ∃ d, (x.toList == [38, 38]) = d := ⟨_, rfl⟩
  obtain ⟨d2, e2⟩ : ∃ d, (x.toList == [124, 124]) = d := ⟨_, rfl⟩
  obtain ⟨d3, e3⟩ : ∃ d, (x.toList == [61, 61]) = d := ⟨_, rfl⟩
  obtain ⟨d4, e4⟩ : ∃ d, (x.toList == [61, 62]) = d := ⟨_, rfl⟩
  obtain ⟨d5, e5⟩ : ∃ d, (x.toList == [46, 46]) = d := ⟨_, rfl⟩
  have HF := Lib.hid (show inMarks marks2 x = (d1 || (d2 || (d3 || (d4 || (d5 || false))))) by rw [← e1, ← e2, ← e3, ← e4, ← e5]; simp only [inMarks, marks2, List.any_cons, List.any_nil, Lib.toList_data])
  cases d1 with
  | true =>
    have HY := Lib.hid (show okMark x = true by rw [okMark, HF.out]; simp)
    go_enter Tryz.func111, Tryz.ntmps111
    go_wp2
    go_ret
    exact ⟨ret_bool HY.out.symm, rfl⟩
  | false =>
  cases d2 with
  | true =>
    have HY := Lib.hid (show okMark x = true by rw [okMark, HF.out]; simp)
    go_enter Tryz.func111, Tryz.ntmps111
    go_wp2
    go_ret
    exact ⟨ret_bool HY.out.symm, rfl⟩
  | false =>
  cases d3 with
  | true =>
    have HY := Lib.hid (show okMark x = true by rw [okMark, HF.out]; simp)
    go_enter Tryz.func111, Tryz.ntmps111
    go_wp2
    go_ret
    exact ⟨ret_bool HY.out.symm, rfl⟩
  | false =>
  cases d4 with
  | true =>
    have HY := Lib.hid (show okMark x = true by rw [okMark, HF.out]; simp)
    go_enter Tryz.func111, Tryz.ntmps111
    go_wp2
    go_ret
    exact ⟨ret_bool HY.out.symm, rfl⟩
  | false =>
  cases d5 with
  | true =>
    have HY := Lib.hid (show okMark x = true by rw [okMark, HF.out]; simp)
    go_enter Tryz.func111, Tryz.ntmps111
    go_wp2
    go_ret
    exact ⟨ret_bool HY.out.symm, rfl⟩
  | false =>
  by_cases h1 : x.size = 1
  · obtain ⟨c, rfl⟩ := size_one h1
    have HY := Lib.hid (show okMark ⟨#[c]⟩ = decide (0 ≤ Lib.indexByte markText.data.toList c) by rw [okMark, HF.out, inMarks_one]; rfl)
    have hz : ((((⟨#[c]⟩ : ByteArray).size : Nat) : Int) == 1) = true := rfl
    go_enter Tryz.func111, Tryz.ntmps111
    go_wp2_with fail
    refine (Tryz.strings_Contains_one _ c _).mono ?_
    rintro e w' ⟨rfl, hw⟩
    subst hw
    go_wp2
    go_ret
    exact ⟨ret_bool HY.out.symm, rfl⟩
  · have HY := Lib.hid (show okMark x = false by
      rw [okMark, HF.out]
      cases q : inMarks marks1 x with
      | false => rfl
      | true => exact absurd (inMarks_size (q := 1) (by decide) q) h1)
    have hz : ((x.size : Int) == 1) = false := beq_eq_false_iff_ne.2 (by omega)
    go_enter Tryz.func111, Tryz.ntmps111
    go_wp2
    go_ret
    exact ⟨ret_bool HY.out.symm, rfl⟩
theorem trimmed_impl (s : ByteArray) (w : World) (hs : s.size ≤ 9223372036854775807) :
    Calls Tryz.prog 109 #[.string s] w fun e w' => e = .returned (.string (trimT s)) ∧ w = w' := by
  go_enter Tryz.func109, Tryz.ntmps109
  go_wp2_with fail
  refine (Tryz.strings_TrimRight_one s 32 (by decide) _ hs).mono ?_
  rintro e w' ⟨rfl, hw⟩
  subst hw
  go_wp2
  go_ret
  exact ⟨rfl, rfl⟩
end Go.Proofs.YtoloplpmjcgbdaaGreatDoor
