/- The least ragged wrapping, said of lists: the table of the least costs from each word on, and the lines that bear them. -/
import Derived.Test.YtjaginciejljkaaDoorWordsP
namespace Go.Proofs.YtjaginciejljkaaDoor

/-- what a line costs -/
def ragI (size width : Int) (last : Bool) : Int := if width < size then 10000000 else if last then 0 else if width < size + 200 then (width - size) * (width - size) else 40000
def szA (ws : List ByteArray) (i : Nat) : Int := ((ws.getD i ⟨#[]⟩).size : Int)
/-- how many bytes a line of t words from i on has; -1 for none -/
def lineS (ws : List ByteArray) (i : Nat) : Nat → Int
  | 0 => -1
  | t + 1 => lineS ws i t + (1 + szA ws (i + t))
/-- what it costs to put t words from i on into a line, and the rest as T says -/
def cstT (ws : List ByteArray) (width : Int) (T : List Int) (i t : Nat) : Int := ragI (lineS ws i t) width (decide (i + t = ws.length)) + T.getD (i + t) 0
/-- the least of 1 .. t words -/
def minS (ws : List ByteArray) (width : Int) (T : List Int) (i : Nat) : Nat → Int
  | 0 => 0
  | t + 1 => if t = 0 ∨ cstT ws width T i (t + 1) < minS ws width T i t then cstT ws width T i (t + 1) else minS ws width T i t
/-- how many words that are -/
def manyS (ws : List ByteArray) (width : Int) (T : List Int) (i : Nat) : Nat → Nat
  | 0 => 0
  | t + 1 => if t = 0 ∨ cstT ws width T i (t + 1) < minS ws width T i t then t + 1 else manyS ws width T i t
/-- the table, the last k words done -/
def tabK (ws : List ByteArray) (width : Int) : Nat → List Int
  | 0 => List.replicate (ws.length + 1) 0
  | k + 1 => (tabK ws width k).set (ws.length - 1 - k) (minS ws width (tabK ws width k) (ws.length - 1 - k) (k + 1))
def manyK (ws : List ByteArray) (width : Int) : Nat → List Int
  | 0 => List.replicate (ws.length + 1) 0
  | k + 1 => (manyK ws width k).set (ws.length - 1 - k) (manyS ws width (tabK ws width k) (ws.length - 1 - k) (k + 1) : Nat)
def leastF (ws : List ByteArray) (width : Int) (i : Nat) : Int := (tabK ws width ws.length).getD i 0
def manyF (ws : List ByteArray) (width : Int) (i : Nat) : Int := (manyK ws width ws.length).getD i 0
theorem getDi_set (us : List Int) (k q : Nat) (v : Int) : (us.set k v).getD q 0 = if k = q ∧ k < us.length then v else us.getD q 0 := by
  rw [List.getD_eq_getElem?_getD, List.getD_eq_getElem?_getD, List.getElem?_set]
  by_cases e : k = q
  · subst e
    by_cases h : k < us.length
    · rw [if_pos rfl, if_pos h, if_pos ⟨rfl, h⟩]; rfl
    · rw [if_pos rfl, if_neg h, if_neg (fun c => h c.2), List.getElem?_eq_none (by omega)]
  · rw [if_neg e, if_neg (fun c => e c.1)]
theorem getDi_rep (n q : Nat) : (List.replicate n (0 : Int)).getD q 0 = 0 := by
  rw [List.getD_eq_getElem?_getD, List.getElem?_replicate]
  split <;> rfl
section
variable {ws : List ByteArray} {width : Int}
theorem tabK_len : ∀ k, (tabK ws width k).length = ws.length + 1
  | 0 => List.length_replicate ..
  | k + 1 => by rw [tabK, List.length_set, tabK_len k]
theorem manyK_len : ∀ k, (manyK ws width k).length = ws.length + 1
  | 0 => List.length_replicate ..
  | k + 1 => by rw [manyK, List.length_set, manyK_len k]
/-- what is not done is 0 -/
theorem tabK_zero : ∀ k, k ≤ ws.length → ∀ i, i + k < ws.length → (tabK ws width k).getD i 0 = 0
  | 0, _, i, _ => getDi_rep _ _
  | k + 1, hk, i, hi => by rw [tabK, getDi_set, if_neg (by omega), tabK_zero k (by omega) i (by omega)]
theorem manyK_zero : ∀ k, k ≤ ws.length → ∀ i, i + k < ws.length → (manyK ws width k).getD i 0 = 0
  | 0, _, i, _ => getDi_rep _ _
  | k + 1, hk, i, hi => by rw [manyK, getDi_set, if_neg (by omega), manyK_zero k (by omega) i (by omega)]
/-- what is done stays -/
theorem tabK_stay (i : Nat) : ∀ d k, k + d ≤ ws.length → ws.length ≤ i + k → (tabK ws width (k + d)).getD i 0 = (tabK ws width k).getD i 0
  | 0, k, _, _ => rfl
  | d + 1, k, h1, h2 => by
    rw [show k + (d + 1) = (k + d) + 1 by omega, tabK, getDi_set, if_neg (by omega), tabK_stay i d k (by omega) h2]
theorem manyK_stay (i : Nat) : ∀ d k, k + d ≤ ws.length → ws.length ≤ i + k → (manyK ws width (k + d)).getD i 0 = (manyK ws width k).getD i 0
  | 0, k, _, _ => rfl
  | d + 1, k, h1, h2 => by
    rw [show k + (d + 1) = (k + d) + 1 by omega, manyK, getDi_set, if_neg (by omega), manyK_stay i d k (by omega) h2]
theorem tab_final {i k : Nat} (hk : k ≤ ws.length) (h : ws.length ≤ i + k) : (tabK ws width k).getD i 0 = leastF ws width i := by
  have := tabK_stay (ws := ws) (width := width) i (ws.length - k) k (by omega) h
  rw [show k + (ws.length - k) = ws.length by omega] at this
  exact this.symm
theorem many_final {i k : Nat} (hk : k ≤ ws.length) (h : ws.length ≤ i + k) : (manyK ws width k).getD i 0 = manyF ws width i := by
  have := manyK_stay (ws := ws) (width := width) i (ws.length - k) k (by omega) h
  rw [show k + (ws.length - k) = ws.length by omega] at this
  exact this.symm
/-- what it costs to put t words from i on into a line, and the rest as cheap as can be -/
def cstF (ws : List ByteArray) (width : Int) (i t : Nat) : Int := ragI (lineS ws i t) width (decide (i + t = ws.length)) + leastF ws width (i + t)
theorem cst_final {i k t : Nat} (hk : k ≤ ws.length) (h : ws.length ≤ i + t + k) : cstT ws width (tabK ws width k) i t = cstF ws width i t := by
  unfold cstT cstF
  rw [tab_final hk h]
theorem minS_le {T : List Int} {i : Nat} : ∀ t s, 1 ≤ s → s ≤ t → minS ws width T i t ≤ cstT ws width T i s
  | 0, s, h1, h2 => by omega
  | t + 1, s, h1, h2 => by
    unfold minS
    by_cases e : s = t + 1
    · subst e
      split
      · exact Int.le_refl _
      · omega
    · have := minS_le (T := T) (i := i) t s h1 (by omega)
      split
      · rename_i hc
        rcases hc with hc | hc
        · omega
        · omega
      · exact this
theorem minS_at {T : List Int} {i : Nat} : ∀ t, 1 ≤ t → 1 ≤ manyS ws width T i t ∧ manyS ws width T i t ≤ t ∧ minS ws width T i t = cstT ws width T i (manyS ws width T i t) ∧ ∀ s, 1 ≤ s → s < manyS ws width T i t → cstT ws width T i s ≠ minS ws width T i t
  | 0, h => by omega
  | t + 1, _ => by
    unfold minS manyS
    by_cases hc : t = 0 ∨ cstT ws width T i (t + 1) < minS ws width T i t
    · rw [if_pos hc, if_pos hc]
      refine ⟨by omega, Nat.le_refl _, rfl, fun s h1 h2 => ?_⟩
      rcases hc with hc | hc
      · omega
      · have := minS_le (ws := ws) (width := width) (T := T) (i := i) t s h1 (by omega); omega
    · rw [if_neg hc, if_neg hc]
      obtain ⟨h1, h2, h3, h4⟩ := minS_at (T := T) (i := i) t (by omega)
      exact ⟨h1, by omega, h3, h4⟩
/-- how many words the line from i on has -/
theorem best_at {i : Nat} (hi : i < ws.length) : ∃ t : Nat, manyF ws width i = (t : Int) ∧ 1 ≤ t ∧ i + t ≤ ws.length ∧ leastF ws width i = cstF ws width i t ∧ (∀ s, 1 ≤ s → s < t → cstF ws width i s ≠ leastF ws width i) ∧ ∀ s, 1 ≤ s → i + s ≤ ws.length → leastF ws width i ≤ cstF ws width i s := by
  obtain ⟨k, hk⟩ : ∃ k, i + k + 1 = ws.length := ⟨ws.length - 1 - i, by omega⟩
  have hik : ws.length - 1 - k = i := by omega
  have h1 : leastF ws width i = minS ws width (tabK ws width k) i (k + 1) := by
    rw [← tab_final (k := k + 1) (by omega) (by omega), tabK, hik, getDi_set, if_pos ⟨rfl, by rw [tabK_len]; omega⟩]
  have h2 : manyF ws width i = (manyS ws width (tabK ws width k) i (k + 1) : Nat) := by
    rw [← many_final (k := k + 1) (by omega) (by omega), manyK, hik, getDi_set, if_pos ⟨rfl, by rw [manyK_len]; omega⟩]
  obtain ⟨a1, a2, a3, a4⟩ := minS_at (ws := ws) (width := width) (T := tabK ws width k) (i := i) (k + 1) (by omega)
  refine ⟨_, h2, a1, by omega, ?_, fun s s1 s2 => ?_, fun s s1 s2 => ?_⟩
  · rw [h1, a3, cst_final (by omega) (by omega)]
  · rw [h1, ← cst_final (k := k) (by omega) (by omega)]
    exact a4 s s1 s2
  · rw [h1, ← cst_final (k := k) (by omega) (by omega)]
    exact minS_le _ _ s1 (by omega)
theorem least_end (i : Nat) (hi : ws.length ≤ i) : leastF ws width i = 0 := by
  rw [← tab_final (k := 0) (by omega) (by omega)]
  exact getDi_rep _ _
/-- t words from i on in a line -/
def joinL (ws : List ByteArray) (i : Nat) : Nat → ByteArray
  | 0 => ⟨#[]⟩
  | 1 => ws.getD i ⟨#[]⟩
  | t + 2 => joinL ws i (t + 1) ++ (⟨#[32]⟩ ++ ws.getD (i + t + 1) ⟨#[]⟩)
theorem joinL_size (i : Nat) : ∀ t, 1 ≤ t → ((joinL ws i t).size : Int) = lineS ws i t
  | 0, h => by omega
  | 1, _ => by simp [joinL, lineS, szA]; omega
  | t + 2, _ => by
    have := joinL_size i (t + 1) (by omega)
    rw [joinL, lineS, ByteArray.size_append, ByteArray.size_append, ← this, szA, show i + (t + 1) = i + t + 1 by omega]
    simp only [Int.natCast_add]
    rfl
/-- the lines of the words from i on -/
def bestF (ws : List ByteArray) (width : Int) : Nat → Nat → List ByteArray
  | 0, _ => []
  | f + 1, i => if i < ws.length then joinL ws i (manyF ws width i).toNat :: bestF ws width f (i + (manyF ws width i).toNat) else []
def bestL (ws : List ByteArray) (width : Int) : List ByteArray := if okWords ws then bestF ws width ws.length 0 else []
def leastL (ws : List ByteArray) (width : Int) : Int := if okWords ws then leastF ws width 0 else 0
/-- the fuel is enough -/
theorem bestF_more : ∀ f g i, ws.length ≤ i + f → ws.length ≤ i + g → bestF ws width f i = bestF ws width g i
  | 0, 0, i, _, _ => rfl
  | 0, g + 1, i, h1, h2 => by rw [bestF, bestF, if_neg (by omega)]
  | f + 1, 0, i, h1, h2 => by rw [bestF, bestF, if_neg (by omega)]
  | f + 1, g + 1, i, h1, h2 => by
    rw [bestF, bestF]
    split
    · rename_i hi
      obtain ⟨t, e, h3, _⟩ := best_at (width := width) hi
      rw [e, Int.toNat_natCast, bestF_more f g (i + t) (by omega) (by omega)]
    · rfl
/-- the lines from i on -/
def bestI (ws : List ByteArray) (width : Int) (i : Nat) : List ByteArray := bestF ws width ws.length i
theorem bestI_end {i : Nat} (h : ws.length ≤ i) : bestI ws width i = [] := by
  unfold bestI
  rw [bestF_more ws.length 0 i (by omega) (by omega)]
  rfl
theorem bestI_step {i t : Nat} (h : i < ws.length) (e : manyF ws width i = (t : Int)) : bestI ws width i = joinL ws i t :: bestI ws width (i + t) := by
  have e1 : bestI ws width i = bestF ws width (ws.length + 1) i := bestF_more _ _ _ (by omega) (by omega)
  rw [e1, bestF, if_pos h, e, Int.toNat_natCast]
  rfl
end
end Go.Proofs.YtjaginciejljkaaDoor
