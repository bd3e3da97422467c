/- Lines of words: what they cost, what words they have, how few they are. -/
import Derived.Test.YtjaginciejljkaaDoorRagP
namespace Go.Proofs.YtjaginciejljkaaDoor

/-- what lines cost -/
def ragL (width : Int) : List ByteArray → Int
  | [] => 0
  | l :: r => ragI l.size width r.isEmpty + ragL width r
/-- the lines of so many words each, from word i on -/
def partL (ws : List ByteArray) (i : Nat) : List Nat → List ByteArray
  | [] => []
  | t :: ts => joinL ws i t :: partL ws (i + t) ts
theorem partL_len (ws : List ByteArray) (i : Nat) (ts : List Nat) : (partL ws i ts).length = ts.length := by
  induction ts generalizing i with
  | nil => rfl
  | cons t ts ih => rw [partL, List.length_cons, List.length_cons, ih]
theorem partL_app (ws : List ByteArray) (i : Nat) (ts us : List Nat) : partL ws i (ts ++ us) = partL ws i ts ++ partL ws (i + ts.sum) us := by
  induction ts generalizing i with
  | nil => simp [partL]
  | cons t ts ih => rw [List.cons_append, partL, partL, ih, List.sum_cons, List.cons_append, Nat.add_assoc]
theorem partL_empty {ws : List ByteArray} {i : Nat} {ts : List Nat} (h : ∀ t ∈ ts, 1 ≤ t) : (partL ws i ts).isEmpty = decide (ts.sum = 0) := by
  cases ts with
  | nil => rfl
  | cons t ts =>
    have := h t (by simp)
    rw [partL, List.sum_cons]
    exact (decide_eq_false (by omega)).symm
section
variable {ws : List ByteArray} {width : Int}
/-- no way to put the words into lines costs less -/
theorem least_le : ∀ (ts : List Nat) (i : Nat), (∀ t ∈ ts, 1 ≤ t) → i + ts.sum = ws.length → leastF ws width i ≤ ragL width (partL ws i ts)
  | [], i, _, h => by
    rw [least_end i (by simp at h; omega)]
    exact Int.le_refl _
  | t :: ts, i, h1, h => by
    have ht := h1 t (by simp)
    rw [List.sum_cons] at h
    obtain ⟨_, _, _, _, _, _, h3⟩ := best_at (ws := ws) (width := width) (i := i) (by omega)
    have h4 := h3 t ht (by omega)
    have h5 := least_le ts (i + t) (fun x hx => h1 x (by simp [hx])) (by omega)
    rw [partL, ragL, joinL_size i t ht, partL_empty (fun x hx => h1 x (by simp [hx])), show decide (ts.sum = 0) = decide (i + t = ws.length) from decide_eq_decide.2 (by omega)]
    unfold cstF at h4
    omega
/-- the lines found are a way, and cost the least -/
theorem best_part : ∀ (d i : Nat), ws.length - i ≤ d → i ≤ ws.length → ∃ ts, (∀ t ∈ ts, 1 ≤ t) ∧ i + ts.sum = ws.length ∧ bestI ws width i = partL ws i ts ∧ leastF ws width i = ragL width (bestI ws width i)
  | 0, i, h1, h2 => ⟨[], by simp, by simp; omega, by rw [bestI_end (by omega)]; rfl, by rw [bestI_end (by omega), least_end i (by omega)]; rfl⟩
  | d + 1, i, h1, h2 => by
    by_cases hi : i < ws.length
    · obtain ⟨t, e, t1, t2, t3, _, _⟩ := best_at (width := width) hi
      obtain ⟨ts, a1, a2, a3, a4⟩ := best_part d (i + t) (by omega) t2
      refine ⟨t :: ts, fun x hx => ?_, by rw [List.sum_cons]; omega, by rw [bestI_step hi e, partL, a3], ?_⟩
      · rcases List.mem_cons.1 hx with rfl | hx
        · exact t1
        · exact a1 x hx
      · rw [bestI_step hi e, ragL, ← a4, t3, cstF, joinL_size i t t1, a3, partL_empty a1, show decide (ts.sum = 0) = decide (i + t = ws.length) from decide_eq_decide.2 (by omega)]
    · exact ⟨[], by simp, by simp; omega, by rw [bestI_end (by omega)]; rfl, by rw [bestI_end (by omega), least_end i (by omega)]; rfl⟩
/-! The greedy lines -/
theorem joinL_succ (i : Nat) : ∀ t, 1 ≤ t → joinL ws i (t + 1) = joinL ws i t ++ (⟨#[32]⟩ ++ ws.getD (i + t) ⟨#[]⟩)
  | 0, h => by omega
  | t + 1, _ => by rw [joinL, Nat.add_assoc]
theorem getD_at {k : Nat} (h : k < ws.length) : ws.getD k ⟨#[]⟩ = ws[k] := by rw [List.getD_eq_getElem?_getD, List.getElem?_eq_getElem h]; rfl
/-- the lines of the first k words; the last line begins at word j and has t words -/
theorem fill_part : ∀ k, k ≤ ws.length → ∃ ts, (∀ t ∈ ts, 1 ≤ t) ∧ ts.sum = k ∧ fillL 0 width (ws.take k) = partL ws 0 ts
  | 0, _ => ⟨[], by simp, rfl, rfl⟩
  | k + 1, h => by
    obtain ⟨ts, h1, h2, h3⟩ := fill_part k (by omega)
    rw [fillL_succ 0 width ws k (by omega), h3, ← getD_at (by omega)]
    rcases List.eq_nil_or_concat ts with rfl | ⟨us, t, rfl⟩
    · have hk : k = 0 := by simpa using h2.symm
      subst hk
      exact ⟨[1], by simp, by simp, rfl⟩
    · rw [List.concat_eq_append] at *
      have ht := h1 t (by simp)
      rw [List.sum_append, List.sum_cons, List.sum_nil, Nat.add_zero] at h2
      rw [partL_app, Nat.zero_add, partL, partL]
      by_cases hf : (0 : Int) + (joinL ws us.sum t).size + 1 + (ws.getD k ⟨#[]⟩).size ≤ width
      · refine ⟨us ++ [t + 1], fun x hx => ?_, by rw [List.sum_append]; simp; omega, ?_⟩
        · rcases List.mem_append.1 hx with hx | hx
          · exact h1 x (by simp [hx])
          · have : x = t + 1 := by simpa using hx
            omega
        · rw [growL_snoc_yes hf, partL_app, Nat.zero_add, partL, partL, joinL_succ _ t ht, h2]
      · refine ⟨us ++ [t] ++ [1], fun x hx => ?_, by rw [List.sum_append, List.sum_append]; simp; omega, ?_⟩
        · rcases List.mem_append.1 hx with hx | hx
          · exact h1 x (by simpa using hx)
          · have : x = 1 := by simpa using hx
            omega
        · rw [growL_snoc_no hf, partL_app, partL_app, Nat.zero_add, partL, partL, partL, partL, List.sum_append, List.sum_cons, List.sum_nil, Nat.add_zero, h2, Nat.zero_add k]
          rfl
/-- a line is no longer than it may be, but for one word that is -/
theorem fill_line : ∀ k, k ≤ ws.length → ∀ l ∈ fillL 0 width (ws.take k), (l.size : Int) ≤ width ∨ l ∈ ws
  | 0, _, l, hl => by simp [fillL] at hl
  | k + 1, h, l, hl => by
    have ih := fill_line k (by omega)
    rw [fillL_succ 0 width ws k (by omega)] at hl
    have hm : ws[k] ∈ ws := List.getElem_mem (by omega)
    generalize fillL 0 width (ws.take k) = ls at *
    rcases List.eq_nil_or_concat ls with rfl | ⟨out, x, rfl⟩
    · rw [growL_nil, List.mem_singleton] at hl
      subst hl
      exact .inr hm
    · rw [List.concat_eq_append] at *
      by_cases hf : (0 : Int) + x.size + 1 + ws[k].size ≤ width
      · rw [growL_snoc_yes hf] at hl
        rcases List.mem_append.1 hl with hl | hl
        · exact ih l (by simp [hl])
        · rw [List.mem_singleton] at hl
          subst hl
          refine .inl ?_
          rw [ByteArray.size_append, ByteArray.size_append]
          have : (⟨#[32]⟩ : ByteArray).size = 1 := rfl
          omega
      · rw [growL_snoc_no hf] at hl
        rcases List.mem_append.1 hl with hl | hl
        · exact ih l hl
        · rw [List.mem_singleton] at hl
          subst hl
          exact .inr hm
/-! The words of lines, one behind the other with a blank behind each -/
def flatW (ls : List ByteArray) : List UInt8 := ls.flatMap fun l => l.data.toList ++ [32]
theorem flatW_app (xs ys : List ByteArray) : flatW (xs ++ ys) = flatW xs ++ flatW ys := by simp [flatW]
theorem flatW_one (x : ByteArray) : flatW [x] = x.data.toList ++ [32] := by simp [flatW]
theorem app_dat (a b : ByteArray) : (a ++ b).data.toList = a.data.toList ++ b.data.toList := by rw [ByteArray.data_append, Array.toList_append]
theorem take_snoc {i t : Nat} (h : i + t < ws.length) : (ws.drop i).take (t + 1) = (ws.drop i).take t ++ [ws.getD (i + t) ⟨#[]⟩] := by
  have h1 : t < (ws.drop i).length := by rw [List.length_drop]; omega
  rw [List.take_succ_eq_append_getElem h1, List.getElem_drop, getD_at h]
theorem join_flat (i : Nat) : ∀ t, 1 ≤ t → i + t ≤ ws.length → (joinL ws i t).data.toList ++ [32] = flatW ((ws.drop i).take t)
  | 0, h, _ => by omega
  | 1, _, h => by rw [take_snoc (t := 0) (by omega), List.take_zero, List.nil_append, flatW_one]; rfl
  | t + 2, _, h => by
    rw [take_snoc (by omega), flatW_app, ← join_flat i (t + 1) (by omega) (by omega), joinL, app_dat, app_dat, flatW_one, Nat.add_assoc]
    simp
theorem part_flat : ∀ (ts : List Nat) (i : Nat), (∀ t ∈ ts, 1 ≤ t) → i + ts.sum ≤ ws.length → flatW (partL ws i ts) = flatW ((ws.drop i).take ts.sum)
  | [], i, _, _ => by simp [partL, flatW]
  | t :: ts, i, h1, h => by
    rw [List.sum_cons] at h ⊢
    have ht := h1 t (by simp)
    rw [partL, show joinL ws i t :: partL ws (i + t) ts = [joinL ws i t] ++ partL ws (i + t) ts from rfl, flatW_app, flatW_one, join_flat i t ht (by omega), part_flat ts (i + t) (fun x hx => h1 x (by simp [hx])) (by omega), ← flatW_app, List.take_add, List.drop_drop]
theorem wd_word (rest : List UInt8) : ∀ (bs cur : List UInt8), (32 : UInt8) ∉ bs → wd cur (bs ++ 32 :: rest) = flushW (cur ++ bs) ++ wd [] rest
  | [], cur, _ => by rw [List.nil_append, wd_blank, List.append_nil]
  | b :: bs, cur, h => by
    rw [List.cons_append, wd_other _ _ (fun e => h (by simp [e])), wd_word rest bs (cur ++ [b]) (fun c => h (by simp [c])), List.append_assoc]
    rfl
theorem fine_parts {x : ByteArray} (h : fineW x = true) : x.data.toList ≠ [] ∧ (32 : UInt8) ∉ x.data.toList := by
  unfold fineW at h
  rw [Bool.and_eq_true, Bool.not_eq_true', Bool.not_eq_true'] at h
  exact ⟨fun e => by rw [e] at h; simp at h, fun c => by rw [List.contains_iff_mem.2 c] at h; simp at h⟩
theorem wd_flat : ∀ xs : List ByteArray, (∀ x ∈ xs, fineW x = true) → wd [] (flatW xs) = xs.map fun x => x.data.toList
  | [], _ => rfl
  | x :: xs, h => by
    obtain ⟨h1, h2⟩ := fine_parts (h x (by simp))
    rw [show x :: xs = [x] ++ xs from rfl, flatW_app, flatW_one, List.append_assoc, List.singleton_append, wd_word _ _ _ h2, List.nil_append, flush_pos (List.length_pos_iff.2 h1), wd_flat xs (fun y hy => h y (by simp [hy]))]
    rfl
theorem words_flat {xs : List ByteArray} (h : ∀ x ∈ xs, fineW x = true) : wordsB ⟨(flatW xs).toArray⟩ = xs := by
  unfold wordsB
  rw [show (⟨(flatW xs).toArray⟩ : ByteArray).data.toList = flatW xs from rfl, wd_flat xs h, List.map_map]
  refine (List.map_congr_left (g := id) fun x _ => ?_).trans (List.map_id _)
  rfl
theorem words_fine {x : ByteArray} (h : fineW x = true) : wordsB x = [x] := by
  obtain ⟨h1, h2⟩ := fine_parts h
  unfold wordsB
  rw [wd_none _ h2, List.nil_append, flush_pos (List.length_pos_iff.2 h1)]
  rfl
/-- lines that are made of all the words have the words -/
theorem words_part {ts : List Nat} (h1 : ∀ t ∈ ts, 1 ≤ t) (h2 : ts.sum = ws.length) (hf : ∀ x ∈ ws, fineW x = true) : wordsB ⟨(flatW (partL ws 0 ts)).toArray⟩ = ws := by
  rw [part_flat ts 0 h1 (by omega), List.drop_zero, h2, List.take_length, words_flat hf]
/-! How few the greedy lines are -/
theorem lineS_add (i : Nat) (d : Nat) : ∀ t, lineS ws i (d + t) = lineS ws i d + lineS ws (i + d) t + 1
  | 0 => by simp only [Nat.add_zero, lineS]; omega
  | t + 1 => by rw [← Nat.add_assoc, lineS, lineS, lineS_add i d t, Nat.add_assoc]; omega
theorem lineS_ge (i : Nat) : ∀ t, -1 ≤ lineS ws i t
  | 0 => by simp [lineS]
  | t + 1 => by
    have := lineS_ge i t
    rw [lineS, szA]
    omega
/-- words that fit into one line make one line more at most -/
theorem fill_more {i : Nat} {width : Int} : ∀ s, i + s ≤ ws.length → lineS ws i s ≤ width →
    (fillL 0 width (ws.take (i + s))).length = (fillL 0 width (ws.take i)).length ∨
    ((fillL 0 width (ws.take (i + s))).length = (fillL 0 width (ws.take i)).length + 1 ∧ ∃ out d, d < s ∧ fillL 0 width (ws.take (i + s)) = out ++ [joinL ws (i + d) (s - d)])
  | 0, _, _ => .inl rfl
  | s + 1, h, hl => by
    rw [lineS] at hl
    have hz : 0 ≤ szA ws (i + s) := by unfold szA; omega
    have ih := fill_more (i := i) (width := width) s (by omega) (by omega)
    rw [← Nat.add_assoc, fillL_succ 0 width ws (i + s) (by omega), ← getD_at (by omega)]
    rcases ih with ih | ⟨ih, out, d, hd, e⟩
    · rcases List.eq_nil_or_concat (fillL 0 width (ws.take (i + s))) with e | ⟨out, x, e⟩
      · refine .inr ⟨?_, [], s, by omega, ?_⟩
        · rw [e] at ih ⊢
          rw [growL_nil, ← ih]; rfl
        · rw [e, growL_nil, show s + 1 - s = 1 by omega]; rfl
      · rw [List.concat_eq_append] at e
        rw [e] at ih ⊢
        by_cases hf : (0 : Int) + x.size + 1 + (ws.getD (i + s) ⟨#[]⟩).size ≤ width
        · refine .inl ?_
          rw [growL_snoc_yes hf, ← ih]; simp
        · refine .inr ⟨?_, out ++ [x], s, by omega, ?_⟩
          · rw [growL_snoc_no hf, ← ih]; simp
          · rw [growL_snoc_no hf, show s + 1 - s = 1 by omega]; rfl
    · have hs : s - d = (s - d - 1) + 1 := by omega
      have h1 := lineS_add (ws := ws) i d (s - d)
      rw [show d + (s - d) = s by omega] at h1
      have h2 := lineS_ge (ws := ws) i d
      have hf : (0 : Int) + (joinL ws (i + d) (s - d)).size + 1 + (ws.getD (i + s) ⟨#[]⟩).size ≤ width := by
        rw [joinL_size _ _ (by omega)]
        unfold szA at hl
        omega
      refine .inr ⟨?_, out, d, by omega, ?_⟩
      · rw [e] at ih ⊢
        rw [growL_snoc_yes hf, ← ih]; simp
      · rw [e, growL_snoc_yes hf, show s + 1 - d = s - d + 1 by omega, joinL_succ _ _ (by omega), show i + d + (s - d) = i + s by omega]
theorem fill_few {width : Int} : ∀ (ts : List Nat) (i : Nat), (∀ t ∈ ts, 1 ≤ t) → i + ts.sum ≤ ws.length → (∀ l ∈ partL ws i ts, (l.size : Int) ≤ width) → (fillL 0 width (ws.take (i + ts.sum))).length ≤ (fillL 0 width (ws.take i)).length + ts.length
  | [], i, _, _, _ => by simp
  | t :: ts, i, h1, h, hl => by
    rw [List.sum_cons] at h ⊢
    have ht := h1 t (by simp)
    have h3 := hl (joinL ws i t) (by rw [partL]; simp)
    rw [joinL_size i t ht] at h3
    have h4 := fill_few ts (i + t) (fun x hx => h1 x (by simp [hx])) (by omega) (fun l hm => hl l (by rw [partL]; simp [hm]))
    rw [← Nat.add_assoc, List.length_cons]
    rcases fill_more (ws := ws) (i := i) (width := width) t (by omega) h3 with h5 | ⟨h5, _⟩ <;> omega
/-! What a line costs -/
theorem ragI_ge (n width : Int) (b : Bool) : 0 ≤ ragI n width b := by
  unfold ragI
  split
  · omega
  · split
    · omega
    · split
      · exact Int.mul_nonneg (by omega) (by omega)
      · omega
theorem ragI_fit {n width : Int} {b : Bool} (h : n ≤ width) : ragI n width b ≤ 40000 := by
  unfold ragI
  rw [if_neg (by omega)]
  split
  · omega
  · split
    · have h1 : width - n ≤ 200 := by omega
      have h2 : 0 ≤ width - n := by omega
      have := Int.mul_le_mul h1 h1 h2 (by omega : (0 : Int) ≤ 200)
      omega
    · omega
theorem ragL_fit {width : Int} : ∀ ls : List ByteArray, (∀ l ∈ ls, (l.size : Int) ≤ width) → ragL width ls ≤ 40000 * ls.length
  | [], _ => by simp [ragL]
  | l :: ls, h => by
    have h1 := ragI_fit (b := ls.isEmpty) (h l (by simp))
    have h2 := ragL_fit ls (fun x hx => h x (by simp [hx]))
    rw [ragL, List.length_cons]
    omega
theorem ragL_ge {width : Int} : ∀ ls : List ByteArray, 0 ≤ ragL width ls
  | [] => by simp [ragL]
  | l :: ls => by
    have h1 := ragI_ge l.size width ls.isEmpty
    have h2 := ragL_ge (width := width) ls
    rw [ragL]; omega
theorem ragL_long {width : Int} : ∀ ls : List ByteArray, ∀ l ∈ ls, width < (l.size : Int) → 10000000 ≤ ragL width ls
  | l :: ls, x, hx, hl => by
    rw [ragL]
    rcases List.mem_cons.1 hx with rfl | hx
    · have h2 := ragL_ge (width := width) ls
      have : ragI x.size width ls.isEmpty = 10000000 := by unfold ragI; rw [if_pos hl]
      omega
    · have h1 := ragI_ge l.size width ls.isEmpty
      have h2 := ragL_long ls x hx hl
      omega
/-- the words in lines: the least ragged costs the least, and no fewer lines do -/
theorem wraps_law (hf : ∀ x ∈ ws, fineW x = true) (hn : ws.length ≤ 60) :
    wordsB ⟨(flatW (greedyL 0 width ws)).toArray⟩ = ws ∧ wordsB ⟨(flatW (bestL ws width)).toArray⟩ = ws ∧ leastL ws width = ragL width (bestL ws width) ∧ leastL ws width ≤ ragL width (greedyL 0 width ws) ∧
    ((∀ x ∈ ws, (x.size : Int) ≤ width) → (greedyL 0 width ws).length ≤ (bestL ws width).length) ∧ ∀ l ∈ greedyL 0 width ws, width < (l.size : Int) → (wordsB l).length = 1 := by
  have hok : okWords ws = true := by
    unfold okWords
    rw [Bool.and_eq_true]
    exact ⟨List.all_eq_true.2 hf, decide_eq_true hn⟩
  have eg : greedyL 0 width ws = fillL 0 width (ws.take ws.length) := by unfold greedyL; rw [if_pos hok, List.take_length]
  have eb : bestL ws width = bestI ws width 0 := by unfold bestL; rw [if_pos hok]; rfl
  have el : leastL ws width = leastF ws width 0 := by unfold leastL; rw [if_pos hok]
  obtain ⟨gs, g1, g2, g3⟩ := fill_part (ws := ws) (width := width) ws.length (Nat.le_refl _)
  obtain ⟨bs, b1, b2, b3, b4⟩ := best_part (ws := ws) (width := width) ws.length 0 (by omega) (Nat.zero_le _)
  rw [eg, eb, el]
  have hle : leastF ws width 0 ≤ ragL width (fillL 0 width (ws.take ws.length)) := by rw [g3]; exact least_le gs 0 g1 (by omega)
  refine ⟨by rw [g3]; exact words_part g1 g2 hf, by rw [b3]; exact words_part b1 (by omega) hf, b4, hle, fun hw => ?_, fun l hl hlw => ?_⟩
  · have hfit : ∀ l ∈ fillL 0 width (ws.take ws.length), (l.size : Int) ≤ width := fun l hl => by
      rcases fill_line ws.length (Nat.le_refl _) l hl with h | h
      · exact h
      · exact hw l h
    have h1 := ragL_fit _ hfit
    have h2 : (fillL 0 width (ws.take ws.length)).length ≤ ws.length := by have := greedyL_len 0 width ws; rwa [eg] at this
    have hbf : ∀ l ∈ bestI ws width 0, (l.size : Int) ≤ width := fun l hl => by
      by_cases h : (l.size : Int) ≤ width
      · exact h
      · have := ragL_long (width := width) _ l hl (by omega)
        omega
    rw [b3] at hbf
    have h3 := fill_few bs 0 b1 (by omega) hbf
    rw [show 0 + bs.sum = ws.length by omega] at h3
    rw [b3, partL_len]
    simpa [fillL] using h3
  · rcases fill_line ws.length (Nat.le_refl _) l hl with h | h
    · omega
    · rw [words_fine (hf l h)]; rfl
end
end Go.Proofs.YtjaginciejljkaaDoor
