/- The hunt for the cheapest values, said of lists. -/
import Derived.Test.YtllpgomloblfjaaHeapP
import Derived.Test.YtllpgomloblfjaaRendP
import Derived.Test.YtllpgomloblfjaaTiesMay
namespace Go.Proofs.Ytllpgomloblfjaa
open Go.RowKit

theorem mem_swapS {l : List StL} {i j : Nat} (hi : i < l.length) (hj : j < l.length) : ∀ y ∈ swapS l i j, y ∈ l := by
  intro y hy
  unfold swapS at hy
  rcases List.mem_or_eq_of_mem_set hy with h | h
  · rcases List.mem_or_eq_of_mem_set h with h | h
    · exact h
    · rw [h, ← stA_at hj]; exact List.getElem_mem _
  · rw [h, ← stA_at hi]; exact List.getElem_mem _
theorem mem_upF : ∀ (f : Nat) (l : List StL) (i : Nat), i < l.length → ∀ y ∈ upF f l i, y ∈ l
  | 0, _, _, _, _, hy => hy
  | f + 1, l, i, hi, y, hy => by
    unfold upF at hy
    split at hy
    · rename_i hc
      have hu := up_lt hc.1
      exact mem_swapS hi (by omega) y (mem_upF f _ _ (by rw [swap_len]; omega) y hy)
    · exact hy
theorem mem_pushL {l : List StL} {x : StL} : ∀ y ∈ pushL l x, y ∈ l ∨ y = x := fun y hy => by
  have := mem_upF _ _ _ (by simp) y hy
  simpa using this
theorem down_lt {l : List StL} {i : Nat} (h : 2 * i + 1 < l.length) : downN l i < l.length := by
  unfold downN
  split
  · rename_i hc; exact hc.1
  · exact h
theorem mem_downF : ∀ (f : Nat) (l : List StL) (i : Nat), ∀ y ∈ downF f l i, y ∈ l
  | 0, _, _, _, hy => hy
  | f + 1, l, i, y, hy => by
    unfold downF at hy
    split at hy
    · rename_i hc
      exact mem_swapS (by omega) (down_lt hc.1) y (mem_downF f _ _ y hy)
    · exact hy
theorem mem_popL {l : List StL} (hp : 0 < l.length) : ∀ y ∈ popL l, y ∈ l := fun y hy => by
  have h1 := List.mem_of_mem_take (mem_downF _ _ _ y hy)
  rcases List.mem_or_eq_of_mem_set h1 with h | h
  · exact h
  · rw [h, ← stA_at (show l.length - 1 < l.length by omega)]; exact List.getElem_mem _
def sumF (f : StL → Nat) (l : List StL) : Nat := (l.map f).sum
section
variable (f : StL → Nat)
theorem sumF_set : ∀ (l : List StL) (i : Nat) (x : StL), i < l.length → sumF f (l.set i x) + f (stA l i) = sumF f l + f x
  | [], i, x, h => by simp at h
  | a :: l, 0, x, _ => by simp [sumF, stA]; omega
  | a :: l, i + 1, x, h => by
    have := sumF_set l i x (by simpa using h)
    simp only [sumF, List.set_cons_succ, List.map_cons, List.sum_cons] at *
    have e : stA (a :: l) (i + 1) = stA l i := by simp [stA]
    rw [e]; omega
theorem sumF_swap {l : List StL} {i j : Nat} (hi : i < l.length) (hj : j < l.length) : sumF f (swapS l i j) = sumF f l := by
  unfold swapS
  have h1 := sumF_set f l i (stA l j) hi
  have h2 := sumF_set f (l.set i (stA l j)) j (stA l i) (by rw [List.length_set]; exact hj)
  rw [stA_set _ _ _ _ hi] at h2
  by_cases e : i = j
  · subst e; rw [if_pos rfl] at h2; omega
  · rw [if_neg e] at h2; omega
theorem sumF_snoc (l : List StL) (x : StL) : sumF f (l ++ [x]) = sumF f l + f x := by simp [sumF]
theorem sumF_upF : ∀ (n : Nat) (l : List StL) (i : Nat), i < l.length → sumF f (upF n l i) = sumF f l
  | 0, _, _, _ => rfl
  | n + 1, l, i, hi => by
    unfold upF
    split
    · rename_i hc
      have hu := up_lt hc.1
      rw [sumF_upF n _ _ (by rw [swap_len]; omega), sumF_swap f hi (by omega)]
    · rfl
theorem sumF_push (l : List StL) (x : StL) : sumF f (pushL l x) = sumF f l + f x := by
  unfold pushL
  rw [sumF_upF f _ _ _ (by simp), sumF_snoc]
theorem sumF_downF : ∀ (n : Nat) (l : List StL) (i : Nat), sumF f (downF n l i) = sumF f l
  | 0, _, _ => rfl
  | n + 1, l, i => by
    unfold downF
    split
    · rename_i hc
      rw [sumF_downF n, sumF_swap f (by omega) (down_lt hc.1)]
    · rfl
theorem sumF_pop {l : List StL} (hp : 0 < l.length) : sumF f (popL l) + f (stA l 0) = sumF f l := by
  unfold popL
  rw [sumF_downF]
  have h1 := sumF_set f l 0 (stA l (l.length - 1)) hp
  have hl : l.length - 1 < (l.set 0 (stA l (l.length - 1))).length := by rw [List.length_set]; omega
  have e := List.take_succ_eq_append_getElem hl
  rw [show l.length - 1 + 1 = l.length by omega, List.take_of_length_le (by rw [List.length_set]; exact Nat.le_refl _)] at e
  have e4 : (l.set 0 (stA l (l.length - 1)))[l.length - 1] = stA l (l.length - 1) := by
    rw [stA_at hl, stA_set l 0 _ _ hp]
    split <;> rfl
  rw [e4] at e
  have e5 := (congrArg (sumF f) e).trans (sumF_snoc f _ _)
  omega
theorem len_sumF (h : ∀ x, 1 ≤ f x) : ∀ l : List StL, l.length ≤ sumF f l
  | [] => Nat.zero_le _
  | a :: l => by
    have h1 := h a
    have h2 := len_sumF h l
    simp only [sumF, List.map_cons, List.sum_cons, List.length_cons] at *
    omega
end
/-- how many states lie at or below one that still has d rules to go -/
def wtN : Nat → Nat
  | 0 => 1
  | d + 1 => 1 + 3 * wtN d
theorem wtN_pos : ∀ d, 1 ≤ wtN d
  | 0 => Nat.le_refl _
  | d + 1 => by unfold wtN; omega
theorem wtN_mono {d e : Nat} (h : d ≤ e) : wtN d ≤ wtN e := by
  induction e with
  | zero => rw [show d = 0 by omega]; exact Nat.le_refl _
  | succ e ih =>
    by_cases h1 : d = e + 1
    · rw [h1]; exact Nat.le_refl _
    · have := ih (by omega)
      show wtN d ≤ 1 + 3 * wtN e
      omega
theorem wtN_8 {d : Nat} (h : d ≤ 8) : wtN d ≤ 9841 := wtN_mono h
def wtS (x : Piece) (s : StL) : Nat := wtN (x.rules.length - s.vals.length)
def sumW (x : Piece) (l : List StL) : Nat := sumF (wtS x) l
theorem len_sumW (x : Piece) (l : List StL) : l.length ≤ sumW x l := len_sumF _ (fun _ => wtN_pos _) l
def pushOk (x : Piece) (c : CostL) (vs : List Int) : Bool := tiesMay x.ties vs && !(decide (c.over = 0) && decide (c.sum < boundOf x vs))
/-- the states that have one value more, the first k of them pushed -/
def openTo (x : Piece) (c : CostL) (vals : List Int) : Nat → List StL → List StL
  | 0, h => h
  | k + 1, h => if pushOk x c (vals ++ [(k : Int)]) then pushL (openTo x c vals k h) ⟨vals ++ [(k : Int)], boundOf x (vals ++ [(k : Int)])⟩ else openTo x c vals k h
def valsN (x : Piece) (n : Nat) : Nat := (ruleAt x.rules n).values.toNat
def openL (x : Piece) (c : CostL) (vals : List Int) (h : List StL) : List StL := openTo x c vals (valsN x vals.length) h
def betterB (y c : CostL) (v best : List Int) : Bool := costLess y c || (decide (y.over = c.over) && decide (y.sum = c.sum) && decide (cmpL v best < 0))
structure HuntR where
  best : List Int
  state : Int
  pops : Int
theorem pop_short {l : List StL} : (popL l).length ≤ l.length := by
  unfold popL
  have : ∀ (f : Nat) (l : List StL) (i : Nat), (downF f l i).length = l.length := by
    intro f
    induction f with
    | zero => exact fun _ _ => rfl
    | succ f ih =>
      intro l i
      unfold downF
      split
      · rw [ih, swap_len]
      · rfl
  rw [this, List.length_take, List.length_set]
  omega
/-- the hunt -/
def huntF (x : Piece) (w budget : Int) : Nat → Int → List StL → List Int → CostL → HuntR
  | 0, pops, _, best, _ => ⟨best, 1, pops⟩
  | f + 1, pops, heap, best, c =>
    if heap.length = 0 then ⟨best, 1, pops⟩
    else if budget ≤ pops then ⟨best, 2, pops⟩
    else if (stA heap 0).vals.length = x.rules.length then
      if betterB (costR x (stA heap 0).vals w) c (stA heap 0).vals best then huntF x w budget f (pops + 1) (popL heap) (stA heap 0).vals (costR x (stA heap 0).vals w)
      else huntF x w budget f (pops + 1) (popL heap) best c
    else huntF x w budget f (pops + 1) (openL x c (stA heap 0).vals (popL heap)) best c
def allL (x : Piece) : List Int := x.rules.map fun r => r.values - 1
def huntL (x : Piece) (w budget : Int) : HuntR := huntF x w budget (wtN x.rules.length + 1) 0 [⟨[], 0⟩] (allL x) (costR x (allL x) w)
/-- the states of a heap have right values -/
def Fit (x : Piece) (heap : List StL) : Prop := ∀ s ∈ heap, RightV x s.vals
theorem fit_snoc {x : Piece} (hx : Right x) {vals : List Int} (h : RightV x vals) (hl : vals.length < x.rules.length) {k : Nat} (hk : k < valsN x vals.length) : RightV x (vals ++ [(k : Int)]) := by
  refine ⟨by rw [List.length_append]; simp; omega, fun i hi => ?_⟩
  by_cases h1 : i < vals.length
  · rw [List.getElem_append_left h1]; exact h.val i h1
  · have e : i = vals.length := by rw [List.length_append] at hi; simp at hi; omega
    subst e
    rw [List.getElem_append_right (Nat.le_refl _)]
    unfold valsN at hk
    rw [ruleAt_lt hl] at hk
    have := hx.rule _ hl
    simp
    omega
theorem fit_open {x : Piece} (hx : Right x) {c : CostL} {vals : List Int} (h : RightV x vals) (hl : vals.length < x.rules.length) {heap : List StL} (hf : Fit x heap) : ∀ k, k ≤ valsN x vals.length → Fit x (openTo x c vals k heap)
  | 0, _ => hf
  | k + 1, hk => by
    have ih := fit_open hx (c := c) h hl hf k (by omega)
    unfold openTo
    split
    · intro s hs
      rcases mem_pushL s hs with h1 | h1
      · exact ih s h1
      · rw [h1]; exact fit_snoc hx h hl hk
    · exact ih
theorem sumW_open {x : Piece} {c : CostL} {vals : List Int} (hl : vals.length < x.rules.length) {heap : List StL} : ∀ k, sumW x (openTo x c vals k heap) ≤ sumW x heap + k * wtN (x.rules.length - vals.length - 1)
  | 0 => by show sumW x heap ≤ _; omega
  | k + 1 => by
    have ih := sumW_open (c := c) hl (heap := heap) k
    have e : (k + 1) * wtN (x.rules.length - vals.length - 1) = k * wtN (x.rules.length - vals.length - 1) + wtN (x.rules.length - vals.length - 1) := Nat.succ_mul _ _
    unfold openTo
    split
    · have h1 : sumW x (pushL (openTo x c vals k heap) ⟨vals ++ [(k : Int)], boundOf x (vals ++ [(k : Int)])⟩) = sumW x (openTo x c vals k heap) + wtS x ⟨vals ++ [(k : Int)], boundOf x (vals ++ [(k : Int)])⟩ := sumF_push _ _ _
      have h2 : wtS x ⟨vals ++ [(k : Int)], boundOf x (vals ++ [(k : Int)])⟩ = wtN (x.rules.length - vals.length - 1) := by
        unfold wtS
        rw [show (⟨vals ++ [(k : Int)], boundOf x (vals ++ [(k : Int)])⟩ : StL).vals.length = vals.length + 1 by simp, Nat.sub_sub]
      rw [h1, h2]
      omega
    · omega
/-- what holds before each round of the hunt -/
structure HuntSt (x : Piece) (w budget : Int) (goal : HuntR) (pops : Nat) (heap : List StL) (best : List Int) (c : CostL) : Prop where
  fit : Fit x heap
  rightB : RightV x best
  full : best.length = x.rules.length
  over : 0 ≤ c.over
  cost : c = costR x best w
  left : pops + sumW x heap ≤ 9841
  goal : ∃ f, sumW x heap < f ∧ huntF x w budget f pops heap best c = goal
theorem all_fit {x : Piece} (hx : Right x) : RightV x (allL x) ∧ (allL x).length = x.rules.length := by
  have hl : (allL x).length = x.rules.length := by simp [allL]
  refine ⟨⟨Nat.le_of_eq hl, fun i hi => ?_⟩, hl⟩
  have h1 := hx.rule i (by omega)
  simp only [allL, List.getElem_map]
  omega
theorem hunt_start {x : Piece} (hx : Right x) (hs : Sized x) (w budget : Int) : HuntSt x w budget (huntL x w budget) 0 [⟨[], 0⟩] (allL x) (costR x (allL x) w) := by
  obtain ⟨h1, h2⟩ := all_fit hx
  have h3 : sumW x [⟨[], 0⟩] = wtN x.rules.length := by
    show (([⟨[], 0⟩] : List StL).map (wtS x)).sum = _
    simp [wtS]
  refine ⟨fun s hs => ?_, h1, h2, (cost_bd hx hs h1 w).1, rfl, ?_, wtN x.rules.length + 1, by omega, rfl⟩
  · obtain rfl := List.mem_singleton.1 hs
    exact ⟨Nat.zero_le _, fun i hi => absurd hi (Nat.not_lt_zero _)⟩
  · rw [h3]; have := wtN_8 hx.rules; omega
theorem hunt_end {x : Piece} {w budget : Int} {goal : HuntR} {pops : Nat} {heap : List StL} {best : List Int} {c : CostL} (h : HuntSt x w budget goal pops heap best c) (h0 : heap.length = 0) : goal = ⟨best, 1, pops⟩ := by
  obtain ⟨f, hf, e⟩ := h.goal
  cases f with
  | zero => omega
  | succ f => rw [huntF, if_pos h0] at e; exact e.symm
theorem hunt_stop {x : Piece} {w budget : Int} {goal : HuntR} {pops : Nat} {heap : List StL} {best : List Int} {c : CostL} (h : HuntSt x w budget goal pops heap best c) (h0 : 0 < heap.length) (hb : budget ≤ pops) : goal = ⟨best, 2, pops⟩ := by
  obtain ⟨f, hf, e⟩ := h.goal
  cases f with
  | zero => omega
  | succ f => rw [huntF, if_neg (by omega), if_pos hb] at e; exact e.symm
theorem wt_full {x : Piece} {s : StL} : 1 ≤ wtS x s := wtN_pos _
theorem hunt_try {x : Piece} (hx : Right x) (hs : Sized x) {w budget : Int} {goal : HuntR} {pops : Nat} {heap : List StL} {best : List Int} {c : CostL} (h : HuntSt x w budget goal pops heap best c) (h0 : 0 < heap.length) (hb : ¬ budget ≤ pops) (hv : (stA heap 0).vals.length = x.rules.length) :
    (betterB (costR x (stA heap 0).vals w) c (stA heap 0).vals best = true → HuntSt x w budget goal (pops + 1) (popL heap) (stA heap 0).vals (costR x (stA heap 0).vals w)) ∧
    (betterB (costR x (stA heap 0).vals w) c (stA heap 0).vals best = false → HuntSt x w budget goal (pops + 1) (popL heap) best c) ∧ sumW x (popL heap) < sumW x heap ∧ RightV x (stA heap 0).vals := by
  obtain ⟨f, hf, e⟩ := h.goal
  have h1 : sumW x (popL heap) + wtS x (stA heap 0) = sumW x heap := sumF_pop _ h0
  have h2 := wt_full (x := x) (s := stA heap 0)
  have h3 := h.left
  have hfit : Fit x (popL heap) := fun s hs => h.fit s (mem_popL h0 s hs)
  have hst : RightV x (stA heap 0).vals := h.fit _ (by rw [← stA_at h0]; exact List.getElem_mem _)
  cases f with
  | zero => omega
  | succ f =>
    rw [huntF, if_neg (by omega), if_neg hb, if_pos hv] at e
    refine ⟨fun hB => ?_, fun hB => ?_, by omega, hst⟩
    · rw [if_pos hB] at e
      exact ⟨hfit, hst, hv, (cost_bd hx hs hst w).1, rfl, by omega, f, by omega, e⟩
    · rw [if_neg (by rw [hB]; decide)] at e
      exact ⟨hfit, h.rightB, h.full, h.over, h.cost, by omega, f, by omega, e⟩
theorem hunt_open {x : Piece} (hx : Right x) {w budget : Int} {goal : HuntR} {pops : Nat} {heap : List StL} {best : List Int} {c : CostL} (h : HuntSt x w budget goal pops heap best c) (h0 : 0 < heap.length) (hb : ¬ budget ≤ pops) (hv : (stA heap 0).vals.length ≠ x.rules.length) :
    HuntSt x w budget goal (pops + 1) (openL x c (stA heap 0).vals (popL heap)) best c ∧ RightV x (stA heap 0).vals ∧ (stA heap 0).vals.length < x.rules.length ∧ sumW x (openL x c (stA heap 0).vals (popL heap)) < sumW x heap := by
  obtain ⟨f, hf, e⟩ := h.goal
  have h1 : sumW x (popL heap) + wtS x (stA heap 0) = sumW x heap := sumF_pop _ h0
  have h3 := h.left
  have hfit : Fit x (popL heap) := fun s hs => h.fit s (mem_popL h0 s hs)
  have hst : RightV x (stA heap 0).vals := h.fit _ (by rw [← stA_at h0]; exact List.getElem_mem _)
  have hlt : (stA heap 0).vals.length < x.rules.length := by have := hst.len; omega
  have h4 : sumW x (openL x c (stA heap 0).vals (popL heap)) ≤ _ := sumW_open (c := c) hlt (heap := popL heap) (valsN x (stA heap 0).vals.length)
  have h5 : valsN x (stA heap 0).vals.length ≤ 3 := by
    unfold valsN
    rw [ruleAt_lt hlt]
    have := hx.rule _ hlt
    omega
  have h6 : valsN x (stA heap 0).vals.length * wtN (x.rules.length - (stA heap 0).vals.length - 1) ≤ 3 * wtN (x.rules.length - (stA heap 0).vals.length - 1) := Nat.mul_le_mul_right _ h5
  have h7 : wtS x (stA heap 0) = 1 + 3 * wtN (x.rules.length - (stA heap 0).vals.length - 1) := by
    unfold wtS
    obtain ⟨d, hd⟩ : ∃ d, x.rules.length - (stA heap 0).vals.length = d + 1 := ⟨x.rules.length - (stA heap 0).vals.length - 1, by omega⟩
    rw [hd]; rfl
  cases f with
  | zero => omega
  | succ f =>
    rw [huntF, if_neg (by omega), if_neg hb, if_neg hv] at e
    exact ⟨⟨fit_open hx hst hlt hfit _ (Nat.le_refl _), h.rightB, h.full, h.over, h.cost, by omega, f, by omega, e⟩, hst, hlt, by omega⟩
end Go.Proofs.Ytllpgomloblfjaa
