/- The hunt finds the cheapest values, said of lists. -/
import Derived.Test.YtllpgomloblfjaaHuntP
namespace Go.Proofs.Ytllpgomloblfjaa
open Go.RowKit

theorem cmpL_self : ∀ a : List Int, cmpL a a = 0
  | [] => rfl
  | a :: xs => by simp only [cmpL]; rw [if_neg (Int.lt_irrefl a), if_neg (Int.lt_irrefl a)]; exact cmpL_self xs
theorem cmpL_neg : ∀ a b : List Int, cmpL a b = - cmpL b a
  | [], [] => rfl
  | [], _ :: _ => rfl
  | _ :: _, [] => rfl
  | a :: xs, b :: ys => by
    simp only [cmpL]
    by_cases h1 : a < b
    · rw [if_pos h1, if_neg (by omega), if_pos h1]
    · by_cases h2 : b < a
      · rw [if_neg h1, if_pos h2, if_pos h2]; rfl
      · rw [if_neg h1, if_neg h2, if_neg h2, if_neg h1]; exact cmpL_neg xs ys
theorem cmpL_zero : ∀ a b : List Int, cmpL a b = 0 → a = b
  | [], [], _ => rfl
  | [], _ :: _, h => by simp [cmpL] at h
  | _ :: _, [], h => by simp [cmpL] at h
  | a :: xs, b :: ys, h => by
    simp only [cmpL] at h
    by_cases h1 : a < b
    · rw [if_pos h1] at h; omega
    · by_cases h2 : b < a
      · rw [if_neg h1, if_pos h2] at h; omega
      · rw [if_neg h1, if_neg h2] at h
        rw [cmpL_zero xs ys h, show a = b by omega]
theorem cmpL_bd : ∀ a b : List Int, -1 ≤ cmpL a b ∧ cmpL a b ≤ 1
  | [], [] => by simp [cmpL]
  | [], _ :: _ => by simp [cmpL]
  | _ :: _, [] => by simp [cmpL]
  | a :: xs, b :: ys => by
    simp only [cmpL]
    split
    · omega
    · split
      · omega
      · exact cmpL_bd xs ys
theorem cmpL_lt {a b c : List Int} (h1 : cmpL a b < 0) (h2 : cmpL b c < 0) : cmpL a c < 0 := by
  have e1 := cmpL_neg a b
  have e2 := cmpL_neg b c
  have e3 := cmpL_neg a c
  have h3 := cmpL_trans a b c (by omega) (by omega)
  by_cases h : cmpL a c = 0
  · obtain rfl := cmpL_zero a c h
    omega
  · omega
theorem better_iff {y c : CostL} {v b : List Int} : betterB y c v b = true ↔ y.over < c.over ∨ (y.over = c.over ∧ (y.sum < c.sum ∨ (y.sum = c.sum ∧ cmpL v b < 0))) := by
  unfold betterB costLess
  simp only [Bool.or_eq_true, Bool.and_eq_true, decide_eq_true_eq]
  constructor
  · rintro ((h | ⟨h1, h2⟩) | ⟨⟨h1, h2⟩, h3⟩)
    · exact .inl h
    · exact .inr ⟨h1, .inl h2⟩
    · exact .inr ⟨h1, .inr ⟨h2, h3⟩⟩
  · rintro (h | ⟨h1, h2 | ⟨h2, h3⟩⟩)
    · exact .inl (.inl h)
    · exact .inl (.inr ⟨h1, h2⟩)
    · exact .inr ⟨⟨h1, h2⟩, h3⟩
theorem less_cost {y c : CostL} : costLess y c = true ↔ y.over < c.over ∨ (y.over = c.over ∧ y.sum < c.sum) := by
  unfold costLess
  simp only [Bool.or_eq_true, Bool.and_eq_true, decide_eq_true_eq]
theorem better_trans {a b c : CostL} {u v w : List Int} (h1 : betterB a b u v = true) (h2 : betterB b c v w = true) : betterB a c u w = true := by
  rw [better_iff] at *
  rcases h1 with h1 | ⟨h1, h3 | ⟨h3, h4⟩⟩
  · rcases h2 with h2 | ⟨h2, _⟩
    · left; omega
    · left; omega
  · rcases h2 with h2 | ⟨h2, h5 | ⟨h5, _⟩⟩
    · left; omega
    · right; exact ⟨by omega, .inl (by omega)⟩
    · right; exact ⟨by omega, .inl (by omega)⟩
  · rcases h2 with h2 | ⟨h2, h5 | ⟨h5, h6⟩⟩
    · left; omega
    · right; exact ⟨by omega, .inl (by omega)⟩
    · right; exact ⟨by omega, .inr ⟨by omega, cmpL_lt h4 h6⟩⟩
theorem better_self (c : CostL) (v : List Int) : betterB c c v v = false := by
  rw [← Bool.not_eq_true, better_iff, cmpL_self]
  omega
/-- right values of the first rules -/
structure ValsR (x : Piece) (v : List Int) : Prop where
  len : v.length ≤ x.rules.length
  val : ∀ i (h : i < v.length) (hr : i < x.rules.length), 0 ≤ v[i] ∧ v[i] < x.rules[i].values
theorem ValsR.right {x : Piece} {v : List Int} (h : ValsR x v) (hx : Right x) : RightV x v := ⟨h.len, fun i hi => by
  have h1 := h.val i hi (by have := h.len; omega)
  have h2 := hx.rule i (by have := h.len; omega)
  omega⟩
theorem ValsR.front {x : Piece} {s t : List Int} (h : ValsR x (s ++ t)) : ValsR x s := by
  have h1 := h.len
  rw [List.length_append] at h1
  refine ⟨by omega, fun i hi hr => ?_⟩
  have := h.val i (by rw [List.length_append]; omega) hr
  rwa [List.getElem_append_left hi] at this
/-- right values that keep the ties -/
structure GoodV (x : Piece) (v : List Int) : Prop where
  full : v.length = x.rules.length
  vals : ValsR x v
  ties : tiesMay x.ties v = true
theorem getD_front {s t : List Int} {i : Nat} (h : i < s.length) : (s ++ t).getD i 0 = s.getD i 0 := by
  simp [List.getD, List.getElem?_append_left h]
theorem tiesMay_front {ts : List Tie} {s t : List Int} (h : tiesMay ts (s ++ t) = true) : tiesMay ts s = true := by
  unfold tiesMay at *
  rw [List.all_eq_true] at *
  intro q hq
  have h1 := h q hq
  unfold tieMay at *
  rw [List.length_append] at h1
  cases hk : inR q.kid 0 ((s.length : Int) - 1) with
  | false => simp
  | true =>
    cases hu : inR q.up 0 ((s.length : Int) - 1) with
    | false => simp
    | true =>
      have a1 := inR_of hk
      have a2 := inR_of hu
      rw [inR_yes (by omega) (by omega), inR_yes (by omega) (by omega), getD_front (by omega), getD_front (by omega)] at h1
      exact h1
theorem costTo_front {x : Piece} {s t : List Int} : ∀ k, k ≤ s.length → costTo x (s ++ t) k = costTo x s k
  | 0, _ => rfl
  | k + 1, h => by
    show costTo x (s ++ t) k + (s ++ t).getD k 0 * _ = costTo x s k + s.getD k 0 * _
    rw [costTo_front k (by omega), getD_front (by omega)]
theorem costTo_up {x : Piece} (hx : Right x) {v : List Int} (hv : RightV x v) {a : Nat} : ∀ k, a + k ≤ v.length → costTo x v a ≤ costTo x v (a + k)
  | 0, _ => Int.le_refl _
  | k + 1, h => by
    have h1 := costTo_up hx hv (a := a) k (by omega)
    have hl := hv.len
    rw [← Nat.add_assoc, costTo_succ (x := x) (v := v) (k := a + k) (by omega) (by omega)]
    have h2 := hx.rule (a + k) (by omega)
    have h3 := hv.val (a + k) (by omega)
    have := mul_bd (n := v[a + k]) (c := x.rules[a + k].cost) h3 (by omega)
    omega
theorem anyAt_front {x : Piece} (hx : Right x) {s t : List Int} {a : Nat} : ∀ b, b < x.chunks.length → anyAt x s a b = true → anyAt x (s ++ t) a b = true := by
  intro b hb h
  unfold anyAt at h
  rw [List.any_eq_true] at h
  obtain ⟨d, hd, h1⟩ := h
  rw [List.mem_range] at hd
  refine anyAt_yes (k := a + d) (by omega) (by omega) ?_
  unfold spanAt splitsAt at *
  rw [Bool.and_eq_true, decide_eq_true_eq, decide_eq_true_eq] at *
  have h2 := chunk_of hx (i := a + d) (by omega)
  rw [chunkAt_lt (by omega)] at *
  rw [List.length_append, getD_front (by omega)]
  exact ⟨by omega, h1.2⟩
theorem spanTo_front {x : Piece} (hx : Right x) {s t : List Int} : ∀ k, k ≤ x.spans.length → spanTo x s k ≤ spanTo x (s ++ t) k
  | 0, _ => Int.le_refl _
  | k + 1, h => by
    have h1 := spanTo_front hx (s := s) (t := t) k (by omega)
    have h2 := hx.span k (by omega)
    rw [spanTo_succ (by omega), spanTo_succ (by omega)]
    by_cases h3 : splitSpan x s x.spans[k] = true
    · rw [if_pos h3, if_pos (show splitSpan x (s ++ t) x.spans[k] = true from anyAt_front hx _ (by omega) h3)]
      omega
    · rw [if_neg h3]
      split <;> omega
/-- what the first values cost at least no list that begins with them falls below -/
theorem bound_front {x : Piece} (hx : Right x) {s t : List Int} (hv : RightV x (s ++ t)) : boundOf x s ≤ boundOf x (s ++ t) := by
  unfold boundOf
  have h1 := spanTo_front hx (s := s) (t := t) x.spans.length (Nat.le_refl _)
  have h2 := costTo_up hx hv (a := s.length) t.length (by rw [List.length_append]; exact Nat.le_refl _)
  rw [costTo_front _ (Nat.le_refl _)] at h2
  rw [List.length_append]
  omega
/-- the cheapest values, the first of them -/
structure IsBest (x : Piece) (w : Int) (b : List Int) : Prop where
  good : GoodV x b
  least : ∀ v, GoodV x v → betterB (costR x v w) (costR x b w) v b = false
theorem IsBest.one {x : Piece} {w : Int} {a b : List Int} (h1 : IsBest x w a) (h2 : IsBest x w b) : a = b := by
  have k1 := h1.least b h2.good
  have k2 := h2.least a h1.good
  rw [← Bool.not_eq_true, better_iff] at k1 k2
  have e := cmpL_neg a b
  refine cmpL_zero a b ?_
  by_cases c1 : (costR x a w).over = (costR x b w).over
  · by_cases c2 : (costR x a w).sum = (costR x b w).sum
    · by_cases c3 : cmpL a b < 0
      · exact absurd (.inr ⟨c1, .inr ⟨c2, c3⟩⟩) k2
      · by_cases c4 : cmpL b a < 0
        · exact absurd (.inr ⟨c1.symm, .inr ⟨c2.symm, c4⟩⟩) k1
        · omega
    · by_cases c3 : (costR x a w).sum < (costR x b w).sum
      · exact absurd (.inr ⟨c1, .inl c3⟩) k2
      · exact absurd (.inr ⟨c1.symm, .inl (by omega)⟩) k1
  · by_cases c3 : (costR x a w).over < (costR x b w).over
    · exact absurd (.inl c3) k2
    · exact absurd (.inl (by omega)) k1
/-- 1 where a state stands ahead of v -/
def preC (v : List Int) (s : StL) : Nat := if s.vals <+: v then 1 else 0
theorem preC_one {v : List Int} {s : StL} (h : s.vals <+: v) : preC v s = 1 := if_pos h
theorem preC_of {v : List Int} {s : StL} (h : preC v s ≠ 0) : s.vals <+: v := by
  unfold preC at h
  by_cases c : s.vals <+: v
  · exact c
  · rw [if_neg c] at h; exact absurd rfl h
theorem open_ge (f : StL → Nat) {x : Piece} {c : CostL} {vals : List Int} {h : List StL} : ∀ k, sumF f h ≤ sumF f (openTo x c vals k h)
  | 0 => Nat.le_refl _
  | k + 1 => by
    have ih := open_ge f (x := x) (c := c) (vals := vals) (h := h) k
    unfold openTo
    split
    · rw [sumF_push]; omega
    · exact ih
theorem open_has (f : StL → Nat) {x : Piece} {c : CostL} {vals : List Int} {h : List StL} {j : Nat} (hp : pushOk x c (vals ++ [(j : Int)]) = true) : ∀ k, j < k → f ⟨vals ++ [(j : Int)], boundOf x (vals ++ [(j : Int)])⟩ ≤ sumF f (openTo x c vals k h)
  | 0, hj => absurd hj (Nat.not_lt_zero _)
  | k + 1, hj => by
    unfold openTo
    by_cases e : j = k
    · subst e
      rw [if_pos hp, sumF_push]; omega
    · have ih := open_has f (h := h) hp k (by omega)
      split
      · rw [sumF_push]; omega
      · exact ih
/-- how many states lie at or below one -/
def wtQ : List Rule → Nat
  | [] => 1
  | r :: rs => 1 + r.values.toNat * wtQ rs
def wtE (x : Piece) (s : StL) : Nat := wtQ (x.rules.drop s.vals.length)
theorem wtQ_pos : ∀ rs, 1 ≤ wtQ rs
  | [] => Nat.le_refl _
  | r :: rs => by unfold wtQ; omega
theorem wtE_open {x : Piece} {c : CostL} {vals : List Int} {heap : List StL} : ∀ k, sumF (wtE x) (openTo x c vals k heap) ≤ sumF (wtE x) heap + k * wtQ (x.rules.drop (vals.length + 1))
  | 0 => by show sumF (wtE x) heap ≤ _; omega
  | k + 1 => by
    have ih := wtE_open (x := x) (c := c) (vals := vals) (heap := heap) k
    have e : (k + 1) * wtQ (x.rules.drop (vals.length + 1)) = k * wtQ (x.rules.drop (vals.length + 1)) + wtQ (x.rules.drop (vals.length + 1)) := Nat.succ_mul _ _
    unfold openTo
    split
    · rw [sumF_push]
      have h2 : wtE x ⟨vals ++ [(k : Int)], boundOf x (vals ++ [(k : Int)])⟩ = wtQ (x.rules.drop (vals.length + 1)) := by
        unfold wtE
        rw [show (⟨vals ++ [(k : Int)], boundOf x (vals ++ [(k : Int)])⟩ : StL).vals.length = vals.length + 1 by simp]
      omega
    · omega
theorem wtE_at {x : Piece} {s : StL} (h : s.vals.length < x.rules.length) : wtE x s = 1 + valsN x s.vals.length * wtQ (x.rules.drop (s.vals.length + 1)) := by
  unfold wtE valsN
  rw [List.drop_eq_getElem_cons h, ruleAt_lt h]
  rfl
/-- what holds before each round, beside HuntSt -/
structure HuntV (x : Piece) (w : Int) (heap : List StL) (best : List Int) (c : CostL) : Prop where
  good : GoodV x best
  fit : ∀ s ∈ heap, ValsR x s.vals ∧ tiesMay x.ties s.vals = true
  cov : ∀ v, GoodV x v → betterB (costR x v w) c v best = true → 0 < sumF (preC v) heap
  all : costLess (costR x (allL x) w) c = false
theorem sum_none (f : StL → Nat) {l : List StL} (h : l.length = 0) : sumF f l = 0 := by
  obtain rfl := List.eq_nil_of_length_eq_zero h
  rfl
theorem vals_snoc {x : Piece} {vals : List Int} (h : ValsR x vals) (hl : vals.length < x.rules.length) {k : Nat} (hk : (k : Int) < x.rules[vals.length].values) : ValsR x (vals ++ [(k : Int)]) := by
  refine ⟨by rw [List.length_append]; simp; omega, fun i hi hr => ?_⟩
  by_cases h1 : i < vals.length
  · rw [List.getElem_append_left h1]; exact h.val i h1 hr
  · have e : i = vals.length := by rw [List.length_append] at hi; simp at hi; omega
    subst e
    rw [List.getElem_append_right (Nat.le_refl _)]
    simp
    exact hk
theorem vals_open {x : Piece} {c : CostL} {vals : List Int} (h : ValsR x vals) (hl : vals.length < x.rules.length) {heap : List StL} (hf : ∀ s ∈ heap, ValsR x s.vals ∧ tiesMay x.ties s.vals = true) : ∀ k : Nat, (k : Int) ≤ x.rules[vals.length].values → ∀ s ∈ openTo x c vals k heap, ValsR x s.vals ∧ tiesMay x.ties s.vals = true
  | 0, _ => hf
  | k + 1, hk => by
    have ih := vals_open (c := c) h hl hf k (by omega)
    unfold openTo
    split
    · rename_i hp
      intro s hs
      rcases mem_pushL s hs with h1 | h1
      · exact ih s h1
      · rw [h1]
        refine ⟨vals_snoc h hl (by omega), ?_⟩
        unfold pushOk at hp
        rw [Bool.and_eq_true] at hp
        exact hp.1
    · exact ih
theorem all_good {x : Piece} (hx : Right x) : GoodV x (allL x) := by
  have hl : (allL x).length = x.rules.length := by simp [allL]
  have ha : ∀ i (h : i < x.rules.length), (allL x)[i]'(by omega) = x.rules[i].values - 1 := fun i h => by simp [allL]
  refine ⟨hl, ⟨Nat.le_of_eq hl, fun i hi hr => ?_⟩, ?_⟩
  · rw [ha i hr]
    have := hx.rule i hr
    omega
  · unfold tiesMay
    rw [List.all_eq_true]
    intro q hq
    obtain ⟨i, hi, rfl⟩ := List.getElem_of_mem hq
    have h1 := hx.tie i hi
    unfold tieMay
    have h2 : (allL x).getD (x.ties[i]).up.toNat 0 = x.rules[(x.ties[i]).up.toNat].values - 1 := by
      rw [getD_at (by omega), ha]
    have h3 := hx.rule (x.ties[i]).up.toNat (by omega)
    rw [h2, decide_eq_false (show ¬ x.rules[(x.ties[i]).up.toNat].values - 1 = 0 by omega)]
    simp
theorem huntV_start {x : Piece} (hx : Right x) (w : Int) : HuntV x w [⟨[], 0⟩] (allL x) (costR x (allL x) w) := by
  refine ⟨all_good hx, fun s hs => ?_, fun v _ _ => ?_, ?_⟩
  · obtain rfl := List.mem_singleton.1 hs
    refine ⟨⟨Nat.zero_le _, fun i hi => absurd hi (Nat.not_lt_zero _)⟩, ?_⟩
    unfold tiesMay tieMay
    rw [List.all_eq_true]
    intro q _
    rw [inR_no (by simp; omega)]
    rfl
  · show 0 < (([⟨[], 0⟩] : List StL).map (preC v)).sum
    simp [preC]
  · rw [← Bool.not_eq_true, less_cost]; omega
theorem huntV_try {x : Piece} {w : Int} {heap : List StL} {best : List Int} {c : CostL} (h : HuntV x w heap best c) (h0 : 0 < heap.length) (hv : (stA heap 0).vals.length = x.rules.length) :
    (betterB (costR x (stA heap 0).vals w) c (stA heap 0).vals best = true → HuntV x w (popL heap) (stA heap 0).vals (costR x (stA heap 0).vals w)) ∧
    (betterB (costR x (stA heap 0).vals w) c (stA heap 0).vals best = false → HuntV x w (popL heap) best c) := by
  obtain ⟨hst, ht⟩ := h.fit (stA heap 0) (by rw [← stA_at h0]; exact List.getElem_mem _)
  have hfit : ∀ s ∈ popL heap, ValsR x s.vals ∧ tiesMay x.ties s.vals = true := fun s hs => h.fit s (mem_popL h0 s hs)
  have hone : ∀ v, GoodV x v → 0 < sumF (preC v) heap → v ≠ (stA heap 0).vals → 0 < sumF (preC v) (popL heap) := fun v hg hp hn => by
    have h1 := sumF_pop (preC v) h0
    have h2 : preC v (stA heap 0) = 0 := by
      refine Decidable.byContradiction fun c1 => ?_
      have h3 := preC_of c1
      exact hn (h3.eq_of_length (hv.trans hg.full.symm)).symm
    omega
  refine ⟨fun hB => ?_, fun hB => ?_⟩
  · refine ⟨⟨hv, hst, ht⟩, hfit, fun v hg hb => ?_, ?_⟩
    · refine hone v hg (h.cov v hg (better_trans hb hB)) ?_
      rintro rfl
      rw [better_self] at hb
      cases hb
    · have h1 := h.all
      rw [← Bool.not_eq_true, less_cost] at h1 ⊢
      rw [better_iff] at hB
      omega
  · refine ⟨h.good, hfit, fun v hg hb => ?_, h.all⟩
    refine hone v hg (h.cov v hg hb) ?_
    rintro rfl
    rw [hB] at hb
    cases hb
theorem huntV_open {x : Piece} (hx : Right x) (hs : Sized x) {w : Int} {heap : List StL} {best : List Int} {c : CostL} (h : HuntV x w heap best c) (h0 : 0 < heap.length) (hv : (stA heap 0).vals.length < x.rules.length) : HuntV x w (openL x c (stA heap 0).vals (popL heap)) best c := by
  obtain ⟨hst, ht⟩ := h.fit (stA heap 0) (by rw [← stA_at h0]; exact List.getElem_mem _)
  have hfit : ∀ s ∈ popL heap, ValsR x s.vals ∧ tiesMay x.ties s.vals = true := fun s hs => h.fit s (mem_popL h0 s hs)
  have hn : (valsN x (stA heap 0).vals.length : Int) = x.rules[(stA heap 0).vals.length].values := by
    unfold valsN
    rw [ruleAt_lt hv]
    have := hx.rule _ hv
    omega
  refine ⟨h.good, vals_open hst hv hfit _ (by omega), fun v hg hb => ?_, h.all⟩
  have h1 := sumF_pop (preC v) h0
  have h2 := h.cov v hg hb
  have h3 := open_ge (preC v) (x := x) (c := c) (vals := (stA heap 0).vals) (h := popL heap) (valsN x (stA heap 0).vals.length)
  by_cases hp : preC v (stA heap 0) = 0
  · show 0 < sumF _ (openTo ..)
    omega
  · obtain ⟨t, ht⟩ := preC_of hp
    generalize hss : (stA heap 0).vals = ss at *
    cases t with
    | nil =>
      exfalso
      have := congrArg List.length ht
      rw [List.append_nil, hg.full] at this
      omega
    | cons a t =>
      subst ht
      have hb1 := hg.vals.val ss.length (by rw [List.length_append]; simp) hv
      rw [List.getElem_append_right (Nat.le_refl _)] at hb1
      simp only [Nat.sub_self, List.getElem_cons_zero] at hb1
      obtain ⟨j, rfl⟩ := Int.eq_ofNat_of_zero_le hb1.1
      have e : ss ++ (j : Int) :: t = (ss ++ [(j : Int)]) ++ t := by simp
      have hok : pushOk x c (ss ++ [(j : Int)]) = true := by
        unfold pushOk
        have ht := hg.ties
        rw [e] at ht
        rw [tiesMay_front ht, Bool.true_and, Bool.not_eq_true', Bool.and_eq_false_iff, decide_eq_false_iff_not, decide_eq_false_iff_not]
        by_cases c1 : c.over = 0
        · right
          intro c2
          have c3 := bound_front hx (s := ss ++ [(j : Int)]) (t := t) (by rw [← e]; exact hg.vals.right hx)
          rw [← e] at c3
          have c4 := (cost_bd hx hs (hg.vals.right hx) w).1
          rw [better_iff] at hb
          have c5 : (costR x (ss ++ (j : Int) :: t) w).sum = boundOf x (ss ++ (j : Int) :: t) := rfl
          omega
        · left; exact c1
      have h4 := open_has (preC (ss ++ (j : Int) :: t)) (h := popL heap) hok (valsN x ss.length) (by omega)
      rw [preC_one ⟨t, e.symm⟩] at h4
      exact h4
/-- what is told at the end of a hunt -/
structure HuntE (x : Piece) (w : Int) (goal : HuntR) : Prop where
  good : GoodV x goal.best
  all : costLess (costR x (allL x) w) (costR x goal.best w) = false
  state : goal.state = 1 ∨ goal.state = 2
  best : goal.state = 1 → IsBest x w goal.best
theorem hunt_all {x : Piece} (hx : Right x) (hs : Sized x) {w budget : Int} {goal : HuntR} : ∀ (n : Nat) (pops : Nat) (heap : List StL) (best : List Int) (c : CostL), sumW x heap < n → HuntSt x w budget goal pops heap best c → HuntV x w heap best c → HuntE x w goal ∧ ((pops : Int) + sumF (wtE x) heap ≤ budget → goal.state = 1)
  | 0, _, _, _, _, hn, _, _ => absurd hn (Nat.not_lt_zero _)
  | n + 1, pops, heap, best, c, hn, hS, hV => by
    by_cases h0 : heap.length = 0
    · have e := hunt_end hS h0
      subst e
      have hall := hV.all
      rw [hS.cost] at hall
      refine ⟨⟨hV.good, hall, .inl rfl, fun _ => ⟨hV.good, fun v hg => ?_⟩⟩, fun _ => rfl⟩
      rw [← Bool.not_eq_true]
      intro hb
      have h1 := hV.cov v hg (by rw [hS.cost]; exact hb)
      rw [sum_none _ h0] at h1
      exact Nat.lt_irrefl _ h1
    · have hp : 0 < heap.length := by omega
      have hpop := sumF_pop (wtE x) hp
      have hw1 : 1 ≤ wtE x (stA heap 0) := wtQ_pos _
      by_cases hb : budget ≤ (pops : Int)
      · have e := hunt_stop hS hp hb
        subst e
        have hall := hV.all
        rw [hS.cost] at hall
        exact ⟨⟨hV.good, hall, .inr rfl, fun h => by cases h⟩, fun h => by omega⟩
      · by_cases hv : (stA heap 0).vals.length = x.rules.length
        · obtain ⟨t1, t2, t3, -⟩ := hunt_try hx hs hS hp hb hv
          obtain ⟨u1, u2⟩ := huntV_try hV hp hv
          cases hB : betterB (costR x (stA heap 0).vals w) c (stA heap 0).vals best with
          | true =>
            obtain ⟨a1, a2⟩ := hunt_all hx hs n (pops + 1) _ _ _ (by omega) (t1 hB) (u1 hB)
            exact ⟨a1, fun h => a2 (by omega)⟩
          | false =>
            obtain ⟨a1, a2⟩ := hunt_all hx hs n (pops + 1) _ _ _ (by omega) (t2 hB) (u2 hB)
            exact ⟨a1, fun h => a2 (by omega)⟩
        · obtain ⟨t1, -, t2, t3⟩ := hunt_open hx hS hp hb hv
          obtain ⟨a1, a2⟩ := hunt_all hx hs n (pops + 1) _ _ _ (by omega) t1 (huntV_open hx hs hV hp t2)
          have h1 := wtE_open (x := x) (c := c) (vals := (stA heap 0).vals) (heap := popL heap) (valsN x (stA heap 0).vals.length)
          have h2 := wtE_at t2
          refine ⟨a1, fun h => a2 ?_⟩
          have h3 : sumF (wtE x) (openL x c (stA heap 0).vals (popL heap)) ≤ sumF (wtE x) (popL heap) + valsN x (stA heap 0).vals.length * wtQ (x.rules.drop ((stA heap 0).vals.length + 1)) := h1
          generalize valsN x (stA heap 0).vals.length * wtQ (x.rules.drop ((stA heap 0).vals.length + 1)) = m at *
          omega
/-- how many right values a piece has -/
def countQ (rs : List Rule) : Nat := rs.foldl (fun n r => n * r.values.toNat) 1
theorem countQ_mul : ∀ (rs : List Rule) (m : Nat), rs.foldl (fun n r => n * r.values.toNat) m = m * countQ rs
  | [], m => (Nat.mul_one m).symm
  | r :: rs, m => by
    unfold countQ
    rw [List.foldl_cons, List.foldl_cons, countQ_mul rs, countQ_mul rs (1 * _), Nat.one_mul, Nat.mul_assoc]
theorem countQ_cons (r : Rule) (rs : List Rule) : countQ (r :: rs) = r.values.toNat * countQ rs := by
  show List.foldl _ (1 * _) rs = _
  rw [countQ_mul, Nat.one_mul]
theorem wtQ_count : ∀ (rs : List Rule), (∀ r ∈ rs, 2 ≤ r.values) → wtQ rs + 1 ≤ 2 * countQ rs
  | [], _ => Nat.le_refl _
  | r :: rs, h => by
    have ih := wtQ_count rs fun q hq => h q (List.mem_cons_of_mem _ hq)
    have h1 := h r (List.mem_cons_self ..)
    rw [countQ_cons]
    unfold wtQ
    obtain ⟨k, hk⟩ : ∃ k, r.values.toNat = k + 2 := ⟨r.values.toNat - 2, by omega⟩
    rw [hk]
    have h2 : (k + 2) * (wtQ rs + 1) ≤ (k + 2) * (2 * countQ rs) := Nat.mul_le_mul_left _ ih
    rw [Nat.mul_add, Nat.mul_left_comm] at h2
    omega
/-- the hunt tells right values that are no dearer than all split; where it is not stopped, the cheapest; with room for twice as many as there are it is not stopped -/
theorem hunt_law {x : Piece} (hx : Right x) (hs : Sized x) (w budget : Int) : HuntE x w (huntL x w budget) ∧ (2 * (countQ x.rules : Int) ≤ budget → (huntL x w budget).state = 1) := by
  obtain ⟨h1, h2⟩ := hunt_all hx hs _ 0 _ _ _ (Nat.lt_succ_self _) (hunt_start hx hs w budget) (huntV_start hx w)
  refine ⟨h1, fun h => h2 ?_⟩
  have h3 := wtQ_count x.rules fun r hr => by
    obtain ⟨i, hi, rfl⟩ := List.getElem_of_mem hr
    have := hx.rule i hi
    omega
  have h4 : sumF (wtE x) [⟨[], 0⟩] = wtQ x.rules := by
    show (([⟨[], 0⟩] : List StL).map (wtE x)).sum = _
    simp [wtE]
  rw [h4]
  omega
end Go.Proofs.Ytllpgomloblfjaa
