/- Right values counted on, and the cheapest of them all, said of lists. -/
import Derived.Test.YtllpgomloblfjaaHuntQ
namespace Go.Proofs.Ytllpgomloblfjaa
open Go.RowKit

theorem cmpL_at : ∀ (a b : List Int), a.length = b.length → (cmpL a b < 0 ↔ ∃ i, i < a.length ∧ (∀ j, j < i → a.getD j 0 = b.getD j 0) ∧ a.getD i 0 < b.getD i 0)
  | [], [], _ => by simp [cmpL]
  | [], _ :: _, h => by simp at h
  | _ :: _, [], h => by simp at h
  | a :: xs, b :: ys, h => by
    have ih := cmpL_at xs ys (by simpa using h)
    simp only [cmpL]
    by_cases h1 : a < b
    · rw [if_pos h1]
      exact ⟨fun _ => ⟨0, Nat.succ_pos _, fun j hj => absurd hj (Nat.not_lt_zero _), h1⟩, fun _ => by omega⟩
    · by_cases h2 : b < a
      · rw [if_neg h1, if_pos h2]
        refine ⟨fun h3 => by omega, ?_⟩
        rintro ⟨i, hi, hj, hl⟩
        cases i with
        | zero => exact absurd hl (by simpa using h1)
        | succ i => have := hj 0 (Nat.succ_pos _); simp at this; omega
      · rw [if_neg h1, if_neg h2, ih]
        constructor
        · rintro ⟨i, hi, hj, hl⟩
          refine ⟨i + 1, Nat.succ_lt_succ hi, fun j hj2 => ?_, by simpa using hl⟩
          cases j with
          | zero => simp; omega
          | succ j => simpa using hj j (by omega)
        · rintro ⟨i, hi, hj, hl⟩
          cases i with
          | zero => exact absurd hl (by simpa using h1)
          | succ i => exact ⟨i, by simpa using hi, fun j hj2 => by simpa using hj (j + 1) (by omega), by simpa using hl⟩
theorem cmpL_le : ∀ (a b : List Int), a.length = b.length → (∀ j, j < a.length → a.getD j 0 ≤ b.getD j 0) → cmpL a b < 0 ∨ a = b
  | [], [], _, _ => .inr rfl
  | [], _ :: _, h, _ => by simp at h
  | _ :: _, [], h, _ => by simp at h
  | a :: xs, b :: ys, h, hle => by
    simp only [cmpL]
    have h0 := hle 0 (Nat.succ_pos _)
    simp at h0
    by_cases h1 : a < b
    · rw [if_pos h1]; left; omega
    · rw [if_neg h1, if_neg (by omega)]
      rcases cmpL_le xs ys (by simpa using h) (fun j hj => by simpa using hle (j + 1) (Nat.succ_lt_succ hj)) with h2 | h2
      · exact .inl h2
      · right; rw [h2, show a = b by omega]
/-- right values in full -/
structure FullV (x : Piece) (v : List Int) : Prop where
  full : v.length = x.rules.length
  val : ∀ i (hr : i < x.rules.length), 0 ≤ v.getD i 0 ∧ v.getD i 0 < x.rules[i].values
theorem GoodV.fullV {x : Piece} {v : List Int} (h : GoodV x v) : FullV x v := ⟨h.full, fun i hr => by
  have := h.vals.val i (by have := h.full; omega) hr
  rwa [getD_at (by have := h.full; omega)]⟩
theorem FullV.good {x : Piece} {v : List Int} (h : FullV x v) (ht : tiesMay x.ties v = true) : GoodV x v := ⟨h.full, ⟨Nat.le_of_eq h.full, fun i hi hr => by
  have := h.val i hr
  rwa [getD_at hi] at this⟩, ht⟩
theorem FullV.right {x : Piece} {v : List Int} (h : FullV x v) (hx : Right x) : RightV x v := ⟨Nat.le_of_eq h.full, fun i hi => by
  have h1 := h.val i (by have := h.full; omega)
  have h2 := hx.rule i (by have := h.full; omega)
  rw [getD_at hi] at h1
  omega⟩
/-- counted on -/
def NextV (x : Piece) (v v' : List Int) : Prop := ∃ A a T, v = A ++ a :: T ∧ v' = A ++ (a + 1) :: List.replicate T.length 0 ∧ (∃ h : A.length < x.rules.length, a + 1 < x.rules[A.length].values) ∧ ∀ j (h : j < x.rules.length), A.length < j → x.rules[j].values ≤ v.getD j 0 + 1
/-- the last ones -/
def LastV (x : Piece) (v : List Int) : Prop := ∀ j (h : j < x.rules.length), x.rules[j].values ≤ v.getD j 0 + 1
theorem getD_mid {A T : List Int} {a : Int} (j : Nat) : (A ++ a :: T).getD j 0 = if j < A.length then A.getD j 0 else if j = A.length then a else T.getD (j - A.length - 1) 0 := by
  by_cases h1 : j < A.length
  · rw [if_pos h1, getD_front h1]
  · rw [if_neg h1]
    simp only [List.getD]
    rw [List.getElem?_append_right (by omega)]
    by_cases h2 : j = A.length
    · subst h2; simp
    · rw [if_neg h2]
      obtain ⟨d, hd⟩ : ∃ d, j - A.length = d + 1 := ⟨j - A.length - 1, by omega⟩
      rw [hd]; simp
theorem getD_zeros (n j : Nat) : (List.replicate n (0 : Int)).getD j 0 = 0 := by
  simp only [List.getD, List.getElem?_replicate]
  split <;> rfl
theorem NextV.full {x : Piece} {v v' : List Int} (h : NextV x v v') (hf : FullV x v) (hx : Right x) : FullV x v' := by
  obtain ⟨A, a, T, rfl, rfl, ⟨hr, ha⟩, hl⟩ := h
  have hlen := hf.full
  refine ⟨by rw [← hlen]; simp, fun i hi => ?_⟩
  have h1 := hf.val i hi
  have h2 := hx.rule i hi
  rw [getD_mid] at h1 ⊢
  by_cases c1 : i < A.length
  · rw [if_pos c1] at h1 ⊢; exact h1
  · rw [if_neg c1] at h1 ⊢
    by_cases c2 : i = A.length
    · subst c2
      rw [if_pos rfl] at h1 ⊢
      omega
    · rw [if_neg c2, getD_zeros]
      omega
theorem NextV.lt {x : Piece} {v v' : List Int} (h : NextV x v v') : cmpL v v' < 0 := by
  obtain ⟨A, a, T, rfl, rfl, ⟨hr, ha⟩, hl⟩ := h
  rw [cmpL_at _ _ (by simp)]
  refine ⟨A.length, by simp, fun j hj => ?_, ?_⟩
  · rw [getD_front hj, getD_front hj]
  · rw [getD_mid, getD_mid, if_neg (Nat.lt_irrefl _), if_neg (Nat.lt_irrefl _), if_pos rfl, if_pos rfl]
    omega
theorem NextV.behind {x : Piece} {v v' u : List Int} (h : NextV x v v') (hf : FullV x v) (hu : FullV x u) (hl : cmpL u v' < 0) : cmpL u v < 0 ∨ u = v := by
  obtain ⟨A, a, T, rfl, rfl, ⟨hr, ha⟩, hlast⟩ := h
  have e1 := hf.full
  have e2 := hu.full
  rw [cmpL_at _ _ (by rw [e2, ← e1]; simp)] at hl
  obtain ⟨m, hm, h1, h2⟩ := hl
  have hpre : ∀ j, j < A.length → j < m → u.getD j 0 = (A ++ a :: T).getD j 0 := fun j hj hjm => by
    rw [h1 j hjm, getD_front hj, getD_front hj]
  by_cases c1 : m < A.length
  · left
    rw [cmpL_at _ _ (by rw [e2, e1])]
    refine ⟨m, hm, fun j hj => hpre j (by omega) hj, ?_⟩
    rw [getD_front c1] at h2 ⊢
    exact h2
  · rw [getD_mid, if_neg c1] at h2
    by_cases c2 : m = A.length
    · subst c2
      rw [if_pos rfl] at h2
      by_cases c3 : u.getD A.length 0 < a
      · left
        rw [cmpL_at _ _ (by rw [e2, e1])]
        refine ⟨A.length, hm, fun j hj => hpre j hj hj, ?_⟩
        rw [getD_mid, if_neg (Nat.lt_irrefl _), if_pos rfl]
        exact c3
      · refine cmpL_le _ _ (by rw [e2, e1]) fun j hj => ?_
        by_cases c4 : j < A.length
        · exact Int.le_of_eq (hpre j c4 c4)
        · by_cases c5 : j = A.length
          · subst c5
            rw [getD_mid, if_neg (Nat.lt_irrefl _), if_pos rfl]
            omega
          · have k1 := hlast j (by omega) (by omega)
            have k2 := hu.val j (by omega)
            omega
    · rw [if_neg c2, getD_zeros] at h2
      have := hu.val m (by omega)
      omega
theorem LastV.behind {x : Piece} {v u : List Int} (h : LastV x v) (hf : FullV x v) (hu : FullV x u) : cmpL u v < 0 ∨ u = v :=
  cmpL_le _ _ (by rw [hu.full, hf.full]) fun j hj => by
    have h1 := h j (by have := hu.full; omega)
    have h2 := hu.val j (by have := hu.full; omega)
    omega
/-- how many are left, at most -/
def gapsL (rs : List Rule) (v : List Int) : List Nat := List.zipWith (fun r a => (r.values - 1 - a).toNat) rs v
def leftG (l : List Nat) (n : Nat) : Nat := l.foldl (fun n g => 3 * n + g) n
theorem leftG_zeros : ∀ (k n : Nat), leftG (List.replicate k 0) n = n * 3 ^ k
  | 0, n => (Nat.mul_one n).symm
  | k + 1, n => by
    show leftG (List.replicate k 0) (3 * n + 0) = _
    rw [leftG_zeros k, Nat.pow_succ, Nat.add_zero, Nat.mul_comm 3 n, Nat.mul_assoc, Nat.mul_comm 3]
theorem leftG_bd : ∀ (l : List Nat) (n : Nat), (∀ g ∈ l, g ≤ 2) → leftG l n + 1 ≤ (n + 1) * 3 ^ l.length
  | [], n, _ => by show n + 1 ≤ (n + 1) * 1; omega
  | g :: l, n, h => by
    have h1 := h g (List.mem_cons_self ..)
    have ih := leftG_bd l (3 * n + g) fun q hq => h q (List.mem_cons_of_mem _ hq)
    show leftG l (3 * n + g) + 1 ≤ _
    rw [List.length_cons, Nat.pow_succ, Nat.mul_comm _ 3, ← Nat.mul_assoc]
    exact Nat.le_trans ih (Nat.mul_le_mul_right _ (by omega))
theorem leftG_append (a b : List Nat) (n : Nat) : leftG (a ++ b) n = leftG b (leftG a n) := by unfold leftG; rw [List.foldl_append]
theorem NextV.left {x : Piece} {v v' : List Int} (h : NextV x v v') (hf : FullV x v) (hx : Right x) : leftG (gapsL x.rules v') 0 < leftG (gapsL x.rules v) 0 := by
  have hf' := h.full hf hx
  obtain ⟨A, a, T, rfl, rfl, ⟨hr, ha⟩, hlast⟩ := h
  have e1 := hf.full
  rw [List.length_append, List.length_cons] at e1
  have ha0 := hf.val A.length hr
  rw [getD_mid, if_neg (Nat.lt_irrefl _), if_pos rfl] at ha0
  have hT : ∀ j (h : j < (x.rules.drop (A.length + 1)).length), ((x.rules.drop (A.length + 1))[j]).values - 1 - T.getD j 0 ≤ 0 := fun j hj => by
    rw [List.length_drop] at hj
    have := hlast (A.length + 1 + j) (by omega) (by omega)
    rw [getD_mid, if_neg (by omega), if_neg (by omega), show A.length + 1 + j - A.length - 1 = j by omega] at this
    rw [List.getElem_drop]
    omega
  have es : x.rules = x.rules.take A.length ++ x.rules[A.length] :: x.rules.drop (A.length + 1) := by
    rw [← List.drop_eq_getElem_cons hr, List.take_append_drop]
  have hR2 : ∀ r ∈ x.rules.drop (A.length + 1), r.values ≤ 3 := fun r hq => by
    obtain ⟨i, hi, rfl⟩ := List.getElem_of_mem (List.mem_of_mem_drop hq)
    exact (hx.rule i hi).2.1
  have hl1 : (x.rules.take A.length).length = A.length := by rw [List.length_take]; omega
  have hl2 : (x.rules.drop (A.length + 1)).length = T.length := by rw [List.length_drop]; omega
  generalize x.rules.drop (A.length + 1) = R2 at *
  generalize x.rules.take A.length = R1 at *
  generalize x.rules[A.length] = r at *
  have hz : gapsL R2 T = List.replicate T.length 0 := by
    apply List.ext_getElem
    · unfold gapsL; rw [List.length_zipWith]; simp; omega
    · intro j h1 h2
      have hj : j < T.length := by simpa using h2
      have := hT j (by omega)
      rw [getD_at hj] at this
      simp only [gapsL, List.getElem_zipWith, List.getElem_replicate]
      omega
  have hg2 : ∀ g ∈ gapsL R2 (List.replicate T.length 0), g ≤ 2 := fun g hg => by
    obtain ⟨i, hi, rfl⟩ := List.getElem_of_mem hg
    have hi2 : i < R2.length := by unfold gapsL at hi; rw [List.length_zipWith] at hi; omega
    simp only [gapsL, List.getElem_zipWith, List.getElem_replicate]
    have := hR2 R2[i] (List.getElem_mem _)
    omega
  have hgl : (gapsL R2 (List.replicate T.length 0)).length = T.length := by unfold gapsL; rw [List.length_zipWith]; simp; omega
  rw [es]
  unfold gapsL at *
  rw [List.zipWith_append hl1, List.zipWith_append hl1, List.zipWith_cons_cons, List.zipWith_cons_cons, leftG_append, leftG_append]
  show leftG _ (3 * _ + _) < leftG _ (3 * _ + _)
  generalize leftG (List.zipWith (fun r a => (r.values - 1 - a).toNat) R1 A) 0 = m
  rw [hz, leftG_zeros]
  have h3 := leftG_bd _ (3 * m + (r.values - 1 - (a + 1)).toNat) hg2
  rw [hgl, show 3 * m + (r.values - 1 - (a + 1)).toNat + 1 = 3 * m + (r.values - 1 - a).toNat by omega] at h3
  omega
/-- the cheapest of all that are treated -/
structure BestSt (x : Piece) (w : Int) (done : List Int → Prop) (best : List Int) (c : CostL) (some : Bool) : Prop where
  good : some = true → GoodV x best ∧ c = costR x best w ∧ done best
  none : some = false → ∀ u, FullV x u → done u → tiesMay x.ties u = false
  least : some = true → ∀ u, GoodV x u → done u → betterB (costR x u w) c u best = false
theorem bestSt_start {x : Piece} (w : Int) (best : List Int) (c : CostL) : BestSt x w (fun u => cmpL u (List.replicate x.rules.length 0) < 0) best c false :=
  ⟨fun h => (by cases h), fun _ u hu hl => by
    rw [cmpL_at _ _ (by rw [hu.full]; simp)] at hl
    obtain ⟨i, hi, -, h1⟩ := hl
    rw [getD_zeros] at h1
    have := hu.val i (by have := hu.full; omega)
    omega, fun h => by cases h⟩
theorem BestSt.skip {x : Piece} {w : Int} {v best : List Int} {c : CostL} {some : Bool} (h : BestSt x w (fun u => cmpL u v < 0) best c some) (ht : tiesMay x.ties v = false) : BestSt x w (fun u => cmpL u v < 0 ∨ u = v) best c some :=
  ⟨fun hs => ⟨(h.good hs).1, (h.good hs).2.1, .inl (h.good hs).2.2⟩, fun hs u hu hd => by
    rcases hd with hd | rfl
    · exact h.none hs u hu hd
    · exact ht, fun hs u hu hd => by
    rcases hd with hd | rfl
    · exact h.least hs u hu hd
    · rw [hu.ties] at ht; cases ht⟩
theorem BestSt.stay {x : Piece} {w : Int} {v best : List Int} {c : CostL} (h : BestSt x w (fun u => cmpL u v < 0) best c true) (hc : costLess (costR x v w) c = false) : BestSt x w (fun u => cmpL u v < 0 ∨ u = v) best c true :=
  ⟨fun hs => ⟨(h.good hs).1, (h.good hs).2.1, .inl (h.good hs).2.2⟩, fun hs => (by cases hs), fun hs u hu hd => by
    rcases hd with hd | rfl
    · exact h.least hs u hu hd
    · rw [← Bool.not_eq_true, better_iff]
      rw [← Bool.not_eq_true, less_cost] at hc
      have h1 := (h.good rfl).2.2
      have h2 := cmpL_neg best u
      omega⟩
theorem BestSt.take {x : Piece} {w : Int} {v best : List Int} {c : CostL} {some : Bool} (h : BestSt x w (fun u => cmpL u v < 0) best c some) (hf : FullV x v) (ht : tiesMay x.ties v = true) (hc : some = true → costLess (costR x v w) c = true) : BestSt x w (fun u => cmpL u v < 0 ∨ u = v) v (costR x v w) true :=
  ⟨fun _ => ⟨hf.good ht, rfl, .inr rfl⟩, fun hs => (by cases hs), fun _ u hu hd => by
    rcases hd with hd | rfl
    · cases some with
      | false => have := h.none rfl u hu.fullV hd; rw [hu.ties] at this; cases this
      | true =>
        have h1 := h.least rfl u hu hd
        have h2 := hc rfl
        rw [← Bool.not_eq_true, better_iff] at h1 ⊢
        rw [less_cost] at h2
        omega
    · exact better_self _ _⟩
theorem BestSt.next {x : Piece} {w : Int} {v v' best : List Int} {c : CostL} {some : Bool} (h : BestSt x w (fun u => cmpL u v < 0 ∨ u = v) best c some) (hf : FullV x v) (hn : NextV x v v') : BestSt x w (fun u => cmpL u v' < 0) best c some :=
  ⟨fun hs => ⟨(h.good hs).1, (h.good hs).2.1, by
    rcases (h.good hs).2.2 with h1 | h1
    · exact cmpL_lt h1 hn.lt
    · rw [h1]; exact hn.lt⟩, fun hs u hu hd => h.none hs u hu (hn.behind hf hu hd), fun hs u hu hd => h.least hs u hu (hn.behind hf hu.fullV hd)⟩
theorem zeros_full {x : Piece} (hx : Right x) : FullV x (List.replicate x.rules.length 0) := ⟨by simp, fun i hr => by
  rw [getD_zeros]
  have := hx.rule i hr
  omega⟩
theorem zeros_ties {x : Piece} : tiesMay x.ties (List.replicate x.rules.length 0) = true := by
  unfold tiesMay tieMay
  rw [List.all_eq_true]
  intro q _
  rw [getD_zeros]
  simp
theorem BestSt.last {x : Piece} {w : Int} {v best : List Int} {c : CostL} {some : Bool} (h : BestSt x w (fun u => cmpL u v < 0 ∨ u = v) best c some) (hx : Right x) (hf : FullV x v) (hl : LastV x v) : some = true ∧ IsBest x w best ∧ c = costR x best w := by
  have hs : some = true := by
    cases some with
    | true => rfl
    | false =>
      have := h.none rfl _ (zeros_full hx) (hl.behind hf (zeros_full hx))
      rw [zeros_ties] at this
      cases this
  refine ⟨hs, ⟨(h.good hs).1, fun u hu => ?_⟩, (h.good hs).2.1⟩
  rw [← (h.good hs).2.1]
  exact h.least hs u hu (hl.behind hf hu.fullV)
end Go.Proofs.Ytllpgomloblfjaa
