/- Names among nodes, said of lists. -/
import Derived.Test.YtiakdbcmppeniaaGreatDoorUnderB
namespace Go.Proofs.YtiakdbcmppeniaaGreatDoor
open Go.RowKit

def addOnceL (out : List ByteArray) (s : ByteArray) : List ByteArray := if out.contains s then out else out ++ [s]
theorem addOnce_yes {out : List ByteArray} {s : ByteArray} (h : out.contains s = true) : addOnceL out s = out := by unfold addOnceL; rw [if_pos h]
theorem addOnce_no {out : List ByteArray} {s : ByteArray} (h : out.contains s = false) : addOnceL out s = out ++ [s] := by unfold addOnceL; rw [if_neg (by rw [h]; simp)]
theorem addOnce_len (out : List ByteArray) (s : ByteArray) : (addOnceL out s).length ≤ out.length + 1 := by
  unfold addOnceL
  split
  · omega
  · simp
def stepL (p : Int → Bool) (xs : List Node) (out : List ByteArray) (i : Int) : List ByteArray := if p i then addOnceL out (nd xs i).text else out
/-- the texts of those of a kind, each once -/
def onceL (p : Int → Bool) (xs : List Node) (us : List Int) : List ByteArray := us.foldl (stepL p xs) []
theorem onceL_succ {p : Int → Bool} {xs : List Node} {us : List Int} {t : Nat} (h : t < us.length) : onceL p xs (us.take (t + 1)) = stepL p xs (onceL p xs (us.take t)) us[t] := by
  unfold onceL
  rw [List.take_succ_eq_append_getElem h, List.foldl_append]; rfl
theorem onceL_yes {p : Int → Bool} {xs : List Node} {us : List Int} {t : Nat} (h : t < us.length) (hp : p us[t] = true) : onceL p xs (us.take (t + 1)) = addOnceL (onceL p xs (us.take t)) (nd xs us[t]).text := by
  rw [onceL_succ h]; unfold stepL; rw [if_pos hp]
theorem onceL_no {p : Int → Bool} {xs : List Node} {us : List Int} {t : Nat} (h : t < us.length) (hp : p us[t] = false) : onceL p xs (us.take (t + 1)) = onceL p xs (us.take t) := by
  rw [onceL_succ h]; unfold stepL; rw [if_neg (by rw [hp]; simp)]
theorem onceL_len (p : Int → Bool) (xs : List Node) (us : List Int) : ∀ t, t ≤ us.length → (onceL p xs (us.take t)).length ≤ t
  | 0, _ => Nat.le_refl _
  | t + 1, h => by
    have ih := onceL_len p xs us t (by omega)
    cases hp : p us[t] with
    | true => rw [onceL_yes (by omega) hp]; have := addOnce_len (onceL p xs (us.take t)) (nd xs us[t]).text; omega
    | false => rw [onceL_no (by omega) hp]; omega
theorem onceL_len' (p : Int → Bool) (xs : List Node) (us : List Int) : (onceL p xs us).length ≤ us.length := by
  have := onceL_len p xs us us.length (Nat.le_refl _)
  rwa [List.take_length] at this
/-- texts of nodes are as short as these -/
theorem onceL_size {p : Int → Bool} {xs : List Node} {b : Nat} (hs : ∀ i, (nd xs i).text.size ≤ b) : ∀ (us : List Int) (out : List ByteArray), (∀ s ∈ out, s.size ≤ b) → ∀ s ∈ us.foldl (stepL p xs) out, s.size ≤ b
  | [], _, h => h
  | u :: us, out, h => onceL_size hs us _ (by
      intro s hm
      unfold stepL addOnceL at hm
      split at hm
      · split at hm
        · exact h s hm
        · rw [List.mem_append, List.mem_singleton] at hm
          rcases hm with hm | rfl
          · exact h s hm
          · exact hs u
      · exact h s hm)
def nameP (xs : List Node) (i : Int) : Bool := (nd xs i).kind == 1
noncomputable def namesIn (xs : List Node) (k : Int) : List ByteArray := onceL (nameP xs) xs (underL xs k)
theorem namesIn_len (xs : List Node) (k : Int) : (namesIn xs k).length ≤ xs.length := Nat.le_trans (onceL_len' _ _ _) (underL_le xs k)
def isBnd (k : Int) : Bool := (k == 9) || (k == 20)
/-- the node is a name of a function or a method -/
def bindB (xs : List Node) (us : List Int) (j : Nat) : Bool := us.any fun i => isBnd (nd xs i).kind && (((nd xs i).kids.take ((nd xs i).kids.length - 1)).any fun y => y == (j : Int))
def BSt (xs : List Node) (us : List Int) (bs : List Bool) : Prop := bs.length = xs.length ∧ ∀ j : Nat, j < xs.length → bs.getD j false = bindB xs us j
theorem bst_none (xs : List Node) : BSt xs [] (List.replicate xs.length false) := ⟨List.length_replicate .., fun j _ => getB_rep _ _⟩
def BKid (xs : List Node) (us ks : List Int) (bs : List Bool) : Prop := bs.length = xs.length ∧ ∀ j : Nat, j < xs.length → bs.getD j false = (bindB xs us j || ks.any fun y => y == (j : Int))
theorem bkid_start {xs : List Node} {us : List Int} {bs : List Bool} (h : BSt xs us bs) : BKid xs us [] bs := ⟨h.1, fun j hj => by rw [h.2 j hj]; simp⟩
theorem bkid_succ {xs : List Node} {us ks : List Int} {bs : List Bool} {t q : Nat} (h : BKid xs us (ks.take t) bs) (ht : t < ks.length) (hq : ks.getD t 0 = (q : Int)) (hql : q < xs.length) : BKid xs us (ks.take (t + 1)) (bs.set q true) := by
  refine ⟨by rw [List.length_set]; exact h.1, fun j hj => ?_⟩
  have hkt : ks[t] = (q : Int) := by rw [← hq, List.getD_eq_getElem?_getD, List.getElem?_eq_getElem ht]; rfl
  rw [Bool.eq_iff_iff, getB_put (by rw [h.1]; exact hql), h.2 j hj, List.take_succ_eq_append_getElem ht, List.any_append, hkt]
  simp only [List.any_cons, List.any_nil, Bool.or_false, Bool.or_eq_true, beq_iff_eq]
  constructor
  · rintro ((a | a) | a)
    · exact .inl a
    · exact .inr (.inl a)
    · exact .inr (.inr (by omega))
  · rintro (a | a | a)
    · exact .inl (.inl a)
    · exact .inl (.inr a)
    · exact .inr (by omega)
theorem bindB_succ {xs : List Node} {us : List Int} {t j : Nat} (h : t < us.length) : bindB xs (us.take (t + 1)) j = (bindB xs (us.take t) j || (isBnd (nd xs us[t]).kind && (((nd xs us[t]).kids.take ((nd xs us[t]).kids.length - 1)).any fun y => y == (j : Int)))) := by
  unfold bindB
  rw [List.take_succ_eq_append_getElem h, List.any_append]
  simp
theorem bkid_end {xs : List Node} {us : List Int} {bs : List Bool} {t : Nat} (ht : t < us.length) (hb : isBnd (nd xs us[t]).kind = true) (h : BKid xs (us.take t) ((nd xs us[t]).kids.take ((nd xs us[t]).kids.length - 1)) bs) : BSt xs (us.take (t + 1)) bs :=
  ⟨h.1, fun j hj => by rw [h.2 j hj, bindB_succ ht, hb, Bool.true_and]⟩
theorem bst_no {xs : List Node} {us : List Int} {bs : List Bool} {t : Nat} (ht : t < us.length) (hb : isBnd (nd xs us[t]).kind = false) (h : BSt xs (us.take t) bs) : BSt xs (us.take (t + 1)) bs :=
  ⟨h.1, fun j hj => by rw [h.2 j hj, bindB_succ ht, hb, Bool.false_and, Bool.or_false]⟩
def letP (xs : List Node) (us : List Int) (i : Int) : Bool := ((nd xs i).kind == 12) || bindB xs us i.toNat
noncomputable def letsIn (xs : List Node) (k : Int) : List ByteArray := onceL (letP xs (underL xs k)) xs (underL xs k)
theorem letsIn_len (xs : List Node) (k : Int) : (letsIn xs k).length ≤ xs.length := Nat.le_trans (onceL_len' _ _ _) (underL_le xs k)
def useP (xs : List Node) (us : List Int) (i : Int) : Bool := ((nd xs i).kind == 1) && !bindB xs us i.toNat
/-- the name is used -/
def usedB (xs : List Node) (us : List Int) (s : ByteArray) : Bool := us.any fun i => useP xs us i && ((nd xs i).text.toList == s.toList)
noncomputable def unusedL (xs : List Node) (k : Int) : List ByteArray := (letsIn xs k).filter fun s => !usedB xs (underL xs k) s
theorem unusedL_len (xs : List Node) (k : Int) : (unusedL xs k).length ≤ xs.length := Nat.le_trans (List.length_filter_le _ _) (letsIn_len xs k)
noncomputable def freeL (xs : List Node) (k : Int) : List ByteArray := (namesIn xs k).filter fun s => !(letsIn xs k).contains s
theorem freeL_len (xs : List Node) (k : Int) : (freeL xs k).length ≤ xs.length := Nat.le_trans (List.length_filter_le _ _) (namesIn_len xs k)
theorem ba_beq (a b : ByteArray) : (a == b) = (b.toList == a.toList) := by
  have e : (a == b) = decide (a = b) := by
    cases a with | mk a => cases b with | mk b =>
      show (a == b) = _
      rw [Bool.eq_iff_iff, beq_iff_eq, decide_eq_true_iff]
      exact ⟨fun h => by rw [h], fun h => by injection h⟩
  rw [e, Bool.eq_iff_iff, decide_eq_true_iff, str_eq]
  exact ⟨fun h => h.symm, fun h => h.symm⟩
theorem contains_str {xs : List ByteArray} {s : ByteArray} : xs.contains s = xs.any fun x => x.toList == s.toList := by
  rw [List.contains_eq_any_beq]
  congr 1
  funext x
  exact ba_beq s x
theorem used_contains {xs : List Node} {us vs : List Int} {s : ByteArray} : ((vs.filter (useP xs us)).map fun i => (nd xs i).text).contains s = vs.any fun i => useP xs us i && ((nd xs i).text.toList == s.toList) := by
  rw [contains_str, List.any_map, List.any_filter]; rfl
theorem filter_succ {α : Type} {p : α → Bool} {xs : List α} {t : Nat} (h : t < xs.length) : (xs.take (t + 1)).filter p = (xs.take t).filter p ++ (if p xs[t] then [xs[t]] else []) := by
  rw [List.take_succ_eq_append_getElem h, List.filter_append]
  cases hp : p xs[t] <;> simp [hp]
theorem filter_yes {α : Type} {p : α → Bool} {xs : List α} {t : Nat} (h : t < xs.length) (hp : p xs[t] = true) : (xs.take (t + 1)).filter p = (xs.take t).filter p ++ [xs[t]] := by rw [filter_succ h, if_pos hp]
theorem filter_no {α : Type} {p : α → Bool} {xs : List α} {t : Nat} (h : t < xs.length) (hp : p xs[t] = false) : (xs.take (t + 1)).filter p = (xs.take t).filter p := by rw [filter_succ h, if_neg (by rw [hp]; simp), List.append_nil]
theorem nd_size {xs : List Node} {b : Nat} (h : ∀ x ∈ xs, x.text.size ≤ b) (i : Int) : (nd xs i).text.size ≤ b := by
  unfold nd
  rw [List.getD_eq_getElem?_getD]
  cases hq : xs[i.toNat]? with
  | none => exact Nat.zero_le _
  | some x => exact h x (List.mem_of_getElem? hq)
end Go.Proofs.YtiakdbcmppeniaaGreatDoor
