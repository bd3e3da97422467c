/- Marks of what is under a node, said of lists of marks. -/
import Derived.Test.YtoloplpmjcgbdaaGreatDoorUnderD
import Derived.Test.YtoloplpmjcgbdaaGreatDoorTreeD
namespace Go.Proofs.YtoloplpmjcgbdaaGreatDoor
open Go.RowKit

theorem getB_set (bs : List Bool) (k q : Nat) (v : Bool) : (bs.set k v).getD q false = if k = q ∧ k < bs.length then v else bs.getD q false := by
  rw [List.getD_eq_getElem?_getD, List.getD_eq_getElem?_getD, List.getElem?_set]
  by_cases e : k = q
  · subst e
    by_cases h : k < bs.length
    · rw [if_pos rfl, if_pos h, if_pos ⟨rfl, h⟩]; rfl
    · rw [if_pos rfl, if_neg h, if_neg (fun c => h c.2), List.getElem?_eq_none (by omega)]
  · rw [if_neg e, if_neg (fun c => e c.1)]
theorem getB_put {bs : List Bool} {k q : Nat} (h : k < bs.length) : (bs.set k true).getD q false = true ↔ (bs.getD q false = true ∨ q = k) := by
  rw [getB_set]
  by_cases e : k = q
  · rw [if_pos ⟨e, h⟩]; exact ⟨fun _ => .inr e.symm, fun _ => rfl⟩
  · rw [if_neg (fun c => e c.1)]; exact ⟨fun c => .inl c, fun c => c.elim id (fun c => absurd c.symm e)⟩
theorem getB_rep (n q : Nat) : (List.replicate n false).getD q false = false := by
  rw [List.getD_eq_getElem?_getD, List.getElem?_replicate]
  split <;> rfl
theorem marked_start {xs : List Node} {k j : Int} (hg : ∀ i : Nat, (i : Int) ≤ k → Good xs i) (h0 : 0 ≤ k) : Marked xs k k j ↔ j = k := by
  constructor
  · rintro (h | ⟨p, hp, hr, _⟩)
    · exact h
    · have := hr.le k (Int.le_refl _) hg h0; omega
  · exact fun h => .inl h
/-- the marks of the program when all behind i are done -/
def MSt (xs : List Node) (m : Nat) (i : Int) (bs : List Bool) : Prop := bs.length = m + 1 ∧ ∀ j : Nat, j ≤ m → (bs.getD j false = true ↔ Marked xs m i j)
theorem mst_start {xs : List Node} {m : Nat} (hg : ∀ i : Nat, (i : Int) ≤ (m : Int) → Good xs i) : MSt xs m m ((List.replicate (m + 1) false).set m true) := by
  refine ⟨by rw [List.length_set, List.length_replicate], fun j hj => ?_⟩
  rw [getB_put (by rw [List.length_replicate]; omega), getB_rep, marked_start hg (by omega)]
  constructor
  · rintro (c | rfl)
    · cases c
    · rfl
  · exact fun h => .inr (by omega)
theorem mst_no {xs : List Node} {m : Nat} {i : Int} {bs : List Bool} (h : MSt xs m i bs) (hn : ¬ Reach xs m i) : MSt xs m (i - 1) bs := ⟨h.1, fun j hj => (h.2 j hj).trans (marked_no hn).symm⟩
/-- .. while the first t kids of i are marked -/
def MKid (xs : List Node) (m : Nat) (i : Int) (t : Nat) (bs : List Bool) : Prop := bs.length = m + 1 ∧ ∀ j : Nat, j ≤ m → (bs.getD j false = true ↔ (Marked xs m i j ∨ ∃ s, s < t ∧ kd (nd xs i) s = (j : Int)))
theorem mkid_start {xs : List Node} {m : Nat} {i : Int} {bs : List Bool} (h : MSt xs m i bs) : MKid xs m i 0 bs := ⟨h.1, fun j hj => (h.2 j hj).trans ⟨fun c => .inl c, fun c => c.elim id (fun ⟨s, hs, _⟩ => absurd hs (Nat.not_lt_zero _))⟩⟩
theorem mkid_succ {xs : List Node} {m : Nat} {i : Int} {t q : Nat} {bs : List Bool} (h : MKid xs m i t bs) (hq : kd (nd xs i) t = (q : Int)) (hql : q ≤ m) : MKid xs m i (t + 1) (bs.set q true) := by
  refine ⟨by rw [List.length_set]; exact h.1, fun j hj => ?_⟩
  rw [getB_put (by rw [h.1]; omega), h.2 j hj]
  constructor
  · rintro ((c | ⟨s, hs, e⟩) | rfl)
    · exact .inl c
    · exact .inr ⟨s, by omega, e⟩
    · exact .inr ⟨t, by omega, hq⟩
  · rintro (c | ⟨s, hs, e⟩)
    · exact .inl (.inl c)
    · by_cases z : s = t
      · subst z; exact .inr (by omega)
      · exact .inl (.inr ⟨s, by omega, e⟩)
theorem mkid_end {xs : List Node} {m : Nat} {i : Int} {bs : List Bool} (h : MKid xs m i (nd xs i).kids.length bs) (hr : Reach xs m i) : MSt xs m (i - 1) bs := ⟨h.1, fun j hj => (h.2 j hj).trans (marked_yes hr).symm⟩
theorem mst_at {xs : List Node} {m q : Nat} {bs : List Bool} (h : MSt xs m q bs) (hq : q ≤ m) (hg : ∀ i : Nat, (i : Int) ≤ (m : Int) → Good xs i) : bs.getD q false = true ↔ Reach xs m q := (h.2 q hq).trans (marked_self hg (by omega))
theorem mst_end {xs : List Node} {m : Nat} {bs : List Bool} (h : MSt xs m (-1) bs) (hg : ∀ i : Nat, (i : Int) ≤ (m : Int) → Good xs i) {j : Nat} (hj : j ≤ m) : bs.getD j false = true ↔ Reach xs m j := (h.2 j hj).trans (marked_end hg (by omega))
/-- the marks of the reference: what was marked, and what is under a node -/
def SSt (xs : List Node) (q : Nat) (bs cs : List Bool) : Prop := cs.length = bs.length ∧ ∀ j : Nat, cs.getD j false = true ↔ (bs.getD j false = true ∨ Reach xs q j)
theorem sst_seen {xs : List Node} {q : Nat} {bs : List Bool} (hg : ∀ i : Nat, (i : Int) ≤ (q : Int) → Good xs i) (hc : Closed xs bs q) (hs : bs.getD q false = true) : SSt xs q bs bs := by
  refine ⟨rfl, fun j => ⟨fun h => .inl h, fun h => h.elim id (fun h => ?_)⟩⟩
  have := hc.reach h hg (by omega) (by rw [Int.toNat_natCast]; exact hs)
  rwa [Int.toNat_natCast] at this
/-- .. while the first t kids are done -/
def SKid (xs : List Node) (q t : Nat) (bs cs : List Bool) : Prop := cs.length = bs.length ∧ ∀ j : Nat, cs.getD j false = true ↔ (bs.getD j false = true ∨ j = q ∨ ∃ s, s < t ∧ Reach xs (kd (nd xs q) s) j)
theorem skid_start {xs : List Node} {q : Nat} {bs : List Bool} (hq : q < bs.length) : SKid xs q 0 bs (bs.set q true) := by
  refine ⟨List.length_set .., fun j => ?_⟩
  rw [getB_put hq]
  exact ⟨fun h => h.elim .inl (fun h => .inr (.inl h)), fun h => h.elim .inl (fun h => h.elim .inr (fun ⟨s, hs, _⟩ => absurd hs (Nat.not_lt_zero _)))⟩
theorem skid_succ {xs : List Node} {q t z : Nat} {bs cs ds : List Bool} (h : SKid xs q t bs cs) (hz : kd (nd xs q) t = (z : Int)) (hs : SSt xs z cs ds) : SKid xs q (t + 1) bs ds := by
  refine ⟨hs.1.trans h.1, fun j => ?_⟩
  rw [hs.2 j, h.2 j]
  constructor
  · rintro ((a | a | ⟨s, hs, a⟩) | a)
    · exact .inl a
    · exact .inr (.inl a)
    · exact .inr (.inr ⟨s, by omega, a⟩)
    · exact .inr (.inr ⟨t, by omega, by rw [hz]; exact a⟩)
  · rintro (a | a | ⟨s, hs, a⟩)
    · exact .inl (.inl a)
    · exact .inl (.inr (.inl a))
    · by_cases e : s = t
      · subst e; rw [hz] at a; exact .inr a
      · exact .inl (.inr (.inr ⟨s, by omega, a⟩))
theorem skid_end {xs : List Node} {q : Nat} {bs cs : List Bool} (h : SKid xs q (nd xs q).kids.length bs cs) : SSt xs q bs cs := by
  refine ⟨h.1, fun j => ?_⟩
  rw [h.2 j]
  constructor
  · rintro (a | a | ⟨s, hs, a⟩)
    · exact .inl a
    · subst a; exact .inr (.self _)
    · exact .inr (.kid s hs a)
  · rintro (a | a)
    · exact .inl a
    · generalize hj : (j : Int) = jj at a
      cases a with
      | self => exact .inr (.inl (by omega))
      | kid s hs a => subst hj; exact .inr (.inr ⟨s, hs, a⟩)
theorem skid_closed {xs : List Node} {q t z : Nat} {bs cs : List Bool} (h : SKid xs q t bs cs) (hc : Closed xs bs q) (hz : z < q) (hg : ∀ i : Nat, (i : Int) ≤ (q : Int) → Good xs i) : Closed xs cs z := by
  intro j s hj hjz hm hs
  have hjj : j = (j.toNat : Int) := (Int.toNat_of_nonneg hj).symm
  have g := hg j.toNat (by omega)
  rw [← hjj] at g
  have hb := g.below s hs
  have hkk : kd (nd xs j) s = ((kd (nd xs j) s).toNat : Int) := (Int.toNat_of_nonneg hb.1).symm
  rw [h.2] at hm ⊢
  rcases hm with a | a | ⟨p, hp, a⟩
  · exact .inl (hc j s hj (by omega) a hs)
  · omega
  · rw [← hjj] at a
    exact .inr (.inr ⟨p, hp, by rw [← hkk]; exact a.more hs⟩)
theorem closed_none {xs : List Node} {n q : Nat} : Closed xs (List.replicate n false) q := fun j s _ _ h _ => by rw [getB_rep] at h; cases h
theorem Closed.less {xs : List Node} {bs : List Bool} {k q : Int} (h : Closed xs bs k) (hq : q ≤ k) : Closed xs bs q := fun j s a b c d => h j s a (by omega) c d
end Go.Proofs.YtoloplpmjcgbdaaGreatDoor
