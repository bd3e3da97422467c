/- slices.Sort on a slice of integers of the call's own. -/
import Derived.Test.YtoloplpmjcgbdaaGreatDoorHInt
import Derived.Test.YtoloplpmjcgbdaaGreatDoorShelf2
import Derived.Sort.OwnSortedInts
namespace Go.Proofs.YtoloplpmjcgbdaaGreatDoor
open Go.RowKit Go.Sort

theorem intF_cells (xs : List Int) : intF.cells xs = xs.map (Value.int .i64) := by
  unfold Flat.cells
  induction xs with
  | nil => rfl
  | cons x xs ih => rw [List.flatMap_cons, ih]; rfl
theorem sortInts_own {xs : List Int} {v : Value} {B hi : Nat} {w : World} (hO : Own intF 3 B hi w v xs) (hB : B ≤ w.heap.size) (hl : xs.length < 4611686018427387904) :
    Calls Tryz.prog 62 #[v] w fun e w' => e = .returned (.tuple #[]) ∧ Own intF 3 B w'.heap.size w' v (xs.mergeSort fun x y => decide (x ≤ y)) ∧ Below B w w' := by
  have hO' := hO
  obtain ⟨⟨h1, h2⟩, h3⟩ := hO'
  rcases h2 with ⟨rfl, hn⟩ | ⟨g, cap, cur, rfl, hg, hb, hn, hc, hs, ht⟩
  · have he : xs = [] := List.eq_nil_of_length_eq_zero hn
    subst he
    refine (Tryz.slices_Sort_int_none none 0 w).mono ?_
    rintro e w' ⟨rfl, rfl⟩
    exact ⟨rfl, by rw [List.mergeSort_nil]; exact Own.nil _ _ _ _ _, Below.refl _ _⟩
  · have hgl : g < w.heap.size := (Array.getElem?_eq_some_iff.1 hb).1
    rw [intF_cells, show xs.length * intF.size = xs.length from Nat.mul_one _] at ht
    have hH := holds_of_blockI hb ht
    refine (Tryz.slices_Sort_int g 0 cap xs w hH hgl hl).mono ?_
    rintro e w' ⟨rfl, n, os, rfl⟩
    have hlen : (xs.mergeSort fun x y => decide (x ≤ y)).length = xs.length := List.length_mergeSort _
    have hown := ownsRow_sortedI (n := n) (os := os) (ts := xs.mergeSort fun x y => decide (x ≤ y)) hlen hg hb hn hc (by rw [hs]; rfl)
    refine ⟨rfl, Own.of_row (n := xs.length) hown hlen.symm (intF_cells _).symm (Nat.le_refl _), ?_⟩
    exact (Below.refl B w).grown (grownBy_sortedI _) hB (fun j hj => by cases hj; exact hg)
end Go.Proofs.YtoloplpmjcgbdaaGreatDoor
