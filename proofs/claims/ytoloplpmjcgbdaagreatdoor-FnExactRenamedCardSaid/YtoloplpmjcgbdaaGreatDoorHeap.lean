/- Blocks that are known whole. -/
import Derived.Test.YtoloplpmjcgbdaaGreatDoorApp
namespace Go.Proofs.YtoloplpmjcgbdaaGreatDoor
open Go.RowKit
theorem cell_heap {w : World} {b j : Nat} {c : Array Value} {T : TypeId} {v : Value} (h : w.heap[b]? = some (.cells c T)) (hj : c[j]? = some v) : w.cell? ⟨b, j, none⟩ = some v := by
  simp [World.cell?, h, hj]
theorem frozen_heap {w : World} {b j : Nat} {c : Array Value} {T : TypeId} (h : w.heap[b]? = some (.cells c T)) : w.frozen? ⟨b, j, none⟩ = false := by
  simp [World.frozen?, h]
theorem heap_three (w : World) (A B C : Obj) : (((w.alloc A).alloc B).alloc C).heap[w.heap.size]? = some A ∧ (((w.alloc A).alloc B).alloc C).heap[w.heap.size + 1]? = some B ∧ (((w.alloc A).alloc B).alloc C).heap[w.heap.size + 1 + 1]? = some C := by
  refine ⟨?_, ?_, ?_⟩
  · rw [heap_alloc_old _ _ (by simp; omega), heap_alloc_old _ _ (by simp), heap_alloc_new]
  · rw [heap_alloc_old _ _ (by simp), show w.heap.size + 1 = (w.alloc A).heap.size by simp, heap_alloc_new]
  · exact heap_alloc3_new w A B C
theorem heap_two (w : World) (A B : Obj) : ((w.alloc A).alloc B).heap[w.heap.size]? = some A ∧ ((w.alloc A).alloc B).heap[w.heap.size + 1]? = some B := by
  refine ⟨?_, ?_⟩
  · rw [heap_alloc_old _ _ (by simp), heap_alloc_new]
  · rw [show w.heap.size + 1 = (w.alloc A).heap.size by simp, heap_alloc_new]
theorem addr_ne {g i j : Nat} (h : i ≠ j) : (⟨g, i, none⟩ : Addr) ≠ ⟨g, j, none⟩ := fun e => h (by injection e)
theorem storeAll_far {g b j : Nat} (hb : b ≠ g) (cs : List Value) : ∀ (o : Nat) (w : World), (storeAll g cs o w).cell? ⟨b, j, none⟩ = w.cell? ⟨b, j, none⟩ := by
  induction cs with
  | nil => intro o w; rfl
  | cons c cs ih =>
    intro o w
    show (storeAll g cs (o + 1) (w.setCell ⟨g, o, none⟩ c)).cell? _ = _
    rw [ih, World.cell?_setCell_other _ _ _ _ (fun e => hb (congrArg Addr.block e).symm)]
theorem storeAll_before {g j : Nat} (cs : List Value) : ∀ (o : Nat) (w : World), j < o → (storeAll g cs o w).cell? ⟨g, j, none⟩ = w.cell? ⟨g, j, none⟩ := by
  induction cs with
  | nil => intro o w _; rfl
  | cons c cs ih =>
    intro o w h
    show (storeAll g cs (o + 1) (w.setCell ⟨g, o, none⟩ c)).cell? _ = _
    rw [ih _ _ (by omega), World.cell?_setCell_other _ _ _ _ (addr_ne (by omega))]
theorem storeAll_at {g : Nat} (cs : List Value) : ∀ (o : Nat) (w : World), (∀ j, j < cs.length → ∃ u, w.cell? ⟨g, o + j, none⟩ = some u) → ∀ j (u : Value), cs[j]? = some u → (storeAll g cs o w).cell? ⟨g, o + j, none⟩ = some u := by
  induction cs with
  | nil => intro o w _ j u hu; simp at hu
  | cons c cs ih =>
    intro o w h j u hu
    show (storeAll g cs (o + 1) (w.setCell ⟨g, o, none⟩ c)).cell? _ = _
    cases j with
    | zero =>
      obtain ⟨u0, h0⟩ := h 0 (by simp)
      rw [Nat.add_zero] at h0
      rw [storeAll_before cs _ _ (by omega)]
      exact (World.cell?_setCell_same _ _ c h0).trans (by simpa using hu)
    | succ j =>
      rw [show o + (j + 1) = o + 1 + j by omega]
      refine ih (o + 1) _ (fun i hi => ?_) j u (by simpa using hu)
      obtain ⟨u1, h1⟩ := h (i + 1) (by simpa using hi)
      rw [show o + (i + 1) = o + 1 + i by omega] at h1
      exact ⟨u1, (World.cell?_setCell_other _ _ _ _ (addr_ne (by omega))).trans h1⟩
theorem keepc {w w' : World} {p : Addr} {u : Value} (h : w.cell? p = some u) (hb : Below w.heap.size w w') : w'.cell? p = some u := (hb.cell (World.block_lt_of_cell? w p h)).trans h
theorem heap_set_same {w : World} {b j : Nat} {c : Array Value} {T : TypeId} {v : Value} (h : w.heap[b]? = some (.cells c T)) : (w.setCell ⟨b, j, none⟩ v).heap[b]? = some (.cells (c.setIfInBounds j v) T) := by
  have hb : b < w.heap.size := (Array.getElem?_eq_some_iff.1 h).1
  have h' : w.heap[b] = .cells c T := by rw [Array.getElem?_eq_getElem hb] at h; exact Option.some.inj h
  simp [World.setCell, hb, Array.getElem_modify, h']
theorem heap_set_other {w : World} {b g j : Nat} {o : Option Obj} {v : Value} (hb : b ≠ g) (h : w.heap[b]? = o) : (w.setCell ⟨g, j, none⟩ v).heap[b]? = o := by
  rw [← h]; exact Below.heap_setCell _ _ _ _ hb
theorem Rd.far {α : Type} {S : Shape α} {lo hi : Nat} {w : World} {v : Value} {xs : List α} (h : Rd S lo hi w v xs) {p : Addr} (hp : hi ≤ p.block ∨ p.block < lo) (u : Value) : Rd S lo hi (w.setCell p u) v xs :=
  h.same fun b h1 h2 => Below.heap_setCell _ _ _ _ (by omega)
theorem five {w : World} {b : Nat} {v0 v1 v2 v3 v4 : Value} {T : TypeId} (h : w.heap[b]? = some (.cells #[v0, v1, v2, v3, v4] T)) :
    w.cell? ⟨b, 0, none⟩ = some v0 ∧ w.cell? ⟨b, 1, none⟩ = some v1 ∧ w.cell? ⟨b, 2, none⟩ = some v2 ∧ w.cell? ⟨b, 3, none⟩ = some v3 ∧ w.cell? ⟨b, 4, none⟩ = some v4 :=
  ⟨cell_heap h rfl, cell_heap h rfl, cell_heap h rfl, cell_heap h rfl, cell_heap h rfl⟩
theorem blk {w w' : World} {b : Nat} {o : Obj} (hb : Below w.heap.size w w') (h : w.heap[b]? = some o) : w'.heap[b]? = some o := (hb.block b (Array.getElem?_eq_some_iff.1 h).1).trans h
theorem blk_lt {w : World} {b : Nat} {o : Obj} (h : w.heap[b]? = some o) : b < w.heap.size := (Array.getElem?_eq_some_iff.1 h).1
end Go.Proofs.YtoloplpmjcgbdaaGreatDoor
