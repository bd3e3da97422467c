/- Frames for what draws and builds; l18Lines. -/
import Derived.Test.YtllpgomloblfjaaDraw
namespace Go.Proofs.Ytllpgomloblfjaa
open Go.RowKit
theorem Cur.below {g lo hi B : Nat} {xs : List Int} {w w' : World} (h : Cur g lo hi xs w) (hb : Below B w w') (hg : g < B) : Cur g lo hi xs w' := by
  obtain ⟨h1, h2, h3, sa, sc, i, h, a1, a2, a3, a4, a5, a6, a7, a8⟩ := h
  exact ⟨h1, Nat.lt_of_lt_of_le h2 hb.size, h3, sa, sc, i, h, a1, a2, (hb.cell (p := ⟨g, 0, none⟩) hg).trans a3, (hb.cell (p := ⟨g, 1, none⟩) hg).trans a4, (hb.cell (p := ⟨g, 2, none⟩) hg).trans a5, (hb.frozen (p := ⟨g, 1, none⟩) hg).trans a6, (hb.frozen (p := ⟨g, 2, none⟩) hg).trans a7, a8.below hb (by omega)⟩
theorem Cur.lt {g lo hi : Nat} {xs : List Int} {w : World} (h : Cur g lo hi xs w) : g < w.heap.size := h.2.1
theorem Out.then {lo hi C : Nat} {w w1 w2 : World} (h : Out lo hi w w1) (hb : Below C w1 w2) (hC : w.heap.size ≤ C) : Out lo hi w w2 :=
  ⟨hb.os.trans h.os, hb.tape.trans h.tape, hb.output.trans h.output, Nat.le_trans h.size hb.size, fun k hk hn => (hb.block k (Nat.lt_of_lt_of_le hk hC)).trans (h.block k hk hn)⟩
theorem OutE.out {α : Type} {F : Flat α} {T B C lo hi : Nat} {w w' : World} {v : Value} {xs : List α} (h : OutE F T B C w v xs) (ho : Out lo hi w w') (h1 : hi ≤ B) (hBC : B ≤ C) (hC : C ≤ w.heap.size) : OutE F T B C w' v xs := by
  rcases h with h | ⟨a, b, h⟩
  · exact .inl ((h.same (ho.same (Nat.le_refl _) (.inr (by omega)))).wide (Nat.le_refl _) ho.size)
  · exact .inr ⟨a, b, h.same (ho.same hC (.inr h1))⟩
/-- a slice literal -/
theorem rd_lit {α : Type} (F : Flat α) (w : World) (ls : List α) (arr : Array Value) (T : TypeId) (harr : arr.toList = F.cells ls) (hm : ls.length ≤ maxLen) : Rd F.shape w.heap.size (w.heap.size + 1) (w.alloc (.cells arr T)) (.slice (some ⟨w.heap.size, 0, none⟩) ls.length ls.length) ls := by
  refine ⟨_, _, rfl, Nat.le_refl _, hm, (fun e => by cases e), fun k hk => ⟨w.heap.size, 0, F.enc ls[k], rfl, Nat.le_refl _, Nat.lt_succ_self _, rfl, fun j u hu => ?_⟩⟩
  have hj : j < F.size := by
    have := (List.getElem?_eq_some_iff.1 hu).1
    rwa [F.len] at this
  refine cell_heap0 (heap_alloc_new w _) ?_
  show arr[0 + k * F.size + j]? = some u
  rw [Nat.zero_add, ← Array.getElem?_toList, harr, Flat.cells_at hk hj]
  exact hu
theorem rd_rep (n : Nat) : ∀ s ∈ List.replicate n ByteArray.empty, SzOk s := by
  intro s hs
  obtain ⟨_, rfl⟩ := List.mem_replicate.1 hs
  show _ ≤ maxLen
  decide
end Go.Proofs.Ytllpgomloblfjaa
