/- Rows of states that a call owns; whether they are a heap. -/
import Derived.Test.YtllpgomloblfjaaHeapS
import Derived.Test.YtllpgomloblfjaaHeld
import Derived.StillTailTactics
namespace Go.Proofs.Ytllpgomloblfjaa
open Go.RowKit

def stF : Flat (StL × SV) := ⟨2, fun p => [p.2.v, .int .i64 p.1.sum], fun _ => rfl, fun x u h => by
  simp only [List.mem_cons, List.not_mem_nil, or_false] at h
  rcases h with h | h <;> subst h <;> rfl⟩
/-- what is to survive beside a row of states: rows of integers, objects -/
structure Kept where
  rows : List (StL × SV)
  objs : List (Nat × Obj)
variable {M : Kept}
theorem heap_storeAll {g b : Nat} (h : b ≠ g) (cs : List Value) : ∀ (o : Nat) (w : World), (storeAll g cs o w).heap[b]? = w.heap[b]? := by
  induction cs with
  | nil => exact fun o w => rfl
  | cons a cs ih => exact fun o w => (ih (o + 1) (w.setCell ⟨g, o, none⟩ a)).trans (Below.heap_setCell _ _ _ _ h)
theorem keep_store {lo hi : Nat} {w : World} {G n c : Nat} {q : Nat × Obj} (h : lo ≤ q.1 ∧ q.1 < hi ∧ w.heap[q.1]? = some q.2 ∧ (Value.slice (some ⟨G, 0, none⟩) n c).ownBlock ≠ some q.1) (cs : List Value) (o : Nat) :
    lo ≤ q.1 ∧ q.1 < hi ∧ (storeAll G cs o w).heap[q.1]? = some q.2 ∧ (Value.slice (some ⟨G, 0, none⟩) n c).ownBlock ≠ some q.1 :=
  ⟨h.1, h.2.1, (heap_storeAll (fun e => h.2.2.2 (congrArg some e.symm)) cs o w).trans h.2.2.1, h.2.2.2⟩
/-- none of the objects holds v -/
def Fresh (M : Kept) (v : Value) : Prop := ∀ q ∈ M.objs, ∀ (b j : Nat) (w : World), w.heap[b]? = some q.2 → w.cell? ⟨b, j, none⟩ ≠ some v
/-- a row of states: the cells are owned, and so is the list of each -/
structure SOwn (M : Kept) (lo hi : Nat) (w : World) (v : Value) (ps : List (StL × SV)) : Prop where
  outer : Own stF 96 lo hi w v ps
  inner : ∀ p ∈ ps, Own intF 3 lo hi w p.2.v p.1.vals
  more : ∀ p ∈ M.rows, Own intF 3 lo hi w p.2.v p.1.vals
  keep : ∀ q ∈ M.objs, lo ≤ q.1 ∧ q.1 < hi ∧ w.heap[q.1]? = some q.2 ∧ v.ownBlock ≠ some q.1
section
variable {lo hi : Nat} {w w' : World} {v : Value} {ps : List (StL × SV)}
theorem SOwn.same (h : SOwn M lo hi w v ps) (hs : Same lo hi w w') : SOwn M lo hi w' v ps := ⟨h.outer.same hs, fun p hp => (h.inner p hp).same hs, fun p hp => (h.more p hp).same hs, fun q hq => ⟨(h.keep q hq).1, (h.keep q hq).2.1, (hs q.1 (h.keep q hq).1 (h.keep q hq).2.1).trans (h.keep q hq).2.2.1, (h.keep q hq).2.2.2⟩⟩
theorem SOwn.below {B : Nat} (h : SOwn M lo hi w v ps) (hb : Below B w w') (hh : hi ≤ B) : SOwn M lo hi w' v ps := h.same (.of_below hb hh)
theorem SOwn.wide {lo' hi' : Nat} (h : SOwn M lo hi w v ps) (h1 : lo' ≤ lo) (h2 : hi ≤ hi') : SOwn M lo' hi' w v ps := ⟨h.outer.wide h1 h2, fun p hp => (h.inner p hp).wide h1 h2, fun p hp => (h.more p hp).wide h1 h2, fun q hq => ⟨Nat.le_trans h1 (h.keep q hq).1, Nat.lt_of_lt_of_le (h.keep q hq).2.1 h2, (h.keep q hq).2.2⟩⟩
theorem SOwn.alloc (h : SOwn M lo hi w v ps) (o : Obj) : SOwn M lo hi (w.alloc o) v ps := ⟨h.outer.alloc o, fun p hp => (h.inner p hp).alloc o, fun p hp => (h.more p hp).alloc o, fun q hq => ⟨(h.keep q hq).1, (h.keep q hq).2.1, blk ((Below.refl _ _).alloc (Nat.le_refl _) o) (h.keep q hq).2.2.1, (h.keep q hq).2.2.2⟩⟩
theorem SOwn.drewN (h : SOwn M lo hi w v ps) (n : Nat) : SOwn M lo hi (w.drewN n) v ps := ⟨h.outer, h.inner, h.more, h.keep⟩
theorem SOwn.drew (h : SOwn M lo hi w v ps) : SOwn M lo hi w.drew v ps := ⟨h.outer, h.inner, h.more, h.keep⟩
theorem SOwn.form (h : SOwn M lo hi w v ps) : ∃ a c, v = .slice a ps.length c ∧ ps.length ≤ c ∧ c ≤ maxLen := by
  obtain ⟨a, c, h1, h2, h3, _⟩ := h.outer.form
  exact ⟨a, c, h1, h2, h3⟩
/-- what lies at a place -/
theorem SOwn.at {a : Option Addr} {n c : Nat} (h : SOwn M lo hi w (.slice a n c) ps) {i : Nat} (hi1 : i < ps.length) : ∃ G, a = some ⟨G, 0, none⟩ ∧ lo ≤ G ∧ G < hi ∧ n = ps.length ∧ w.cell? ⟨G, i * 2, none⟩ = some ps[i].2.v ∧ w.cell? ⟨G, i * 2 + 1, none⟩ = some (.int .i64 ps[i].1.sum) ∧ Rd intS lo hi w ps[i].2.v ps[i].1.vals := by
  rcases h.outer.shapes with ⟨e, e2⟩ | ⟨G, c', e, g1, g2, _, _⟩
  · rw [e2] at hi1; exact absurd hi1 (Nat.not_lt_zero _)
  · injection e with e1 e3 e4
    subst e1; subst e3; subst e4
    refine ⟨G, rfl, g1, g2, rfl, ?_, ?_, (h.inner _ (List.getElem_mem hi1)).rd⟩
    · exact (h.outer.cell (k := i) (j := 0) rfl hi1 (by decide)).trans rfl
    · exact (h.outer.cell (k := i) (j := 1) rfl hi1 (by decide)).trans rfl
theorem SOwn.frz {G n c : Nat} (h : SOwn M lo hi w (.slice (some ⟨G, 0, none⟩) n c) ps) (hn : n = ps.length) (j : Nat) : w.frozen? ⟨G, j, none⟩ = false := h.outer.frozen hn j
/-- one place is written anew with what is in the row -/
theorem SOwn.put {G n c k : Nat} (h : SOwn M lo hi w (.slice (some ⟨G, 0, none⟩) n c) ps) (hn : n = ps.length) (hk : k < ps.length) (p : StL × SV) (hp : p ∈ ps) : SOwn M lo hi (storeAll G (stF.enc p) (k * 2) w) (.slice (some ⟨G, 0, none⟩) n c) (ps.set k p) := by
  have hG : (Value.slice (some ⟨G, 0, none⟩) n c).ownBlock = some G := rfl
  refine ⟨h.outer.storeAll p hn hk, fun q hq => ?_, fun q hq => own_keepFarAll (own_ne h.outer (h.more q hq) (by decide) hG) _ _ (h.more q hq), fun q hq => keep_store (h.keep q hq) _ _⟩
  have hin : ∀ r ∈ ps, Own intF 3 lo hi (storeAll G (stF.enc p) (k * 2) w) r.2.v r.1.vals := fun r hr => own_keepFarAll (own_ne h.outer (h.inner r hr) (by decide) hG) _ _ (h.inner r hr)
  rcases List.mem_or_eq_of_mem_set hq with h1 | h1
  · exact hin q h1
  · subst h1; exact hin q hp
theorem SOwn.take {a : Option Addr} {n c m : Nat} (h : SOwn M lo hi w (.slice a n c) ps) (hm : m ≤ ps.length) (hp : 0 < ps.length) : SOwn M lo hi w (.slice a m c) (ps.take m) := by
  obtain ⟨⟨h1, h2⟩, h3⟩ := h.outer
  have hml : (ps.take m).length = m := by rw [List.length_take]; omega
  refine ⟨⟨⟨by rw [Flat.cells_len], ?_⟩, fun g hg => h3 g (by cases a with | none => simp [Value.ownBlock] at hg | some ad => exact hg)⟩, fun p hq => h.inner p (List.mem_of_mem_take hq), h.more, fun q hq => ⟨(h.keep q hq).1, (h.keep q hq).2.1, (h.keep q hq).2.2.1, by cases a with | none => simp [Value.ownBlock] | some ad => exact (h.keep q hq).2.2.2⟩⟩
  rcases h2 with ⟨e, e2⟩ | ⟨g, cap, cur, e, q1, q2, q3, q4, q5, q6⟩
  · omega
  · injection e with e1 e3 e4
    subst e1; subst e4
    refine .inr ⟨g, c, cur, by rw [hml], q1, q2, by omega, q4, q5, ?_⟩
    rw [hml]
    have e7 : stF.cells (ps.take m) = (stF.cells ps).take (m * stF.size) := by
      conv => rhs; rw [← List.take_append_drop m ps]
      unfold Flat.cells
      rw [List.flatMap_append]
      have hl : (List.flatMap stF.enc (ps.take m)).length = m * stF.size := by
        have := Flat.cells_len (F := stF) (xs := ps.take m)
        rw [hml] at this
        exact this
      rw [← hl, List.take_left]
    rw [e7, ← q6, List.take_take, Nat.min_eq_left (Nat.mul_le_mul_right _ hm)]
end
/-- a row that reads as states -/
def HOwn (M : Kept) (lo hi : Nat) (w : World) (v : Value) (xs : List StL) : Prop := ∃ ps, SOwn M lo hi w v ps ∧ ps.map (·.1) = xs
section
variable {lo hi : Nat} {w w' : World} {v : Value} {xs : List StL}
theorem HOwn.same (h : HOwn M lo hi w v xs) (hs : Same lo hi w w') : HOwn M lo hi w' v xs := by obtain ⟨ps, h1, h2⟩ := h; exact ⟨ps, h1.same hs, h2⟩
theorem HOwn.below {B : Nat} (h : HOwn M lo hi w v xs) (hb : Below B w w') (hh : hi ≤ B) : HOwn M lo hi w' v xs := h.same (.of_below hb hh)
theorem HOwn.wide {lo' hi' : Nat} (h : HOwn M lo hi w v xs) (h1 : lo' ≤ lo) (h2 : hi ≤ hi') : HOwn M lo' hi' w v xs := by obtain ⟨ps, k1, k2⟩ := h; exact ⟨ps, k1.wide h1 h2, k2⟩
theorem HOwn.form (h : HOwn M lo hi w v xs) : ∃ a c, v = .slice a xs.length c ∧ xs.length ≤ c ∧ c ≤ maxLen := by
  obtain ⟨ps, h1, rfl⟩ := h
  rw [List.length_map]
  exact h1.form
theorem HOwn.at {a : Option Addr} {n c : Nat} (h : HOwn M lo hi w (.slice a n c) xs) {i : Nat} (hi1 : i < xs.length) : ∃ G u, a = some ⟨G, 0, none⟩ ∧ lo ≤ G ∧ G < hi ∧ n = xs.length ∧ w.cell? ⟨G, i * 2, none⟩ = some u ∧ w.cell? ⟨G, i * 2 + 1, none⟩ = some (.int .i64 (stA xs i).sum) ∧ Rd intS lo hi w u (stA xs i).vals := by
  obtain ⟨ps, h1, rfl⟩ := h
  have hi2 : i < ps.length := by simpa using hi1
  obtain ⟨G, e, g1, g2, g3, c0, c1, hr⟩ := h1.at hi2
  have e2 : stA (ps.map (·.1)) i = ps[i].1 := by rw [← stA_at hi1, List.getElem_map]
  rw [e2, List.length_map]
  exact ⟨G, _, e, g1, g2, g3, c0, c1, hr⟩
end
theorem up_int {i : Nat} (h : 1 ≤ i) : ((i : Int) + 1).tdiv 2 - 1 = (upN i : Int) := by
  rw [Int.tdiv_eq_ediv_of_nonneg (by omega)]
  unfold upN
  omega
theorem above_any (i : Nat) (w : World) (h : 1 ≤ i) (h2 : i ≤ 4611686018427387904) : Calls Try.prog 137 #[.int .i64 i] w fun e w' => e = .returned (.int .i64 (upN i)) ∧ w' = w := by
  have HU := Lib.hid (up_int h)
  go_enter Try.func137, Try.ntmps137
  go_wp2
  go_ret
  exact ⟨by rw [← HU.out]; first | rfl | simp, rfl⟩
theorem keep4 {w w1 w2 : World} {a0 a1 a2 a3 : Addr} {u0 u1 u2 u3 : Value} (h : w1.cell? a0 = some u0 ∧ w1.cell? a1 = some u1 ∧ w1.cell? a2 = some u2 ∧ w1.cell? a3 = some u3 ∧ Below w.heap.size w w1) (hb : Below w1.heap.size w1 w2) :
    w2.cell? a0 = some u0 ∧ w2.cell? a1 = some u1 ∧ w2.cell? a2 = some u2 ∧ w2.cell? a3 = some u3 ∧ Below w.heap.size w w2 :=
  ⟨(hb.cell (World.block_lt_of_cell? w1 _ h.1)).trans h.1, (hb.cell (World.block_lt_of_cell? w1 _ h.2.1)).trans h.2.1, (hb.cell (World.block_lt_of_cell? w1 _ h.2.2.1)).trans h.2.2.1, (hb.cell (World.block_lt_of_cell? w1 _ h.2.2.2.1)).trans h.2.2.2.1, h.2.2.2.2.trans (hb.mono h.2.2.2.2.size)⟩
theorem heapL_no {l : List StL} {i : Nat} (h : i < l.length) (h0 : 0 < i) (hl : lessL (stA l i) (stA l (upN i)) = true) : heapL l = false := by
  rw [← Bool.not_eq_true, heapL_iff]
  intro c
  have := c i h h0
  unfold LeS at this
  rw [hl] at this
  cases this
theorem heapL_yes {l : List StL} (h : ∀ i, i < l.length → 0 < i → lessL (stA l i) (stA l (upN i)) = false) : heapL l = true := heapL_iff.2 fun i hi h0 => h i hi h0
end Go.Proofs.Ytllpgomloblfjaa
