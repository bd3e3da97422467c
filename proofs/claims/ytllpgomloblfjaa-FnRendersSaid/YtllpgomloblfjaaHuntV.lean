/- One state pushed into a row of the call's own, of the reference. -/
import Derived.Test.YtllpgomloblfjaaHeapS
import Derived.Test.YtllpgomloblfjaaHeld
import Derived.StillTailTactics
import Derived.Deep.RegionWith
import Derived.Test.YtllpgomloblfjaaDraw
namespace Go.Proofs.Ytllpgomloblfjaa
open Go.RowKit

def stF : Flat (StL × SV) := ⟨2, fun p => [p.2.v, .int .i64 p.1.sum], fun _ => rfl, fun x u h => by
  simp only [List.mem_cons, List.not_mem_nil, or_false] at h
  rcases h with h | h <;> subst h <;> rfl⟩
/-- what is to survive beside a row of states: rows of integers, objects -/
structure Kept where
  rows : List (StL × SV)
  objs : List (Nat × Obj)
variable {M : Kept}
theorem heap_storeAll {g b : Nat} (h : b ≠ g) (cs : List Value) : ∀ (o : Nat) (w : World), (storeAll g cs o w).heap[b]? = w.heap[b]? := by
  induction cs with
  | nil => exact fun o w => rfl
  | cons a cs ih => exact fun o w => (ih (o + 1) (w.setCell ⟨g, o, none⟩ a)).trans (Below.heap_setCell _ _ _ _ h)
theorem keep_store {lo hi : Nat} {w : World} {G n c : Nat} {q : Nat × Obj} (h : lo ≤ q.1 ∧ q.1 < hi ∧ w.heap[q.1]? = some q.2 ∧ (Value.slice (some ⟨G, 0, none⟩) n c).ownBlock ≠ some q.1) (cs : List Value) (o : Nat) :
    lo ≤ q.1 ∧ q.1 < hi ∧ (storeAll G cs o w).heap[q.1]? = some q.2 ∧ (Value.slice (some ⟨G, 0, none⟩) n c).ownBlock ≠ some q.1 :=
  ⟨h.1, h.2.1, (heap_storeAll (fun e => h.2.2.2 (congrArg some e.symm)) cs o w).trans h.2.2.1, h.2.2.2⟩
/-- none of the objects holds v -/
def Fresh (M : Kept) (v : Value) : Prop := ∀ q ∈ M.objs, ∀ (b j : Nat) (w : World), w.heap[b]? = some q.2 → w.cell? ⟨b, j, none⟩ ≠ some v
/-- a row of states: the cells are owned, and so is the list of each -/
structure SOwn (M : Kept) (lo hi : Nat) (w : World) (v : Value) (ps : List (StL × SV)) : Prop where
  outer : Own stF 96 lo hi w v ps
  inner : ∀ p ∈ ps, Own intF 3 lo hi w p.2.v p.1.vals
  more : ∀ p ∈ M.rows, Own intF 3 lo hi w p.2.v p.1.vals
  keep : ∀ q ∈ M.objs, lo ≤ q.1 ∧ q.1 < hi ∧ w.heap[q.1]? = some q.2 ∧ v.ownBlock ≠ some q.1
section
variable {lo hi : Nat} {w w' : World} {v : Value} {ps : List (StL × SV)}
theorem SOwn.same (h : SOwn M lo hi w v ps) (hs : Same lo hi w w') : SOwn M lo hi w' v ps := ⟨h.outer.same hs, fun p hp => (h.inner p hp).same hs, fun p hp => (h.more p hp).same hs, fun q hq => ⟨(h.keep q hq).1, (h.keep q hq).2.1, (hs q.1 (h.keep q hq).1 (h.keep q hq).2.1).trans (h.keep q hq).2.2.1, (h.keep q hq).2.2.2⟩⟩
theorem SOwn.below {B : Nat} (h : SOwn M lo hi w v ps) (hb : Below B w w') (hh : hi ≤ B) : SOwn M lo hi w' v ps := h.same (.of_below hb hh)
theorem SOwn.wide {lo' hi' : Nat} (h : SOwn M lo hi w v ps) (h1 : lo' ≤ lo) (h2 : hi ≤ hi') : SOwn M lo' hi' w v ps := ⟨h.outer.wide h1 h2, fun p hp => (h.inner p hp).wide h1 h2, fun p hp => (h.more p hp).wide h1 h2, fun q hq => ⟨Nat.le_trans h1 (h.keep q hq).1, Nat.lt_of_lt_of_le (h.keep q hq).2.1 h2, (h.keep q hq).2.2⟩⟩
theorem SOwn.alloc (h : SOwn M lo hi w v ps) (o : Obj) : SOwn M lo hi (w.alloc o) v ps := ⟨h.outer.alloc o, fun p hp => (h.inner p hp).alloc o, fun p hp => (h.more p hp).alloc o, fun q hq => ⟨(h.keep q hq).1, (h.keep q hq).2.1, blk ((Below.refl _ _).alloc (Nat.le_refl _) o) (h.keep q hq).2.2.1, (h.keep q hq).2.2.2⟩⟩
theorem SOwn.drewN (h : SOwn M lo hi w v ps) (n : Nat) : SOwn M lo hi (w.drewN n) v ps := ⟨h.outer, h.inner, h.more, h.keep⟩
theorem SOwn.drew (h : SOwn M lo hi w v ps) : SOwn M lo hi w.drew v ps := ⟨h.outer, h.inner, h.more, h.keep⟩
theorem SOwn.form (h : SOwn M lo hi w v ps) : ∃ a c, v = .slice a ps.length c ∧ ps.length ≤ c ∧ c ≤ maxLen := by
  obtain ⟨a, c, h1, h2, h3, _⟩ := h.outer.form
  exact ⟨a, c, h1, h2, h3⟩
/-- what lies at a place -/
theorem SOwn.at {a : Option Addr} {n c : Nat} (h : SOwn M lo hi w (.slice a n c) ps) {i : Nat} (hi1 : i < ps.length) : ∃ G, a = some ⟨G, 0, none⟩ ∧ lo ≤ G ∧ G < hi ∧ n = ps.length ∧ w.cell? ⟨G, i * 2, none⟩ = some ps[i].2.v ∧ w.cell? ⟨G, i * 2 + 1, none⟩ = some (.int .i64 ps[i].1.sum) ∧ Rd intS lo hi w ps[i].2.v ps[i].1.vals := by
  rcases h.outer.shapes with ⟨e, e2⟩ | ⟨G, c', e, g1, g2, _, _⟩
  · rw [e2] at hi1; exact absurd hi1 (Nat.not_lt_zero _)
  · injection e with e1 e3 e4
    subst e1; subst e3; subst e4
    refine ⟨G, rfl, g1, g2, rfl, ?_, ?_, (h.inner _ (List.getElem_mem hi1)).rd⟩
    · exact (h.outer.cell (k := i) (j := 0) rfl hi1 (by decide)).trans rfl
    · exact (h.outer.cell (k := i) (j := 1) rfl hi1 (by decide)).trans rfl
theorem SOwn.frz {G n c : Nat} (h : SOwn M lo hi w (.slice (some ⟨G, 0, none⟩) n c) ps) (hn : n = ps.length) (j : Nat) : w.frozen? ⟨G, j, none⟩ = false := h.outer.frozen hn j
/-- one place is written anew with what is in the row -/
theorem SOwn.put {G n c k : Nat} (h : SOwn M lo hi w (.slice (some ⟨G, 0, none⟩) n c) ps) (hn : n = ps.length) (hk : k < ps.length) (p : StL × SV) (hp : p ∈ ps) : SOwn M lo hi (storeAll G (stF.enc p) (k * 2) w) (.slice (some ⟨G, 0, none⟩) n c) (ps.set k p) := by
  have hG : (Value.slice (some ⟨G, 0, none⟩) n c).ownBlock = some G := rfl
  refine ⟨h.outer.storeAll p hn hk, fun q hq => ?_, fun q hq => own_keepFarAll (own_ne h.outer (h.more q hq) (by decide) hG) _ _ (h.more q hq), fun q hq => keep_store (h.keep q hq) _ _⟩
  have hin : ∀ r ∈ ps, Own intF 3 lo hi (storeAll G (stF.enc p) (k * 2) w) r.2.v r.1.vals := fun r hr => own_keepFarAll (own_ne h.outer (h.inner r hr) (by decide) hG) _ _ (h.inner r hr)
  rcases List.mem_or_eq_of_mem_set hq with h1 | h1
  · exact hin q h1
  · subst h1; exact hin q hp
theorem SOwn.take {a : Option Addr} {n c m : Nat} (h : SOwn M lo hi w (.slice a n c) ps) (hm : m ≤ ps.length) (hp : 0 < ps.length) : SOwn M lo hi w (.slice a m c) (ps.take m) := by
  obtain ⟨⟨h1, h2⟩, h3⟩ := h.outer
  have hml : (ps.take m).length = m := by rw [List.length_take]; omega
  refine ⟨⟨⟨by rw [Flat.cells_len], ?_⟩, fun g hg => h3 g (by cases a with | none => simp [Value.ownBlock] at hg | some ad => exact hg)⟩, fun p hq => h.inner p (List.mem_of_mem_take hq), h.more, fun q hq => ⟨(h.keep q hq).1, (h.keep q hq).2.1, (h.keep q hq).2.2.1, by cases a with | none => simp [Value.ownBlock] | some ad => exact (h.keep q hq).2.2.2⟩⟩
  rcases h2 with ⟨e, e2⟩ | ⟨g, cap, cur, e, q1, q2, q3, q4, q5, q6⟩
  · omega
  · injection e with e1 e3 e4
    subst e1; subst e4
    refine .inr ⟨g, c, cur, by rw [hml], q1, q2, by omega, q4, q5, ?_⟩
    rw [hml]
    have e7 : stF.cells (ps.take m) = (stF.cells ps).take (m * stF.size) := by
      conv => rhs; rw [← List.take_append_drop m ps]
      unfold Flat.cells
      rw [List.flatMap_append]
      have hl : (List.flatMap stF.enc (ps.take m)).length = m * stF.size := by
        have := Flat.cells_len (F := stF) (xs := ps.take m)
        rw [hml] at this
        exact this
      rw [← hl, List.take_left]
    rw [e7, ← q6, List.take_take, Nat.min_eq_left (Nat.mul_le_mul_right _ hm)]
end
/-- a row that reads as states -/
def HOwn (M : Kept) (lo hi : Nat) (w : World) (v : Value) (xs : List StL) : Prop := ∃ ps, SOwn M lo hi w v ps ∧ ps.map (·.1) = xs
section
variable {lo hi : Nat} {w w' : World} {v : Value} {xs : List StL}
theorem HOwn.same (h : HOwn M lo hi w v xs) (hs : Same lo hi w w') : HOwn M lo hi w' v xs := by obtain ⟨ps, h1, h2⟩ := h; exact ⟨ps, h1.same hs, h2⟩
theorem HOwn.below {B : Nat} (h : HOwn M lo hi w v xs) (hb : Below B w w') (hh : hi ≤ B) : HOwn M lo hi w' v xs := h.same (.of_below hb hh)
theorem HOwn.wide {lo' hi' : Nat} (h : HOwn M lo hi w v xs) (h1 : lo' ≤ lo) (h2 : hi ≤ hi') : HOwn M lo' hi' w v xs := by obtain ⟨ps, k1, k2⟩ := h; exact ⟨ps, k1.wide h1 h2, k2⟩
theorem HOwn.form (h : HOwn M lo hi w v xs) : ∃ a c, v = .slice a xs.length c ∧ xs.length ≤ c ∧ c ≤ maxLen := by
  obtain ⟨ps, h1, rfl⟩ := h
  rw [List.length_map]
  exact h1.form
theorem HOwn.at {a : Option Addr} {n c : Nat} (h : HOwn M lo hi w (.slice a n c) xs) {i : Nat} (hi1 : i < xs.length) : ∃ G u, a = some ⟨G, 0, none⟩ ∧ lo ≤ G ∧ G < hi ∧ n = xs.length ∧ w.cell? ⟨G, i * 2, none⟩ = some u ∧ w.cell? ⟨G, i * 2 + 1, none⟩ = some (.int .i64 (stA xs i).sum) ∧ Rd intS lo hi w u (stA xs i).vals := by
  obtain ⟨ps, h1, rfl⟩ := h
  have hi2 : i < ps.length := by simpa using hi1
  obtain ⟨G, e, g1, g2, g3, c0, c1, hr⟩ := h1.at hi2
  have e2 : stA (ps.map (·.1)) i = ps[i].1 := by rw [← stA_at hi1, List.getElem_map]
  rw [e2, List.length_map]
  exact ⟨G, _, e, g1, g2, g3, c0, c1, hr⟩
end
theorem up_int {i : Nat} (h : 1 ≤ i) : ((i : Int) + 1).tdiv 2 - 1 = (upN i : Int) := by
  rw [Int.tdiv_eq_ediv_of_nonneg (by omega)]
  unfold upN
  omega
theorem above_any (i : Nat) (w : World) (h : 1 ≤ i) (h2 : i ≤ 4611686018427387904) : Calls Try.prog 137 #[.int .i64 i] w fun e w' => e = .returned (.int .i64 (upN i)) ∧ w' = w := by
  have HU := Lib.hid (up_int h)
  go_enter Try.func137, Try.ntmps137
  go_wp2
  go_ret
  exact ⟨by rw [← HU.out]; first | rfl | simp, rfl⟩
theorem keep4 {w w1 w2 : World} {a0 a1 a2 a3 : Addr} {u0 u1 u2 u3 : Value} (h : w1.cell? a0 = some u0 ∧ w1.cell? a1 = some u1 ∧ w1.cell? a2 = some u2 ∧ w1.cell? a3 = some u3 ∧ Below w.heap.size w w1) (hb : Below w1.heap.size w1 w2) :
    w2.cell? a0 = some u0 ∧ w2.cell? a1 = some u1 ∧ w2.cell? a2 = some u2 ∧ w2.cell? a3 = some u3 ∧ Below w.heap.size w w2 :=
  ⟨(hb.cell (World.block_lt_of_cell? w1 _ h.1)).trans h.1, (hb.cell (World.block_lt_of_cell? w1 _ h.2.1)).trans h.2.1, (hb.cell (World.block_lt_of_cell? w1 _ h.2.2.1)).trans h.2.2.1, (hb.cell (World.block_lt_of_cell? w1 _ h.2.2.2.1)).trans h.2.2.2.1, h.2.2.2.2.trans (hb.mono h.2.2.2.2.size)⟩
theorem heapL_no {l : List StL} {i : Nat} (h : i < l.length) (h0 : 0 < i) (hl : lessL (stA l i) (stA l (upN i)) = true) : heapL l = false := by
  rw [← Bool.not_eq_true, heapL_iff]
  intro c
  have := c i h h0
  unfold LeS at this
  rw [hl] at this
  cases this
theorem heapL_yes {l : List StL} (h : ∀ i, i < l.length → 0 < i → lessL (stA l i) (stA l (upN i)) = false) : heapL l = true := heapL_iff.2 fun i hi h0 => h i hi h0
end Go.Proofs.Ytllpgomloblfjaa
namespace Go.Proofs.Ytllpgomloblfjaa
open Go.RowKit
variable {M : Kept}

theorem Try.infoState : (Try.prog.info? 96).map (fun i => (i.zero, i.size, i.bytes)) = some (some (.agg #[.slice none 0 0, .int .i64 0]), 2, 32) := by kernel_rfl
theorem SOwn.up {lo hi : Nat} {w : World} {v : Value} {ps : List (StL × SV)} (h : SOwn M lo hi w v ps) : SOwn M lo w.heap.size w v ps := ⟨h.outer.up, fun p hp => (h.inner p hp).up, fun p hp => (h.more p hp).up, fun q hq => ⟨(h.keep q hq).1, blk_lt (h.keep q hq).2.2.1, (h.keep q hq).2.2⟩⟩
theorem own_some {α : Type} {F : Flat α} {T lo hi : Nat} {w : World} {v : Value} {xs : List α} (h : Own F T lo hi w v xs) (hx : xs ≠ []) : ∃ G c, v = .slice (some ⟨G, 0, none⟩) xs.length c ∧ lo ≤ G ∧ G < hi ∧ xs.length ≤ c ∧ c ≤ maxLen := by
  rcases h.shapes with ⟨_, e⟩ | h
  · exact absurd e hx
  · exact h
theorem SOwn.snoc {lo hi hi2 : Nat} {w w' : World} {v v' : Value} {ps : List (StL × SV)} {p : StL × SV} (h : SOwn M lo hi w v ps) (hf : Fresh M p.2.v) (hnew : Own intF 3 lo hi w p.2.v p.1.vals) (h1 : hi ≤ hi2) (hO : Own stF 96 lo hi2 w' v' (ps ++ [p])) (hg : w.grownBy w' v.ownBlock) : SOwn M lo hi2 w' v' (ps ++ [p]) := by
  refine ⟨hO, fun q hq => ?_, fun q hq => (kept_ne (h.more q hq) hg fun g hv => own_ne h.outer (h.more q hq) (by decide) hv).wide (Nat.le_refl _) h1, fun q hq => ?_⟩
  have hk : ∀ r : StL × SV, Own intF 3 lo hi w r.2.v r.1.vals → Own intF 3 lo hi2 w' r.2.v r.1.vals := fun r hr => (kept_ne hr hg fun g hv => own_ne h.outer hr (by decide) hv).wide (Nat.le_refl _) h1
  rcases List.mem_append.1 hq with h2 | h2
  · exact hk q (h.inner q h2)
  · rw [List.mem_singleton.1 h2]; exact hk p hnew
  · obtain ⟨k1, k2, k3, k4⟩ := h.keep q hq
    have k5 := (hg.block q.1 (blk_lt k3) (Ne.symm k4)).trans k3
    refine ⟨k1, Nat.lt_of_lt_of_le k2 h1, k5, fun e => ?_⟩
    obtain ⟨G, c, rfl, -, -, -, -⟩ := own_some hO (by simp)
    obtain rfl : G = q.1 := Option.some.inj e
    have hc := hO.cell (k := ps.length) (j := 0) rfl (by simp) (by decide)
    refine hf q hq q.1 (ps.length * stF.size + 0) w' k5 (hc.trans ?_)
    rw [List.getElem_concat_length rfl]
    rfl
theorem SOwn.swap {lo hi G n c i j : Nat} {w : World} {ps : List (StL × SV)} (h : SOwn M lo hi w (.slice (some ⟨G, 0, none⟩) n c) ps) (hn : n = ps.length) (hi1 : i < ps.length) (hj : j < ps.length) :
    SOwn M lo hi (storeAll G (stF.enc ps[i]) (j * 2) (storeAll G (stF.enc ps[j]) (i * 2) w)) (.slice (some ⟨G, 0, none⟩) n c) ((ps.set i ps[j]).set j ps[i]) := by
  have hG : (Value.slice (some ⟨G, 0, none⟩) n c).ownBlock = some G := rfl
  have hO1 := h.outer.storeAll ps[j] hn hi1
  have hO2 := Own.storeAll (k := j) ps[i] hO1 (by rw [List.length_set]; exact hn) (by rw [List.length_set]; exact hj)
  refine ⟨hO2, fun q hq => ?_, fun q hq => own_keepFarAll (own_ne h.outer (h.more q hq) (by decide) hG) _ _ (own_keepFarAll (own_ne h.outer (h.more q hq) (by decide) hG) _ _ (h.more q hq)), fun q hq => keep_store (keep_store (h.keep q hq) _ _) _ _⟩
  have hin : ∀ r ∈ ps, Own intF 3 lo hi (storeAll G (stF.enc ps[i]) (j * 2) (storeAll G (stF.enc ps[j]) (i * 2) w)) r.2.v r.1.vals := fun r hr =>
    own_keepFarAll (own_ne h.outer (h.inner r hr) (by decide) hG) _ _ (own_keepFarAll (own_ne h.outer (h.inner r hr) (by decide) hG) _ _ (h.inner r hr))
  rcases List.mem_or_eq_of_mem_set hq with h1 | h1
  · rcases List.mem_or_eq_of_mem_set h1 with h2 | h2
    · exact hin q h2
    · subst h2; exact hin _ (List.getElem_mem hj)
  · subst h1; exact hin _ (List.getElem_mem hi1)
theorem swap_map {ps : List (StL × SV)} {i j : Nat} (hi1 : i < ps.length) (hj : j < ps.length) : ((ps.set i ps[j]).set j ps[i]).map (·.1) = swapS (ps.map (·.1)) i j := by
  unfold swapS
  rw [List.map_set, List.map_set, ← stA_at (l := ps.map (·.1)) (by simpa using hj), ← stA_at (l := ps.map (·.1)) (by simpa using hi1), List.getElem_map, List.getElem_map]
/-- the state of the loop: what is to be pushed up still -/
def PushSt (goal : List StL) (l : List StL) (k : Nat) : Prop := ∃ f, k < f ∧ upF f l k = goal
theorem push_start (l : List StL) (x : StL) : PushSt (pushL l x) (l ++ [x]) l.length := ⟨l.length + 1, by omega, rfl⟩
theorem push_stop {goal l : List StL} {k : Nat} (h : PushSt goal l k) (hc : ¬ (0 < k ∧ lessL (stA l k) (stA l (upN k)) = true)) : l = goal := by
  obtain ⟨f, hf, e⟩ := h
  cases f with
  | zero => omega
  | succ f => rw [upF, if_neg hc] at e; exact e
theorem push_go {goal l : List StL} {k : Nat} (h : PushSt goal l k) (h0 : 0 < k) (hl : lessL (stA l k) (stA l (upN k)) = true) : PushSt goal (swapS l k (upN k)) (upN k) := by
  obtain ⟨f, hf, e⟩ := h
  have := up_lt h0
  cases f with
  | zero => omega
  | succ f => rw [upF, if_pos ⟨h0, hl⟩] at e; exact ⟨f, by omega, e⟩
theorem stA_map {ps : List (StL × SV)} {i : Nat} (h : i < ps.length) : stA (ps.map (·.1)) i = ps[i].1 := by
  rw [← stA_at (l := ps.map (·.1)) (by simpa using h), List.getElem_map]
set_option maxHeartbeats 4000000 in
set_option maxRecDepth 100000 in
theorem push_impl (ps : List (StL × SV)) (p : StL × SV) (v : Value) (lo hi : Nat) (w : World) (hS : SOwn M lo hi w v ps) (hp : Own intF 3 lo hi w p.2.v p.1.vals) (hf : Fresh M p.2.v) (hlo : lo ≤ w.heap.size) (hh : hi ≤ w.heap.size) (hl : ps.length ≤ 1048576) :
    Calls Try.prog 131 #[v, .agg #[p.2.v, .int .i64 p.1.sum]] w fun e w' => ∃ u, e = .returned u ∧ HOwn M lo w'.heap.size w' u (pushL (ps.map (·.1)) p.1) ∧ Below lo w w' := by
  obtain ⟨i0, hi0, hz0, hz1, hz2⟩ := info_parts Try.infoState
  have HG := Lib.hid (push_start (ps.map (·.1)) p.1)
  generalize pushL (ps.map (·.1)) p.1 = goal at *
  obtain ⟨va, vc, rfl, v2, v3⟩ := hS.form
  unfold maxLen at v3
  go_enter Try.func131, Try.ntmps131
  go_wp2_with (at_builtin; refine wp_app1g (F := stF) (P := Try.prog) (y := p) rfl (.tmp 6) (.tmp 8) 86 rfl Try.underlying86 hi0 hz0 hz1 hz2 rfl (by decide) rfl ((hS.outer.alloc _).alloc _) (w.heap.size + 1) rfl (heap_alloc2_new _ _ _) rfl (by omega) (by omega) (by simp; omega) ?_; intro v' w1 hO1 hb1 hg1; obtain ⟨G, c, rfl, gl, gh, gc1, gc2⟩ := own_some hO1 (by simp))
  have hs1 := hb1.size
  have hlen : (ps ++ [p]).length = ps.length + 1 := by simp
  have hS1 : SOwn M lo w1.heap.size w1 (.slice (some ⟨G, 0, none⟩) (ps.length + 1) c) (ps ++ [p]) := by
    have h := ((hS.alloc _).alloc _).snoc hf ((hp.alloc _).alloc _) (by simp at hs1; omega) hO1 hg1
    rwa [hlen] at h
  have hB1 : Below lo w w1 := blw_al2 hb1 hlo
  have hs2 := hB1.size
  have HM : Hid (PushSt goal ((ps ++ [p]).map (·.1)) ps.length) := by have e := HG.out; rw [List.length_map] at e; show PushSt _ _ _; rw [List.map_append]; exact e
  rw [hlen] at gc1
  clear hS hp hO1 hb1 hg1 HG hs1 hlen
  go_loopw [5] (fun i wr => ∃ (k : Nat) (qs : List (StL × SV)), qs.length = ps.length + 1 ∧ k < ps.length + 1 ∧ i = .int .i64 k ∧ SOwn M lo wr.heap.size wr (.slice (some ⟨G, 0, none⟩) (ps.length + 1) c) qs ∧ Hid (PushSt goal (qs.map (·.1)) k) ∧ Below lo w wr ∧ w1.heap.size ≤ wr.heap.size) (fun i _ => (intOf i).toNat)
  case atStart => exact ⟨ps.length, _, by simp, by omega, by first | rfl | exact int_eq (by omega), hS1, HM.out, hB1, Nat.le_refl _⟩
  case round =>
    clear hS1 HM hB1
    obtain ⟨k, qs, hql, hk, rfl, hQ, HS, hb, hsw⟩ := hrel
    have hsz := hb.size
    by_cases h0 : k = 0
    · have HF := Lib.hid (push_stop HS.out (fun c => by omega))
      subst h0
      go_wp2_with fail
      refine wp_region_held_drew (S := fun w' => w' = wr.drew) (by kernel_rfl) ?_ (fun hHeld => ?_)
      · exact rfl
      refine wpAnyH_take (i := 0) (v := ?v1) (at_op rfl) (by kernel_rfl) (by kernel_rfl) (by kernel_rfl) (fun _ _ _ h => h) (Or.inl ⟨by rfl, ?y1⟩) (by assumption) ?r1
      case y1 =>
        intro wx hSx
        subst hSx
        go_simp
        try with_reducible rfl
      try simp only [Act.put, List.setIfInBounds_toArray, List.set_cons_zero, List.set_cons_succ]
      refine wpAnyH_take (i := 1) (v := ?v2) (at_op rfl) (by kernel_rfl) (by kernel_rfl) (by kernel_rfl) (fun _ _ _ h => h) (Or.inl ⟨by rfl, ?y2⟩) (by assumption) ?r2
      case y2 =>
        intro wx hSx
        subst hSx
        go_simp
        try with_reducible rfl
      try simp only [Act.put, List.setIfInBounds_toArray, List.set_cons_zero, List.set_cons_succ]
      refine wpAnyH_take (i := 2) (v := ?v3) (at_op rfl) (by kernel_rfl) (by kernel_rfl) (by kernel_rfl) (fun _ _ _ h => h) (Or.inl ⟨by rfl, ?y3⟩) (by assumption) ?r3
      case y3 =>
        intro wx hSx
        subst hSx
        go_simp
        try with_reducible rfl
      try simp only [Act.put, List.setIfInBounds_toArray, List.set_cons_zero, List.set_cons_succ]
      refine wpAnyH_take (i := 3) (v := undef) (at_op rfl) (by kernel_rfl) (by kernel_rfl) (by kernel_rfl) (fun _ _ _ h => h) (Or.inr ⟨by rfl, rfl⟩) (by assumption) ?_
      try simp only [Act.put, List.setIfInBounds_toArray, List.set_cons_zero, List.set_cons_succ]
      refine wpAnyH_take (i := 4) (v := undef) (at_op rfl) (by kernel_rfl) (by kernel_rfl) (by kernel_rfl) (fun _ _ _ h => h) (Or.inr ⟨by rfl, rfl⟩) (by assumption) ?_
      try simp only [Act.put, List.setIfInBounds_toArray, List.set_cons_zero, List.set_cons_succ]
      refine wpAnyH_take (i := 5) (v := undef) (at_op rfl) (by kernel_rfl) (by kernel_rfl) (by kernel_rfl) (fun _ _ _ h => h) (Or.inr ⟨by rfl, rfl⟩) (by assumption) ?_
      try simp only [Act.put, List.setIfInBounds_toArray, List.set_cons_zero, List.set_cons_succ]
      refine wpAnyH_take (i := 6) (v := undef) (at_op rfl) (by kernel_rfl) (by kernel_rfl) (by kernel_rfl) (fun _ _ _ h => h) (Or.inr ⟨by rfl, rfl⟩) (by assumption) ?_
      try simp only [Act.put, List.setIfInBounds_toArray, List.set_cons_zero, List.set_cons_succ]
      refine wpAnyH_take (i := 7) (v := undef) (at_op rfl) (by kernel_rfl) (by kernel_rfl) (by kernel_rfl) (fun _ _ _ h => h) (Or.inr ⟨by rfl, rfl⟩) (by assumption) ?_
      try simp only [Act.put, List.setIfInBounds_toArray, List.set_cons_zero, List.set_cons_succ]
      refine wpAnyH_take (i := 8) (v := undef) (at_op rfl) (by kernel_rfl) (by kernel_rfl) (by kernel_rfl) (fun _ _ _ h => h) (Or.inr ⟨by rfl, rfl⟩) (by assumption) ?_
      try simp only [Act.put, List.setIfInBounds_toArray, List.set_cons_zero, List.set_cons_succ]
      refine wpAnyH_take (i := 9) (v := undef) (at_op rfl) (by kernel_rfl) (by kernel_rfl) (by kernel_rfl) (fun _ _ _ h => h) (Or.inr ⟨by rfl, rfl⟩) (by assumption) ?_
      try simp only [Act.put, List.setIfInBounds_toArray, List.set_cons_zero, List.set_cons_succ]
      refine wpAnyH_take (i := 10) (v := undef) (at_op rfl) (by kernel_rfl) (by kernel_rfl) (by kernel_rfl) (fun _ _ _ h => h) (Or.inr ⟨by rfl, rfl⟩) (by assumption) ?_
      try simp only [Act.put, List.setIfInBounds_toArray, List.set_cons_zero, List.set_cons_succ]
      refine wpAnyH_take (i := 11) (v := undef) (at_op rfl) (by kernel_rfl) (by kernel_rfl) (by kernel_rfl) (fun _ _ _ h => h) (Or.inr ⟨by rfl, rfl⟩) (by assumption) ?_
      try simp only [Act.put, List.setIfInBounds_toArray, List.set_cons_zero, List.set_cons_succ]
      refine wpAnyH_take (i := 12) (v := undef) (at_op rfl) (by kernel_rfl) (by kernel_rfl) (by kernel_rfl) (fun _ _ _ h => h) (Or.inr ⟨by rfl, rfl⟩) (by assumption) ?_
      try simp only [Act.put, List.setIfInBounds_toArray, List.set_cons_zero, List.set_cons_succ]
      refine wpAnyH_take (i := 13) (v := ?v4) (at_op rfl) (by kernel_rfl) (by kernel_rfl) (by kernel_rfl) (fun _ _ _ h => h) (Or.inl ⟨by rfl, ?y4⟩) (by assumption) ?r4
      case y4 =>
        intro wx hSx
        subst hSx
        go_simp
        try with_reducible rfl
      try simp only [Act.put, List.setIfInBounds_toArray, List.set_cons_zero, List.set_cons_succ]
      refine wpAnyH_done (by kernel_rfl) ?_ _
      go_wp2
      go_ret
      exact ⟨_, rfl, ⟨qs, hQ.drew, HF.out⟩, hb.drew⟩
    · have hk1 : 1 ≤ k := by omega
      have hkg : (k : Int) > 0 := by omega
      have hki : (k : Int) < (ps.length : Int) + 1 := by omega
      have hkz : (0 : Int) ≤ (k : Int) := by omega
      have hul := up_lt (show 0 < k by omega)
      obtain ⟨m, hm⟩ : ∃ m, Hid (m = upN k) := ⟨_, rfl⟩
      have hmk' : m < k := by have := hm.out; omega
      have hkq : k < qs.length := by omega
      have hmk : m < qs.length := by omega
      obtain ⟨G1, e1, -, -, -, c0, c1, hru⟩ := hQ.at hkq
      obtain ⟨G2, e2, -, -, -, d0, d1, hru'⟩ := hQ.at hmk
      injection e1 with e1
      injection e1 with e1 _ _
      subst e1
      injection e2 with e2
      injection e2 with e2 _ _
      subst e2
      have HAB : Hid (∀ w, Calls Try.prog 137 #[.int .i64 k] w fun e w' => e = .returned (.int .i64 m) ∧ w' = w) := fun w => by rw [hm.out]; exact above_any k w hk1 (by omega)
      have HSK := Lib.hid (stA_map (ps := qs) hkq)
      have HSM := Lib.hid (stA_map (ps := qs) hmk)
      have HST : Hid (lessL qs[k].1 qs[m].1 = false → qs.map (·.1) = goal) := fun h => push_stop HS.out (fun c => by rw [← hm.out, HSK.out, HSM.out, h] at c; exact absurd c.2 (by decide))
      have HGO : Hid (lessL qs[k].1 qs[m].1 = true → PushSt goal (swapS (qs.map (·.1)) k m) m) := fun h => by have e := push_go HS.out (show 0 < k by omega) (by rw [← hm.out, HSK.out, HSM.out]; exact h); rwa [← hm.out] at e
      have HSW := Lib.hid (swap_map (ps := qs) hkq hmk)
      have HLS := Lib.hid (less_impl (w := wr.drew) qs[k].1 qs[m].1 hru (Nat.le_refl _) hru' (Nat.le_refl _))
      clear hul HSK HSM
      have hmi : (m : Int) < (ps.length : Int) + 1 := by omega
      have hmz : (0 : Int) ≤ (m : Int) := by omega
      have HXK : Hid (∀ w, SOwn M lo w.heap.size w (.slice (some ⟨G, 0, none⟩) (ps.length + 1) c) qs → SOwn M lo w.heap.size (storeAll G (stF.enc qs[k]) (m * 2) (storeAll G (stF.enc qs[m]) (k * 2) w)) (.slice (some ⟨G, 0, none⟩) (ps.length + 1) c) ((qs.set k qs[m]).set m qs[k])) := fun w h => h.swap hql.symm hkq hmk
      clear hru hru'
      have HQL := Lib.hid hql
      have HHM := Lib.hid hmk'
      generalize qs[k] = xk at *
      generalize qs[m] = xm at *
      have hkd1 : decide ((k : Int) > 0) = true := decide_eq_true hkg
      have hkd2 : decide (0 < (k : Int)) = true := decide_eq_true hkg
      have hkn : 0 < k := by omega
      have hkd3 : decide (0 < k) = true := decide_eq_true hkn
      clear h0 hql hmk' hmk hkq hk1
      obtain ⟨x1, xa, xn, xc⟩ := xk
      obtain ⟨y1, ya, yn, yc⟩ := xm
      replace c0 : wr.cell? ⟨G, k * 2, none⟩ = some (.slice xa xn xc) := c0
      replace c1 : wr.cell? ⟨G, k * 2 + 1, none⟩ = some (.int .i64 x1.sum) := c1
      replace d0 : wr.cell? ⟨G, m * 2, none⟩ = some (.slice ya yn yc) := d0
      replace d1 : wr.cell? ⟨G, m * 2 + 1, none⟩ = some (.int .i64 y1.sum) := d1
      replace HLS : Hid (Calls Try.prog 129 #[.agg #[.slice xa xn xc, .int .i64 x1.sum], .agg #[.slice ya yn yc, .int .i64 y1.sum]] wr.drew fun e w' => e = .returned (.bool (lessL x1 y1)) ∧ Below wr.drew.heap.size wr.drew w') := HLS
      replace HST : Hid (lessL x1 y1 = false → qs.map (·.1) = goal) := HST
      replace HGO : Hid (lessL x1 y1 = true → PushSt goal (swapS (qs.map (·.1)) k m) m) := HGO
      obtain ⟨bq, hbq⟩ : ∃ bq, Hid (lessL x1 y1 = bq) := ⟨_, rfl⟩
      rw [hbq.out] at HST HGO HLS
      go_wp2_with fail
      refine wp_region_held_drew (S := fun w' => w'.cell? ⟨G, k * 2, none⟩ = some (.slice xa xn xc) ∧ w'.cell? ⟨G, k * 2 + 1, none⟩ = some (.int .i64 x1.sum) ∧ w'.cell? ⟨G, m * 2, none⟩ = some (.slice ya yn yc) ∧ w'.cell? ⟨G, m * 2 + 1, none⟩ = some (.int .i64 y1.sum) ∧ Below wr.heap.size wr w') (by kernel_rfl) ?_ (fun hHeld => ?_)
      · exact ⟨c0, c1, d0, d1, (Below.refl _ _).drew⟩
      refine wpAnyH_take (i := 0) (v := ?v5) (at_op rfl) (by kernel_rfl) (by kernel_rfl) (by kernel_rfl) (fun _ _ _ h => h) (Or.inl ⟨by rfl, ?y5⟩) (by assumption) ?r5
      case y5 =>
        intro wx hSx
        go_simp
        try with_reducible rfl
      try simp only [Act.put, List.setIfInBounds_toArray, List.set_cons_zero, List.set_cons_succ]
      refine wpAnyH_take (i := 1) (v := ?v6) (at_op rfl) (by kernel_rfl) (by kernel_rfl) (by kernel_rfl) (fun _ _ _ h => h) (Or.inl ⟨by rfl, ?y6⟩) (by assumption) ?r6
      case y6 =>
        intro wx hSx
        go_simp
        try with_reducible rfl
      try simp only [Act.put, List.setIfInBounds_toArray, List.set_cons_zero, List.set_cons_succ]
      refine wpAnyH_take (i := 2) (v := ?v7) (at_op rfl) (by kernel_rfl) (by kernel_rfl) (by kernel_rfl) (fun _ _ _ h => h) (Or.inl ⟨by rfl, ?y7⟩) (by assumption) ?r7
      case y7 =>
        intro wx hSx
        go_simp
        try with_reducible rfl
      try simp only [Act.put, List.setIfInBounds_toArray, List.set_cons_zero, List.set_cons_succ]
      refine wpAnyH_take (i := 3) (v := ?v8) (at_op rfl) (by kernel_rfl) (by kernel_rfl) (by kernel_rfl) (fun _ _ _ h => h) (Or.inl ⟨by rfl, ?y8⟩) (by assumption) ?r8
      case y8 =>
        intro wx hSx
        go_simp
        try with_reducible rfl
      try simp only [Act.put, List.setIfInBounds_toArray, List.set_cons_zero, List.set_cons_succ]
      refine wpAnyH_take (i := 4) (v := ?v9) (at_op rfl) (by kernel_rfl) (by kernel_rfl) (by kernel_rfl) (fun _ _ _ h => h) (Or.inl ⟨by rfl, ?y9⟩) (by assumption) ?r9
      case y9 =>
        intro wx hSx
        go_simp
        try with_reducible rfl
      try simp only [Act.put, List.setIfInBounds_toArray, List.set_cons_zero, List.set_cons_succ]
      refine wpAnyH_take (i := 5) (v := ?v10) (at_op rfl) (by kernel_rfl) (by kernel_rfl) (by kernel_rfl) (fun _ _ _ h => h) (Or.inl ⟨by rfl, ?y10⟩) (by assumption) ?r10
      case y10 =>
        intro wx hSx
        go_simp
        try with_reducible rfl
      try simp only [Act.put, List.setIfInBounds_toArray, List.set_cons_zero, List.set_cons_succ]
      refine wpAnyH_take (i := 6) (v := ?v11) (at_op rfl) (by kernel_rfl) (by kernel_rfl) (by kernel_rfl) (fun _ _ _ h => h) (Or.inl ⟨by rfl, ?y11⟩) (by assumption) ?r11
      case y11 =>
        intro wx hSx
        go_simp
        try with_reducible rfl
      try simp only [Act.put, List.setIfInBounds_toArray, List.set_cons_zero, List.set_cons_succ]
      refine wpAnyH_take (i := 7) (v := ?v12) (at_op rfl) (by kernel_rfl) (by kernel_rfl) (by kernel_rfl) (fun _ _ _ h => h) (Or.inl ⟨by rfl, ?y12⟩) (by assumption) ?r12
      case y12 =>
        intro wx hSx
        go_simp
        try with_reducible rfl
      try simp only [Act.put, List.setIfInBounds_toArray, List.set_cons_zero, List.set_cons_succ]
      refine wpAnyH_take (i := 8) (v := ?v13) (at_op rfl) (by kernel_rfl) (by kernel_rfl) (by kernel_rfl) (fun _ _ _ h => h) (Or.inl ⟨by rfl, ?y13⟩) (by assumption) ?r13
      case y13 =>
        intro wx hSx
        go_simp
        try with_reducible rfl
      try simp only [Act.put, List.setIfInBounds_toArray, List.set_cons_zero, List.set_cons_succ]
      refine wpAnyH_ready (rs := [9]) (by kernel_rfl) (by simp) ?_
      refine AllReadyH.cons (at_op rfl) (fun K hK => ?_) AllReadyH.nil
      go_simp
      refine (HAB.out _).mono ?_
      rintro e w' ⟨rfl, rfl⟩
      go_wp2_with fail
      refine hK.out _ _ hHeld (fun _ => ?_)
      clear hK K
      try simp only [Act.put, List.setIfInBounds_toArray, List.set_cons_zero, List.set_cons_succ]
      refine wpAnyH_take (i := 10) (v := ?v14) (at_op rfl) (by kernel_rfl) (by kernel_rfl) (by kernel_rfl) (fun _ _ _ h => h) (Or.inl ⟨by rfl, ?y14⟩) (by assumption) ?r14
      case y14 =>
        intro wx hSx
        go_simp
        try with_reducible rfl
      try simp only [Act.put, List.setIfInBounds_toArray, List.set_cons_zero, List.set_cons_succ]
      refine wpAnyH_take (i := 11) (v := ?v15) (at_op rfl) (by kernel_rfl) (by kernel_rfl) (by kernel_rfl) (fun _ _ _ h => h) (Or.inl ⟨by rfl, ?y15⟩) (by assumption) ?r15
      case y15 =>
        intro wx hSx
        go_simp
        try with_reducible rfl
      try simp only [Act.put, List.setIfInBounds_toArray, List.set_cons_zero, List.set_cons_succ]
      refine wpAnyH_ready (rs := [12]) (by kernel_rfl) (by simp) ?_
      refine AllReadyH.cons (at_op rfl) (fun K hK => ?_) AllReadyH.nil
      go_simp
      refine HLS.out.mono ?_
      rintro e w5 ⟨rfl, hb5⟩
      go_wp2_with fail
      refine hK.out _ _ (keep4 hHeld hb5) (fun _ => ?_)
      clear hK K
      try simp only [Act.put, List.setIfInBounds_toArray, List.set_cons_zero, List.set_cons_succ]
      refine wpAnyH_take (i := 13) (v := ?v16) (at_op rfl) (by kernel_rfl) (by kernel_rfl) (by kernel_rfl) (fun _ _ _ h => h) (Or.inl ⟨by rfl, ?y16⟩) (by assumption) ?r16
      case y16 =>
        intro wx hSx
        go_simp
        try with_reducible rfl
      try simp only [Act.put, List.setIfInBounds_toArray, List.set_cons_zero, List.set_cons_succ]
      refine wpAnyH_done (by kernel_rfl) ?_ _
      have hs5 := hb5.size
      have hQ5 := (hQ.drew.below hb5 (Nat.le_refl _)).up
      have hB5 : Below lo w w5 := hb.drew.trans (hb5.mono (by show lo ≤ wr.heap.size; omega))
      have hsw5 : w1.heap.size ≤ w5.heap.size := Nat.le_trans hsw hs5
      cases bq with
      | false =>
        have HF := Lib.hid (HST.out rfl)
        go_wp2
        go_ret
        exact ⟨_, rfl, ⟨qs, hQ5, HF.out⟩, hB5⟩
      | true =>
        have HGT := Lib.hid (HGO.out rfl)
        have hGw : G < wr.heap.size := by omega
        have q0 : w5.cell? ⟨G, k * 2, none⟩ = some (.slice xa xn xc) := (hb5.cell (p := ⟨G, _, none⟩) hGw).trans c0
        have q1 : w5.cell? ⟨G, k * 2 + 1, none⟩ = some (.int .i64 x1.sum) := (hb5.cell (p := ⟨G, _, none⟩) hGw).trans c1
        have q2 : w5.cell? ⟨G, m * 2, none⟩ = some (.slice ya yn yc) := (hb5.cell (p := ⟨G, _, none⟩) hGw).trans d0
        have q3 : w5.cell? ⟨G, m * 2 + 1, none⟩ = some (.int .i64 y1.sum) := (hb5.cell (p := ⟨G, _, none⟩) hGw).trans d1
        clear HLS HST HGO c0 c1 d0 d1
        have hQd : SOwn M lo w5.drew.heap.size w5.drew (.slice (some ⟨G, 0, none⟩) (ps.length + 1) c) qs := hQ5.drew
        have HSd := Lib.hid (HXK.out w5.drew hQd).up
        have z0 : w5.drew.cell? ⟨G, k * 2, none⟩ = some (.slice xa xn xc) := q0
        have z1 : w5.drew.cell? ⟨G, k * 2 + 1, none⟩ = some (.int .i64 x1.sum) := q1
        have z2 : w5.drew.cell? ⟨G, m * 2, none⟩ = some (.slice ya yn yc) := q2
        have z3 : w5.drew.cell? ⟨G, m * 2 + 1, none⟩ = some (.int .i64 y1.sum) := q3
        have f0 := hQd.frz HQL.out.symm (k * 2)
        have f1 := hQd.frz HQL.out.symm (k * 2 + 1)
        have f2 := hQd.frz HQL.out.symm (m * 2)
        have f3 := hQd.frz HQL.out.symm (m * 2 + 1)
        have g0 : w5.frozen? ⟨G, k * 2, none⟩ = false := f0
        have g1 : w5.frozen? ⟨G, k * 2 + 1, none⟩ = false := f1
        have g2 : w5.frozen? ⟨G, m * 2, none⟩ = false := f2
        have g3 : w5.frozen? ⟨G, m * 2 + 1, none⟩ = false := f3
        have hmk2 := HHM.out
        have y2 : ((w5.drew.setCell ⟨G, k * 2, none⟩ (.slice ya yn yc)).setCell ⟨G, k * 2 + 1, none⟩ (.int .i64 y1.sum)).cell? ⟨G, m * 2, none⟩ = some (.slice ya yn yc) :=
          (World.cell?_setCell_other _ _ _ _ (fun c => by injection c with _ c _; omega)).trans ((World.cell?_setCell_other _ _ _ _ (fun c => by injection c with _ c _; omega)).trans z2)
        have y3 : ((w5.drew.setCell ⟨G, k * 2, none⟩ (.slice ya yn yc)).setCell ⟨G, k * 2 + 1, none⟩ (.int .i64 y1.sum)).cell? ⟨G, m * 2 + 1, none⟩ = some (.int .i64 y1.sum) :=
          (World.cell?_setCell_other _ _ _ _ (fun c => by injection c with _ c _; omega)).trans ((World.cell?_setCell_other _ _ _ _ (fun c => by injection c with _ c _; omega)).trans z3)
        have y4 : ((w5.setCell ⟨G, k * 2, none⟩ (.slice ya yn yc)).setCell ⟨G, k * 2 + 1, none⟩ (.int .i64 y1.sum)).cell? ⟨G, m * 2, none⟩ = some (.slice ya yn yc) :=
          (World.cell?_setCell_other _ _ _ _ (fun c => by injection c with _ c _; omega)).trans ((World.cell?_setCell_other _ _ _ _ (fun c => by injection c with _ c _; omega)).trans q2)
        have y5 : ((w5.setCell ⟨G, k * 2, none⟩ (.slice ya yn yc)).setCell ⟨G, k * 2 + 1, none⟩ (.int .i64 y1.sum)).cell? ⟨G, m * 2 + 1, none⟩ = some (.int .i64 y1.sum) :=
          (World.cell?_setCell_other _ _ _ _ (fun c => by injection c with _ c _; omega)).trans ((World.cell?_setCell_other _ _ _ _ (fun c => by injection c with _ c _; omega)).trans q3)
        have n1 : ¬ m * 2 = k * 2 := by omega
        have n2 : ¬ m * 2 = k * 2 + 1 := by omega
        have n3 : ¬ m * 2 + 1 = k * 2 := by omega
        have n4 : ¬ k * 2 = m * 2 := by omega
        have n5 : ¬ k * 2 + 1 = m * 2 := by omega
        have n6 : ¬ k * 2 = m * 2 + 1 := by omega
        have n7 : ¬ m = k := by omega
        have n8 : ¬ k = m := by omega
        clear hmk2
        have HBF : Hid (Below lo w (storeAll G (stF.enc (x1, (xa, xn, xc))) (m * 2) (storeAll G (stF.enc (y1, (ya, yn, yc))) (k * 2) w5.drew))) := blw_storeAll (blw_storeAll hB5.drew gl _ _) gl _ _
        have HSZ : Hid (w1.heap.size ≤ (storeAll G (stF.enc (x1, (xa, xn, xc))) (m * 2) (storeAll G (stF.enc (y1, (ya, yn, yc))) (k * 2) w5.drew)).heap.size) := by show _ ≤ _; rw [size_storeAll, size_storeAll]; exact hsw5
        clear hQ5 hB5 hsw5 hQd hQ HS HXK hb5 hs5
        go_wp2_with fail
        go_region_with (go_at_call 137; refine (HAB.out _).mono ?_; rintro e w' ⟨rfl, rfl⟩)
        all_goals
          go_wp2_with fail
          refine (HAB.out _).mono ?_
          rintro e w' ⟨rfl, rfl⟩
          go_wp2
          go_roundw
          case rel => exact ⟨m, (qs.set k (y1, (ya, yn, yc))).set m (x1, (xa, xn, xc)), (by rw [List.length_set, List.length_set]; exact HQL.out), by have := HHM.out; omega, rfl, HSd.out, (by rw [HSW.out]; exact HGT.out), HBF.out, HSZ.out⟩
          case measure => have := HHM.out; simp [intOf]; omega
end Go.Proofs.Ytllpgomloblfjaa
namespace Go.Proofs.Ytllpgomloblfjaa
open Go.RowKit
variable {M : Kept}

set_option maxHeartbeats 4000000 in
set_option maxRecDepth 100000 in
theorem push_spec (ps : List (StL × SV)) (p : StL × SV) (v : Value) (lo hi : Nat) (w : World) (hS : SOwn M lo hi w v ps) (hp : Own intF 3 lo hi w p.2.v p.1.vals) (hf : Fresh M p.2.v) (hlo : lo ≤ w.heap.size) (hh : hi ≤ w.heap.size) (hl : ps.length ≤ 1048576) :
    Calls Try.prog 67 #[v, .agg #[p.2.v, .int .i64 p.1.sum]] w fun e w' => ∃ u, e = .returned u ∧ HOwn M lo w'.heap.size w' u (pushL (ps.map (·.1)) p.1) ∧ Below lo w w' := by
  obtain ⟨i0, hi0, hz0, hz1, hz2⟩ := info_parts Try.infoState
  have HG := Lib.hid (push_start (ps.map (·.1)) p.1)
  generalize pushL (ps.map (·.1)) p.1 = goal at *
  obtain ⟨va, vc, rfl, v2, v3⟩ := hS.form
  unfold maxLen at v3
  go_enter Try.func67, Try.ntmps67
  go_wp2_with (at_builtin; refine wp_app1g (F := stF) (P := Try.prog) (y := p) rfl (.tmp 8) (.tmp 10) 86 rfl Try.underlying86 hi0 hz0 hz1 hz2 rfl (by decide) rfl ((hS.outer.alloc _).alloc _) (w.heap.size + 1) rfl (heap_alloc2_new _ _ _) rfl (by omega) (by omega) (by simp; omega) ?_; intro v' w1 hO1 hb1 hg1; obtain ⟨G, c, rfl, gl, gh, gc1, gc2⟩ := own_some hO1 (by simp))
  have hs1 := hb1.size
  have hlen : (ps ++ [p]).length = ps.length + 1 := by simp
  have hS1 : SOwn M lo w1.heap.size w1 (.slice (some ⟨G, 0, none⟩) (ps.length + 1) c) (ps ++ [p]) := by
    have h := ((hS.alloc _).alloc _).snoc hf ((hp.alloc _).alloc _) (by simp at hs1; omega) hO1 hg1
    rwa [hlen] at h
  have hB1 : Below lo w w1 := blw_al2 hb1 hlo
  have hs2 := hB1.size
  have HM : Hid (PushSt goal ((ps ++ [p]).map (·.1)) ps.length) := by have e := HG.out; rw [List.length_map] at e; show PushSt _ _ _; rw [List.map_append]; exact e
  rw [hlen] at gc1
  clear hS hp hO1 hb1 hg1 HG hs1 hlen
  go_loopw [5] (fun i wr => ∃ (k : Nat) (qs : List (StL × SV)), qs.length = ps.length + 1 ∧ k < ps.length + 1 ∧ i = .int .i64 k ∧ SOwn M lo wr.heap.size wr (.slice (some ⟨G, 0, none⟩) (ps.length + 1) c) qs ∧ Hid (PushSt goal (qs.map (·.1)) k) ∧ Below lo w wr ∧ w1.heap.size ≤ wr.heap.size) (fun i _ => (intOf i).toNat)
  case atStart => exact ⟨ps.length, _, by simp, by omega, by first | rfl | exact int_eq (by omega), hS1, HM.out, hB1, Nat.le_refl _⟩
  case round =>
    clear hS1 HM hB1
    obtain ⟨k, qs, hql, hk, rfl, hQ, HS, hb, hsw⟩ := hrel
    have hsz := hb.size
    by_cases h0 : k = 0
    · have HF := Lib.hid (push_stop HS.out (fun c => by omega))
      subst h0
      go_wp2_with fail
      refine wp_region_held_drew (S := fun w' => w' = wr.drew) (by kernel_rfl) ?_ (fun hHeld => ?_)
      · exact rfl
      refine wpAnyH_take (i := 0) (v := ?v17) (at_op rfl) (by kernel_rfl) (by kernel_rfl) (by kernel_rfl) (fun _ _ _ h => h) (Or.inl ⟨by rfl, ?y17⟩) (by assumption) ?r17
      case y17 =>
        intro wx hSx
        subst hSx
        go_simp
        try with_reducible rfl
      try simp only [Act.put, List.setIfInBounds_toArray, List.set_cons_zero, List.set_cons_succ]
      refine wpAnyH_take (i := 1) (v := ?v18) (at_op rfl) (by kernel_rfl) (by kernel_rfl) (by kernel_rfl) (fun _ _ _ h => h) (Or.inl ⟨by rfl, ?y18⟩) (by assumption) ?r18
      case y18 =>
        intro wx hSx
        subst hSx
        go_simp
        try with_reducible rfl
      try simp only [Act.put, List.setIfInBounds_toArray, List.set_cons_zero, List.set_cons_succ]
      refine wpAnyH_take (i := 2) (v := ?v19) (at_op rfl) (by kernel_rfl) (by kernel_rfl) (by kernel_rfl) (fun _ _ _ h => h) (Or.inl ⟨by rfl, ?y19⟩) (by assumption) ?r19
      case y19 =>
        intro wx hSx
        subst hSx
        go_simp
        try with_reducible rfl
      try simp only [Act.put, List.setIfInBounds_toArray, List.set_cons_zero, List.set_cons_succ]
      refine wpAnyH_take (i := 3) (v := undef) (at_op rfl) (by kernel_rfl) (by kernel_rfl) (by kernel_rfl) (fun _ _ _ h => h) (Or.inr ⟨by rfl, rfl⟩) (by assumption) ?_
      try simp only [Act.put, List.setIfInBounds_toArray, List.set_cons_zero, List.set_cons_succ]
      refine wpAnyH_take (i := 4) (v := undef) (at_op rfl) (by kernel_rfl) (by kernel_rfl) (by kernel_rfl) (fun _ _ _ h => h) (Or.inr ⟨by rfl, rfl⟩) (by assumption) ?_
      try simp only [Act.put, List.setIfInBounds_toArray, List.set_cons_zero, List.set_cons_succ]
      refine wpAnyH_take (i := 5) (v := undef) (at_op rfl) (by kernel_rfl) (by kernel_rfl) (by kernel_rfl) (fun _ _ _ h => h) (Or.inr ⟨by rfl, rfl⟩) (by assumption) ?_
      try simp only [Act.put, List.setIfInBounds_toArray, List.set_cons_zero, List.set_cons_succ]
      refine wpAnyH_take (i := 6) (v := undef) (at_op rfl) (by kernel_rfl) (by kernel_rfl) (by kernel_rfl) (fun _ _ _ h => h) (Or.inr ⟨by rfl, rfl⟩) (by assumption) ?_
      try simp only [Act.put, List.setIfInBounds_toArray, List.set_cons_zero, List.set_cons_succ]
      refine wpAnyH_take (i := 7) (v := undef) (at_op rfl) (by kernel_rfl) (by kernel_rfl) (by kernel_rfl) (fun _ _ _ h => h) (Or.inr ⟨by rfl, rfl⟩) (by assumption) ?_
      try simp only [Act.put, List.setIfInBounds_toArray, List.set_cons_zero, List.set_cons_succ]
      refine wpAnyH_take (i := 8) (v := undef) (at_op rfl) (by kernel_rfl) (by kernel_rfl) (by kernel_rfl) (fun _ _ _ h => h) (Or.inr ⟨by rfl, rfl⟩) (by assumption) ?_
      try simp only [Act.put, List.setIfInBounds_toArray, List.set_cons_zero, List.set_cons_succ]
      refine wpAnyH_take (i := 9) (v := undef) (at_op rfl) (by kernel_rfl) (by kernel_rfl) (by kernel_rfl) (fun _ _ _ h => h) (Or.inr ⟨by rfl, rfl⟩) (by assumption) ?_
      try simp only [Act.put, List.setIfInBounds_toArray, List.set_cons_zero, List.set_cons_succ]
      refine wpAnyH_take (i := 10) (v := undef) (at_op rfl) (by kernel_rfl) (by kernel_rfl) (by kernel_rfl) (fun _ _ _ h => h) (Or.inr ⟨by rfl, rfl⟩) (by assumption) ?_
      try simp only [Act.put, List.setIfInBounds_toArray, List.set_cons_zero, List.set_cons_succ]
      refine wpAnyH_take (i := 11) (v := undef) (at_op rfl) (by kernel_rfl) (by kernel_rfl) (by kernel_rfl) (fun _ _ _ h => h) (Or.inr ⟨by rfl, rfl⟩) (by assumption) ?_
      try simp only [Act.put, List.setIfInBounds_toArray, List.set_cons_zero, List.set_cons_succ]
      refine wpAnyH_take (i := 12) (v := undef) (at_op rfl) (by kernel_rfl) (by kernel_rfl) (by kernel_rfl) (fun _ _ _ h => h) (Or.inr ⟨by rfl, rfl⟩) (by assumption) ?_
      try simp only [Act.put, List.setIfInBounds_toArray, List.set_cons_zero, List.set_cons_succ]
      refine wpAnyH_take (i := 13) (v := undef) (at_op rfl) (by kernel_rfl) (by kernel_rfl) (by kernel_rfl) (fun _ _ _ h => h) (Or.inr ⟨by rfl, rfl⟩) (by assumption) ?_
      try simp only [Act.put, List.setIfInBounds_toArray, List.set_cons_zero, List.set_cons_succ]
      refine wpAnyH_take (i := 14) (v := undef) (at_op rfl) (by kernel_rfl) (by kernel_rfl) (by kernel_rfl) (fun _ _ _ h => h) (Or.inr ⟨by rfl, rfl⟩) (by assumption) ?_
      try simp only [Act.put, List.setIfInBounds_toArray, List.set_cons_zero, List.set_cons_succ]
      refine wpAnyH_take (i := 15) (v := ?v20) (at_op rfl) (by kernel_rfl) (by kernel_rfl) (by kernel_rfl) (fun _ _ _ h => h) (Or.inl ⟨by rfl, ?y20⟩) (by assumption) ?r20
      case y20 =>
        intro wx hSx
        subst hSx
        go_simp
        try with_reducible rfl
      try simp only [Act.put, List.setIfInBounds_toArray, List.set_cons_zero, List.set_cons_succ]
      refine wpAnyH_done (by kernel_rfl) ?_ _
      go_wp2
      go_ret
      exact ⟨_, rfl, ⟨qs, hQ.drew, HF.out⟩, hb.drew⟩
    · have hk1 : 1 ≤ k := by omega
      have hkg : (k : Int) > 0 := by omega
      have hki : (k : Int) < (ps.length : Int) + 1 := by omega
      have hkz : (0 : Int) ≤ (k : Int) := by omega
      have hul := up_lt (show 0 < k by omega)
      obtain ⟨m, hm⟩ : ∃ m, Hid (m = upN k) := ⟨_, rfl⟩
      have hmk' : m < k := by have := hm.out; omega
      have hkq : k < qs.length := by omega
      have hmk : m < qs.length := by omega
      obtain ⟨G1, e1, -, -, -, c0, c1, hru⟩ := hQ.at hkq
      obtain ⟨G2, e2, -, -, -, d0, d1, hru'⟩ := hQ.at hmk
      injection e1 with e1
      injection e1 with e1 _ _
      subst e1
      injection e2 with e2
      injection e2 with e2 _ _
      subst e2
      have HUI : Hid (((k : Int) + 1).tdiv 2 = (m : Int) + 1) := by have := up_int hk1; rw [← hm.out] at this; show _ = _; omega
      have HSK := Lib.hid (stA_map (ps := qs) hkq)
      have HSM := Lib.hid (stA_map (ps := qs) hmk)
      have HST : Hid (lessL qs[k].1 qs[m].1 = false → qs.map (·.1) = goal) := fun h => push_stop HS.out (fun c => by rw [← hm.out, HSK.out, HSM.out, h] at c; exact absurd c.2 (by decide))
      have HGO : Hid (lessL qs[k].1 qs[m].1 = true → PushSt goal (swapS (qs.map (·.1)) k m) m) := fun h => by have e := push_go HS.out (show 0 < k by omega) (by rw [← hm.out, HSK.out, HSM.out]; exact h); rwa [← hm.out] at e
      have HSW := Lib.hid (swap_map (ps := qs) hkq hmk)
      have HLS := Lib.hid (less_spec (w := wr.drew) qs[k].1 qs[m].1 hru (Nat.le_refl _) hru' (Nat.le_refl _))
      clear hul HSK HSM
      have hmi : (m : Int) < (ps.length : Int) + 1 := by omega
      have hmz : (0 : Int) ≤ (m : Int) := by omega
      have HXK : Hid (∀ w, SOwn M lo w.heap.size w (.slice (some ⟨G, 0, none⟩) (ps.length + 1) c) qs → SOwn M lo w.heap.size (storeAll G (stF.enc qs[k]) (m * 2) (storeAll G (stF.enc qs[m]) (k * 2) w)) (.slice (some ⟨G, 0, none⟩) (ps.length + 1) c) ((qs.set k qs[m]).set m qs[k])) := fun w h => h.swap hql.symm hkq hmk
      clear hru hru'
      have HQL := Lib.hid hql
      have HHM := Lib.hid hmk'
      generalize qs[k] = xk at *
      generalize qs[m] = xm at *
      have e2 : IntKind.i64.wrap ((k : Int) + 1) = (k : Int) + 1 := IntWalk.i64_in _ (by omega)
      have e3 : IntKind.i64.wrap (((k : Int) + 1).tdiv 2) = (m : Int) + 1 := by rw [HUI.out]; exact IntWalk.i64_in _ (by omega)
      have e4 : ((k : Int) + 1).tdiv 2 = (m : Int) + 1 := HUI.out
      have e5 : IntKind.i64.wrap (m : Int) = (m : Int) := IntWalk.i64_in _ (by omega)
      have e6 : IntKind.i64.wrap ((m : Int) + 1) = (m : Int) + 1 := IntWalk.i64_in _ (by omega)
      have hkd1 : decide ((k : Int) > 0) = true := decide_eq_true hkg
      have hkd2 : decide (0 < (k : Int)) = true := decide_eq_true hkg
      have hkn : 0 < k := by omega
      have hkd3 : decide (0 < k) = true := decide_eq_true hkn
      clear h0 hql hmk' hmk hkq hk1
      obtain ⟨x1, xa, xn, xc⟩ := xk
      obtain ⟨y1, ya, yn, yc⟩ := xm
      replace c0 : wr.cell? ⟨G, k * 2, none⟩ = some (.slice xa xn xc) := c0
      replace c1 : wr.cell? ⟨G, k * 2 + 1, none⟩ = some (.int .i64 x1.sum) := c1
      replace d0 : wr.cell? ⟨G, m * 2, none⟩ = some (.slice ya yn yc) := d0
      replace d1 : wr.cell? ⟨G, m * 2 + 1, none⟩ = some (.int .i64 y1.sum) := d1
      replace HLS : Hid (Calls Try.prog 110 #[.agg #[.slice xa xn xc, .int .i64 x1.sum], .agg #[.slice ya yn yc, .int .i64 y1.sum]] wr.drew fun e w' => e = .returned (.bool (lessL x1 y1)) ∧ Below wr.drew.heap.size wr.drew w') := HLS
      replace HST : Hid (lessL x1 y1 = false → qs.map (·.1) = goal) := HST
      replace HGO : Hid (lessL x1 y1 = true → PushSt goal (swapS (qs.map (·.1)) k m) m) := HGO
      obtain ⟨bq, hbq⟩ : ∃ bq, Hid (lessL x1 y1 = bq) := ⟨_, rfl⟩
      rw [hbq.out] at HST HGO HLS
      go_wp2_with fail
      refine wp_region_held_drew (S := fun w' => w'.cell? ⟨G, k * 2, none⟩ = some (.slice xa xn xc) ∧ w'.cell? ⟨G, k * 2 + 1, none⟩ = some (.int .i64 x1.sum) ∧ w'.cell? ⟨G, m * 2, none⟩ = some (.slice ya yn yc) ∧ w'.cell? ⟨G, m * 2 + 1, none⟩ = some (.int .i64 y1.sum) ∧ Below wr.heap.size wr w') (by kernel_rfl) ?_ (fun hHeld => ?_)
      · exact ⟨c0, c1, d0, d1, (Below.refl _ _).drew⟩
      refine wpAnyH_take (i := 0) (v := ?v21) (at_op rfl) (by kernel_rfl) (by kernel_rfl) (by kernel_rfl) (fun _ _ _ h => h) (Or.inl ⟨by rfl, ?y21⟩) (by assumption) ?r21
      case y21 =>
        intro wx hSx
        go_simp
        try with_reducible rfl
      try simp only [Act.put, List.setIfInBounds_toArray, List.set_cons_zero, List.set_cons_succ]
      refine wpAnyH_take (i := 1) (v := ?v22) (at_op rfl) (by kernel_rfl) (by kernel_rfl) (by kernel_rfl) (fun _ _ _ h => h) (Or.inl ⟨by rfl, ?y22⟩) (by assumption) ?r22
      case y22 =>
        intro wx hSx
        go_simp
        try with_reducible rfl
      try simp only [Act.put, List.setIfInBounds_toArray, List.set_cons_zero, List.set_cons_succ]
      refine wpAnyH_take (i := 2) (v := ?v23) (at_op rfl) (by kernel_rfl) (by kernel_rfl) (by kernel_rfl) (fun _ _ _ h => h) (Or.inl ⟨by rfl, ?y23⟩) (by assumption) ?r23
      case y23 =>
        intro wx hSx
        go_simp
        try with_reducible rfl
      try simp only [Act.put, List.setIfInBounds_toArray, List.set_cons_zero, List.set_cons_succ]
      refine wpAnyH_take (i := 3) (v := ?v24) (at_op rfl) (by kernel_rfl) (by kernel_rfl) (by kernel_rfl) (fun _ _ _ h => h) (Or.inl ⟨by rfl, ?y24⟩) (by assumption) ?r24
      case y24 =>
        intro wx hSx
        go_simp
        try with_reducible rfl
      try simp only [Act.put, List.setIfInBounds_toArray, List.set_cons_zero, List.set_cons_succ]
      refine wpAnyH_take (i := 4) (v := ?v25) (at_op rfl) (by kernel_rfl) (by kernel_rfl) (by kernel_rfl) (fun _ _ _ h => h) (Or.inl ⟨by rfl, ?y25⟩) (by assumption) ?r25
      case y25 =>
        intro wx hSx
        go_simp
        try with_reducible rfl
      try simp only [Act.put, List.setIfInBounds_toArray, List.set_cons_zero, List.set_cons_succ]
      refine wpAnyH_take (i := 5) (v := ?v26) (at_op rfl) (by kernel_rfl) (by kernel_rfl) (by kernel_rfl) (fun _ _ _ h => h) (Or.inl ⟨by rfl, ?y26⟩) (by assumption) ?r26
      case y26 =>
        intro wx hSx
        go_simp
        try with_reducible rfl
      try simp only [Act.put, List.setIfInBounds_toArray, List.set_cons_zero, List.set_cons_succ]
      refine wpAnyH_take (i := 6) (v := ?v27) (at_op rfl) (by kernel_rfl) (by kernel_rfl) (by kernel_rfl) (fun _ _ _ h => h) (Or.inl ⟨by rfl, ?y27⟩) (by assumption) ?r27
      case y27 =>
        intro wx hSx
        go_simp
        try with_reducible rfl
      try simp only [Act.put, List.setIfInBounds_toArray, List.set_cons_zero, List.set_cons_succ]
      refine wpAnyH_take (i := 7) (v := ?v28) (at_op rfl) (by kernel_rfl) (by kernel_rfl) (by kernel_rfl) (fun _ _ _ h => h) (Or.inl ⟨by rfl, ?y28⟩) (by assumption) ?r28
      case y28 =>
        intro wx hSx
        go_simp
        try with_reducible rfl
      try simp only [Act.put, List.setIfInBounds_toArray, List.set_cons_zero, List.set_cons_succ]
      refine wpAnyH_take (i := 8) (v := ?v29) (at_op rfl) (by kernel_rfl) (by kernel_rfl) (by kernel_rfl) (fun _ _ _ h => h) (Or.inl ⟨by rfl, ?y29⟩) (by assumption) ?r29
      case y29 =>
        intro wx hSx
        go_simp
        try with_reducible rfl
      try simp only [Act.put, List.setIfInBounds_toArray, List.set_cons_zero, List.set_cons_succ]
      refine wpAnyH_take (i := 9) (v := ?v30) (at_op rfl) (by kernel_rfl) (by kernel_rfl) (by kernel_rfl) (fun _ _ _ h => h) (Or.inl ⟨by rfl, ?y30⟩) (by assumption) ?r30
      case y30 =>
        intro wx hSx
        go_simp
        try with_reducible rfl
      try simp only [Act.put, List.setIfInBounds_toArray, List.set_cons_zero, List.set_cons_succ]
      refine wpAnyH_take (i := 10) (v := ?v31) (at_op rfl) (by kernel_rfl) (by kernel_rfl) (by kernel_rfl) (fun _ _ _ h => h) (Or.inl ⟨by rfl, ?y31⟩) (by assumption) ?r31
      case y31 =>
        intro wx hSx
        go_simp
        try with_reducible rfl
      try simp only [Act.put, List.setIfInBounds_toArray, List.set_cons_zero, List.set_cons_succ]
      refine wpAnyH_take (i := 11) (v := ?v32) (at_op rfl) (by kernel_rfl) (by kernel_rfl) (by kernel_rfl) (fun _ _ _ h => h) (Or.inl ⟨by rfl, ?y32⟩) (by assumption) ?r32
      case y32 =>
        intro wx hSx
        go_simp
        try with_reducible rfl
      try simp only [Act.put, List.setIfInBounds_toArray, List.set_cons_zero, List.set_cons_succ]
      refine wpAnyH_take (i := 12) (v := ?v33) (at_op rfl) (by kernel_rfl) (by kernel_rfl) (by kernel_rfl) (fun _ _ _ h => h) (Or.inl ⟨by rfl, ?y33⟩) (by assumption) ?r33
      case y33 =>
        intro wx hSx
        go_simp
        try with_reducible rfl
      try simp only [Act.put, List.setIfInBounds_toArray, List.set_cons_zero, List.set_cons_succ]
      refine wpAnyH_take (i := 13) (v := ?v34) (at_op rfl) (by kernel_rfl) (by kernel_rfl) (by kernel_rfl) (fun _ _ _ h => h) (Or.inl ⟨by rfl, ?y34⟩) (by assumption) ?r34
      case y34 =>
        intro wx hSx
        go_simp
        try with_reducible rfl
      try simp only [Act.put, List.setIfInBounds_toArray, List.set_cons_zero, List.set_cons_succ]
      refine wpAnyH_ready (rs := [14]) (by kernel_rfl) (by simp) ?_
      refine AllReadyH.cons (at_op rfl) (fun K hK => ?_) AllReadyH.nil
      go_simp
      refine HLS.out.mono ?_
      rintro e w5 ⟨rfl, hb5⟩
      go_wp2_with fail
      refine hK.out _ _ (keep4 hHeld hb5) (fun _ => ?_)
      clear hK K
      try simp only [Act.put, List.setIfInBounds_toArray, List.set_cons_zero, List.set_cons_succ]
      refine wpAnyH_take (i := 15) (v := ?v35) (at_op rfl) (by kernel_rfl) (by kernel_rfl) (by kernel_rfl) (fun _ _ _ h => h) (Or.inl ⟨by rfl, ?y35⟩) (by assumption) ?r35
      case y35 =>
        intro wx hSx
        go_simp
        try with_reducible rfl
      try simp only [Act.put, List.setIfInBounds_toArray, List.set_cons_zero, List.set_cons_succ]
      refine wpAnyH_done (by kernel_rfl) ?_ _
      have hs5 := hb5.size
      have hQ5 := (hQ.drew.below hb5 (Nat.le_refl _)).up
      have hB5 : Below lo w w5 := hb.drew.trans (hb5.mono (by show lo ≤ wr.heap.size; omega))
      have hsw5 : w1.heap.size ≤ w5.heap.size := Nat.le_trans hsw hs5
      cases bq with
      | false =>
        have HF := Lib.hid (HST.out rfl)
        go_wp2
        go_ret
        exact ⟨_, rfl, ⟨qs, hQ5, HF.out⟩, hB5⟩
      | true =>
        have HGT := Lib.hid (HGO.out rfl)
        have hGw : G < wr.heap.size := by omega
        have q0 : w5.cell? ⟨G, k * 2, none⟩ = some (.slice xa xn xc) := (hb5.cell (p := ⟨G, _, none⟩) hGw).trans c0
        have q1 : w5.cell? ⟨G, k * 2 + 1, none⟩ = some (.int .i64 x1.sum) := (hb5.cell (p := ⟨G, _, none⟩) hGw).trans c1
        have q2 : w5.cell? ⟨G, m * 2, none⟩ = some (.slice ya yn yc) := (hb5.cell (p := ⟨G, _, none⟩) hGw).trans d0
        have q3 : w5.cell? ⟨G, m * 2 + 1, none⟩ = some (.int .i64 y1.sum) := (hb5.cell (p := ⟨G, _, none⟩) hGw).trans d1
        clear c0 c1 d0 d1
        clear e2 e3 e5
        have hGw5 : G < w5.heap.size := by omega
        have hba : Below w5.heap.size w5 (w5.alloc (.cells #[.slice xa xn xc, .int .i64 x1.sum] 96)) := (Below.refl _ _).alloc (Nat.le_refl _) _
        have hQd : SOwn M lo (w5.alloc (.cells #[.slice xa xn xc, .int .i64 x1.sum] 96)).heap.size (w5.alloc (.cells #[.slice xa xn xc, .int .i64 x1.sum] 96)) (.slice (some ⟨G, 0, none⟩) (ps.length + 1) c) qs := (hQ5.alloc _).up
        have HSd := Lib.hid ((HXK.out w5 hQ5).alloc (.cells #[.slice xa xn xc, .int .i64 x1.sum] 96)).up
        have z0 : (w5.alloc (.cells #[.slice xa xn xc, .int .i64 x1.sum] 96)).cell? ⟨G, k * 2, none⟩ = some (.slice xa xn xc) := (hba.cell (p := ⟨G, _, none⟩) hGw5).trans q0
        have z1 : (w5.alloc (.cells #[.slice xa xn xc, .int .i64 x1.sum] 96)).cell? ⟨G, k * 2 + 1, none⟩ = some (.int .i64 x1.sum) := (hba.cell (p := ⟨G, _, none⟩) hGw5).trans q1
        have z2 : (w5.alloc (.cells #[.slice xa xn xc, .int .i64 x1.sum] 96)).cell? ⟨G, m * 2, none⟩ = some (.slice ya yn yc) := (hba.cell (p := ⟨G, _, none⟩) hGw5).trans q2
        have z3 : (w5.alloc (.cells #[.slice xa xn xc, .int .i64 x1.sum] 96)).cell? ⟨G, m * 2 + 1, none⟩ = some (.int .i64 y1.sum) := (hba.cell (p := ⟨G, _, none⟩) hGw5).trans q3
        have f0 := hQd.frz HQL.out.symm (k * 2)
        have f1 := hQd.frz HQL.out.symm (k * 2 + 1)
        have f2 := hQd.frz HQL.out.symm (m * 2)
        have f3 := hQd.frz HQL.out.symm (m * 2 + 1)
        have hhp := heap_alloc_new w5 (.cells #[.slice xa xn xc, .int .i64 x1.sum] 96)
        have s0 : (w5.alloc (.cells #[.slice xa xn xc, .int .i64 x1.sum] 96)).cell? ⟨w5.heap.size, 0, none⟩ = some (.slice xa xn xc) := cell_heap0 hhp rfl
        have s1 : (w5.alloc (.cells #[.slice xa xn xc, .int .i64 x1.sum] 96)).cell? ⟨w5.heap.size, 1, none⟩ = some (.int .i64 x1.sum) := cell_heap0 hhp rfl
        have hsc : (storeAll G (stF.enc (x1, (xa, xn, xc))) (m * 2) (storeAll G (stF.enc (y1, (ya, yn, yc))) (k * 2) w5)).heap.size = w5.heap.size := by rw [size_storeAll, size_storeAll]
        have HBF : Hid (Below lo w ((storeAll G (stF.enc (x1, (xa, xn, xc))) (m * 2) (storeAll G (stF.enc (y1, (ya, yn, yc))) (k * 2) w5)).alloc (.cells #[.slice xa xn xc, .int .i64 x1.sum] 96))) := (blw_storeAll (blw_storeAll hB5 gl _ _) gl _ _).alloc (by rw [hsc]; omega) _
        have HSZ : Hid (w1.heap.size ≤ ((storeAll G (stF.enc (x1, (xa, xn, xc))) (m * 2) (storeAll G (stF.enc (y1, (ya, yn, yc))) (k * 2) w5)).alloc (.cells #[.slice xa xn xc, .int .i64 x1.sum] 96)).heap.size) := by show _ ≤ _; rw [World.alloc]; simp [hsc]; omega
        clear hsc
        have g0 : w5.frozen? ⟨G, k * 2, none⟩ = false := hQ5.frz HQL.out.symm (k * 2)
        have g1 : w5.frozen? ⟨G, k * 2 + 1, none⟩ = false := hQ5.frz HQL.out.symm (k * 2 + 1)
        have g2 : w5.frozen? ⟨G, m * 2, none⟩ = false := hQ5.frz HQL.out.symm (m * 2)
        have g3 : w5.frozen? ⟨G, m * 2 + 1, none⟩ = false := hQ5.frz HQL.out.symm (m * 2 + 1)
        have y2 : (((w5.alloc (.cells #[.slice xa xn xc, .int .i64 x1.sum] 96)).setCell ⟨G, k * 2, none⟩ (.slice ya yn yc)).setCell ⟨G, k * 2 + 1, none⟩ (.int .i64 y1.sum)).cell? ⟨G, m * 2, none⟩ = some (.slice ya yn yc) :=
          (World.cell?_setCell_other _ _ _ _ (fun c => by have := HHM.out; injection c with _ c _; omega)).trans ((World.cell?_setCell_other _ _ _ _ (fun c => by have := HHM.out; injection c with _ c _; omega)).trans z2)
        have y3 : (((w5.alloc (.cells #[.slice xa xn xc, .int .i64 x1.sum] 96)).setCell ⟨G, k * 2, none⟩ (.slice ya yn yc)).setCell ⟨G, k * 2 + 1, none⟩ (.int .i64 y1.sum)).cell? ⟨G, m * 2 + 1, none⟩ = some (.int .i64 y1.sum) :=
          (World.cell?_setCell_other _ _ _ _ (fun c => by have := HHM.out; injection c with _ c _; omega)).trans ((World.cell?_setCell_other _ _ _ _ (fun c => by have := HHM.out; injection c with _ c _; omega)).trans z3)
        have t0 : (((w5.alloc (.cells #[.slice xa xn xc, .int .i64 x1.sum] 96)).setCell ⟨G, k * 2, none⟩ (.slice ya yn yc)).setCell ⟨G, k * 2 + 1, none⟩ (.int .i64 y1.sum)).cell? ⟨w5.heap.size, 0, none⟩ = some (.slice xa xn xc) :=
          (World.cell?_setCell_other _ _ _ _ (fun c => by injection c with c _ _; omega)).trans ((World.cell?_setCell_other _ _ _ _ (fun c => by injection c with c _ _; omega)).trans s0)
        have t1 : (((w5.alloc (.cells #[.slice xa xn xc, .int .i64 x1.sum] 96)).setCell ⟨G, k * 2, none⟩ (.slice ya yn yc)).setCell ⟨G, k * 2 + 1, none⟩ (.int .i64 y1.sum)).cell? ⟨w5.heap.size, 1, none⟩ = some (.int .i64 x1.sum) :=
          (World.cell?_setCell_other _ _ _ _ (fun c => by injection c with c _ _; omega)).trans ((World.cell?_setCell_other _ _ _ _ (fun c => by injection c with c _ _; omega)).trans s1)
        have nG : ¬ w5.heap.size = G := by omega
        have nH : ¬ G = w5.heap.size := by omega
        have hmk2 := HHM.out
        have n1 : ¬ m * 2 = k * 2 := by omega
        have n2 : ¬ m * 2 = k * 2 + 1 := by omega
        have n3 : ¬ m * 2 + 1 = k * 2 := by omega
        have n4 : ¬ k * 2 = m * 2 := by omega
        have n5 : ¬ k * 2 + 1 = m * 2 := by omega
        have n6 : ¬ k * 2 = m * 2 + 1 := by omega
        have n7 : ¬ m = k := by omega
        have n8 : ¬ k = m := by omega
        clear hmk2 hhp hQ5 hB5 hsw5 hQd hQ HS HXK hb5 hs5 HLS HST HGO
        go_wp2
        go_roundw
        case rel => exact ⟨m, (qs.set k (y1, (ya, yn, yc))).set m (x1, (xa, xn, xc)), (by rw [List.length_set, List.length_set]; exact HQL.out), by have := HHM.out; omega, rfl, HSd.out, (by rw [HSW.out]; exact HGT.out), HBF.out, HSZ.out⟩
        case measure => have := HHM.out; simp [intOf]; omega
end Go.Proofs.Ytllpgomloblfjaa
