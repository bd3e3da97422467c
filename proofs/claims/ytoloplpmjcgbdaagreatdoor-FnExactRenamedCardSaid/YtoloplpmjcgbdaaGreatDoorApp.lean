/- append, make: the laws at the operation, said of lists. -/
import Derived.Test.YtoloplpmjcgbdaaGreatDoorBase
import Derived.Laws.AppendOwnNone
import Derived.ArgAppend
namespace Go.Proofs.YtoloplpmjcgbdaaGreatDoor
open Go.RowKit

theorem Own.alloc {α : Type} {F : Flat α} {T lo hi : Nat} {w : World} {v : Value} {xs : List α} (h : Own F T lo hi w v xs) (o : Obj) : Own F T lo hi (w.alloc o) v xs := ⟨h.1.alloc o, h.2⟩
theorem Own.drew {α : Type} {F : Flat α} {T lo hi : Nat} {w : World} {v : Value} {xs : List α} (h : Own F T lo hi w v xs) : Own F T lo hi w.drew v xs := h
theorem Own.drewN {α : Type} {F : Flat α} {T lo hi : Nat} {w : World} {v : Value} {xs : List α} (h : Own F T lo hi w v xs) (n : Nat) : Own F T lo hi (w.drewN n) v xs := h
theorem Own.far {α : Type} {F : Flat α} {T lo hi : Nat} {w : World} {v : Value} {xs : List α} (h : Own F T lo hi w v xs) {p : Addr} (hp : hi ≤ p.block ∨ p.block < lo) (u : Value) : Own F T lo hi (w.setCell p u) v xs :=
  h.same fun b h1 h2 => Below.heap_setCell _ _ _ _ (by omega)
/-- 'Own', up to the present end of the heap -/
theorem Own.up {α : Type} {F : Flat α} {T lo hi : Nat} {w : World} {v : Value} {xs : List α} (h : Own F T lo hi w v xs) : Own F T lo w.heap.size w v xs :=
  ⟨h.1, fun g hg => (h.1.lt g hg).2⟩
/-- an empty slice that is not nil: 'T{}' of no element -/
theorem Own.empty {α : Type} (F : Flat α) (T lo : Nat) (w : World) (h : lo ≤ w.heap.size) : Own F T lo (w.alloc (.cells #[] T)).heap.size (w.alloc (.cells #[] T)) (.slice (some ⟨w.heap.size, 0, none⟩) 0 0) [] :=
  Own.of_row (World.ownsRow_made w #[] 0 h (Nat.zero_le _) (by simp)) rfl rfl (Nat.le_refl _)
theorem empty2 {α : Type} (F : Flat α) (T : TypeId) {lo : Nat} {w : World} {A : Obj} (h : lo ≤ w.heap.size + 1) : Own F T lo ((w.alloc A).alloc (.cells #[] T)).heap.size ((w.alloc A).alloc (.cells #[] T)) (.slice (some ⟨w.heap.size + 1, 0, none⟩) 0 0) [] := by
  have h1 := Own.empty F T lo (w.alloc A) (by simpa using h)
  rwa [show (w.alloc A).heap.size = w.heap.size + 1 by simp] at h1
theorem heap_alloc3_new (w : World) (A B C : Obj) : (((w.alloc A).alloc B).alloc C).heap[w.heap.size + 2]? = some C := by
  have h := heap_alloc_new ((w.alloc A).alloc B) C
  rwa [show ((w.alloc A).alloc B).heap.size = w.heap.size + 2 by simp] at h

theorem grown_below {B : Nat} {w w' : World} {v : Value} (hg : w.grownBy w' v.ownBlock) (hv : ∀ g, v.ownBlock = some g → B ≤ g) (hB : B ≤ w.heap.size) : Below B w w' := (Below.refl B w).grown hg hB (fun k hk => hv k hk)

theorem map_take_succ {α β : Type} (f : α → β) {xs : List α} {k : Nat} (h : k < xs.length) : (xs.take (k + 1)).map f = (xs.take k).map f ++ [f xs[k]] := by
  rw [List.take_succ_eq_append_getElem h, List.map_append]; rfl
theorem blw_al1 {B : Nat} {w w' : World} {o : Obj} (h : Below B (w.alloc o) w') (hB : B ≤ w.heap.size) : Below B w w' := ((Below.refl B w).alloc hB o).trans h
theorem blw_al2 {B : Nat} {w w' : World} {o o' : Obj} (h : Below B ((w.alloc o).alloc o') w') (hB : B ≤ w.heap.size) : Below B w w' := (((Below.refl B w).alloc hB o).alloc (by simp; omega) o').trans h
theorem blw_al3 {B : Nat} {w w' : World} {o o' o2 : Obj} (h : Below B (((w.alloc o).alloc o').alloc o2) w') (hB : B ≤ w.heap.size) : Below B w w' := ((((Below.refl B w).alloc hB o).alloc (by simp; omega) o').alloc (by simp; omega) o2).trans h
/-- a list in the making: owned from block C on; or still the empty slice that it began as (laid at B or above, below C) -/
def OutE {α : Type} (F : Flat α) (T B C : Nat) (w : World) (v : Value) (xs : List α) : Prop :=
  Own F T C w.heap.size w v xs ∨ (xs = [] ∧ (∃ ad, v = .slice (some ad) 0 0) ∧ Own F T B C w v xs)
theorem OutE.keep {α : Type} {F : Flat α} {T B C : Nat} {w w' : World} {v : Value} {xs : List α} (h : OutE F T B C w v xs) (hb : Below w.heap.size w w') (hC : C ≤ w.heap.size) : OutE F T B C w' v xs := by
  rcases h with h | ⟨h1, h2, h3⟩
  · exact .inl ((h.below hb (Nat.le_refl _)).wide (Nat.le_refl _) hb.size)
  · exact .inr ⟨h1, h2, h3.below hb hC⟩
theorem OutE.own {α : Type} {F : Flat α} {T B C : Nat} {w : World} {v : Value} {xs : List α} (h : OutE F T B C w v xs) (hBC : B ≤ C) (hC : C ≤ w.heap.size) : Own F T B w.heap.size w v xs := by
  rcases h with h | ⟨_, _, h3⟩
  · exact h.wide hBC (Nat.le_refl _)
  · exact h3.wide (Nat.le_refl _) hC
section
variable {P : Program} {α : Type} {F : Flat α} {w : World} {ops : Array Oper} {rest : List Oper} {o : Oper} {a : Act} {Q : Exit → Act → World → Prop} {T : TypeId} {B hi : Nat} {xs : List α} {v : Value}
/-- 'out = append(out, x)': out is the call's own; x lies in a new block of its own. -/
theorem wp_app1g (hgd : o.guard = none) (s x : Operand) (t : TypeId) (ho : o.op = .call { callee := .builtin .append, args := #[s, x], argTypes := #[t, t] })
    {i : TypeInfo} {z : Value} {bytes : Nat} (ht : P.underlying t = some (.slice T)) (hi0 : P.info? T = some i) (hz : i.zero = some z) (hsize : i.size = F.size) (hby : i.bytes = bytes) (hzs : z.cells.size = F.size) (hsz : 0 < F.size)
    (hs : a.eval s = v) (hO : Own F T B hi w v xs) (b : Nat) (y : α) {arr : Array Value} {tt : TypeId} {fr : Nat × Nat} (hx : a.eval x = .slice (some ⟨b, 0, none⟩) 1 1) (hb : w.heap[b]? = some (.cells arr tt fr)) (harr : arr.toList = F.enc y)
    (hbytes : (xs.length + 1) * bytes ≤ 140737488355328) (h63 : xs.length + 1 ≤ 1000000000000) (hbase : B ≤ w.heap.size)
    (h : ∀ v' w', Own F T B w'.heap.size w' v' (xs ++ [y]) → Below B w w' → w.grownBy w' v.ownBlock → wpList P ops Q rest (a.put o.dst v') w') : wpList P ops Q (o :: rest) a w := by
  refine wpList_append_own w hgd s x t ho B T i z F.size bytes ht hi0 hz hsize hby hzs hsz v xs.length (F.cells xs) hs hO.1 ⟨b, 0, none⟩ 1 1 (F.enc y) hx (by rw [F.len, Nat.one_mul]) ?_ (F.one y) ?_ hbytes hbase ?_
  · intro j u hu
    rw [Addr.add_lit, Nat.zero_add, cell_of_row w b j arr tt fr hb, ← Array.getElem?_toList, harr]
    exact hu
  · unfold maxLen; omega
  · intro v' w' h1 h2 _
    refine h v' w' (Own.of_row h1 (by simp) Flat.cells_snoc.symm (Nat.le_refl _)) (grown_below h2 (fun g hg => (hO.1.lt g hg).1) hbase) h2
/-- 'out = append(out, x)': out is the call's own; x lies in a new block of its own. -/
theorem wp_app1 (hgd : o.guard = none) (s x : Operand) (t : TypeId) (ho : o.op = .call { callee := .builtin .append, args := #[s, x], argTypes := #[t, t] })
    {i : TypeInfo} {z : Value} {bytes : Nat} (ht : P.underlying t = some (.slice T)) (hi0 : P.info? T = some i) (hz : i.zero = some z) (hsize : i.size = F.size) (hby : i.bytes = bytes) (hzs : z.cells.size = F.size) (hsz : 0 < F.size)
    (hs : a.eval s = v) (hO : Own F T B hi w v xs) (b : Nat) (y : α) {arr : Array Value} {tt : TypeId} {fr : Nat × Nat} (hx : a.eval x = .slice (some ⟨b, 0, none⟩) 1 1) (hb : w.heap[b]? = some (.cells arr tt fr)) (harr : arr.toList = F.enc y)
    (hbytes : (xs.length + 1) * bytes ≤ 140737488355328) (h63 : xs.length + 1 ≤ 1000000000000) (hbase : B ≤ w.heap.size)
    (h : ∀ v' w', Own F T B w'.heap.size w' v' (xs ++ [y]) → Below B w w' → wpList P ops Q rest (a.put o.dst v') w') : wpList P ops Q (o :: rest) a w :=
  wp_app1g hgd s x t ho ht hi0 hz hsize hby hzs hsz hs hO b y hx hb harr hbytes h63 hbase fun v' w' h1 h2 _ => h v' w' h1 h2
/-- the same, where out may still be the empty slice that it began as -/
theorem wp_app1e {C : Nat} (hgd : o.guard = none) (s x : Operand) (t : TypeId) (ho : o.op = .call { callee := .builtin .append, args := #[s, x], argTypes := #[t, t] })
    {i : TypeInfo} {z : Value} {bytes : Nat} (ht : P.underlying t = some (.slice T)) (hi0 : P.info? T = some i) (hz : i.zero = some z) (hsize : i.size = F.size) (hby : i.bytes = bytes) (hzs : z.cells.size = F.size) (hsz : 0 < F.size)
    (hs : a.eval s = v) (hO : OutE F T B C w v xs) (b : Nat) (y : α) {arr : Array Value} {tt : TypeId} {fr : Nat × Nat} (hx : a.eval x = .slice (some ⟨b, 0, none⟩) 1 1) (hb : w.heap[b]? = some (.cells arr tt fr)) (harr : arr.toList = F.enc y)
    (hbytes : (xs.length + 1) * bytes ≤ 140737488355328) (h63 : xs.length + 1 ≤ 1000000000000) (hbase : C ≤ w.heap.size)
    (h : ∀ v' w', OutE F T B C w' v' (xs ++ [y]) → Below C w w' → wpList P ops Q rest (a.put o.dst v') w') : wpList P ops Q (o :: rest) a w := by
  rcases hO with hO | ⟨rfl, ⟨ad, rfl⟩, _⟩
  · exact wp_app1 hgd s x t ho ht hi0 hz hsize hby hzs hsz hs hO b y hx hb harr hbytes h63 hbase fun v' w' h1 h2 => h v' w' (.inl h1) h2
  · refine wpList_append_grows w hgd s x t ho T i z F.size bytes ht hi0 hz hsize hby hzs hsz (some ad) 0 0 [] hs (fun e => by cases e) (by simp) (fun b' _ j u hu => by simp at hu) ⟨b, 0, none⟩ 1 1 (F.enc y) hx (by rw [F.len, Nat.one_mul]) ?_ (F.one y) (by omega) (by unfold maxLen; omega) (by simpa using hbytes) ?_
    · intro j u hu
      rw [Addr.add_lit, Nat.zero_add, cell_of_row w b j arr tt fr hb, ← Array.getElem?_toList, harr]
      exact hu
    · intro v' w' h1 h2
      have h3 : Own F T w.heap.size w'.heap.size w' v' ([] ++ [y]) := Own.of_row h1 (by simp) (by simp [Flat.cells]) (Nat.le_refl _)
      exact h v' w' (.inl (h3.wide hbase (Nat.le_refl _))) ((Below.refl C w).grown h2 hbase (fun k hk => by cases hk))
/-- 'out = append(out, ys...)': out is the call's own. -/
theorem wp_appAll (hgd : o.guard = none) (s x : Operand) (t : TypeId) (ho : o.op = .call { callee := .builtin .append, args := #[s, x], argTypes := #[t, t] })
    {i : TypeInfo} {z : Value} {bytes : Nat} (ht : P.underlying t = some (.slice T)) (hi0 : P.info? T = some i) (hz : i.zero = some z) (hsize : i.size = F.size) (hby : i.bytes = bytes) (hzs : z.cells.size = F.size) (hsz : 0 < F.size)
    (hs : a.eval s = v) (hO : Own F T B hi w v xs) {u : Value} {ys : List α} {lo' hi' : Nat} (hx : a.eval x = u) (hr : Rd F.shape lo' hi' w u ys)
    (hbytes : (xs.length + ys.length) * bytes ≤ 140737488355328) (h63 : xs.length + ys.length ≤ 1000000000000) (hbase : B ≤ w.heap.size)
    (h : ∀ v' w', Own F T B w'.heap.size w' v' (xs ++ ys) → Below B w w' → wpList P ops Q rest (a.put o.dst v') w') : wpList P ops Q (o :: rest) a w := by
  obtain ⟨ao, c, rfl, h2, h3, h4, h5⟩ := hr
  cases ao with
  | none =>
    have hc := h4 rfl
    have hy : ys = [] := List.eq_nil_of_length_eq_zero (by omega)
    subst hy
    subst hc
    refine wpList_append_own_none (w := w) hgd s x t ho B T i F.size ht hi0 v xs.length (F.cells xs) hs hO.1 hx ?_
    have hv := h v w (by rw [List.append_nil]; exact hO.up) (Below.refl _ _)
    exact hv
  | some ad =>
    refine wpList_append_own w hgd s x t ho B T i z F.size bytes ht hi0 hz hsize hby hzs hsz v xs.length (F.cells xs) hs hO.1 ad ys.length c (F.cells ys) hx Flat.cells_len ?_ Flat.cells_oneCell ?_ hbytes hbase ?_
    · intro j q hq
      have hj : j < ys.length * F.size := by
        have := (List.getElem?_eq_some_iff.1 hq).1
        rwa [Flat.cells_len] at this
      have hk : j / F.size < ys.length := Nat.div_lt_of_lt_mul (by rw [Nat.mul_comm]; exact hj)
      have hm : j % F.size < F.size := Nat.mod_lt _ hsz
      have e : j = j / F.size * F.size + j % F.size := by rw [Nat.mul_comm]; exact (Nat.div_add_mod j F.size).symm
      obtain ⟨b, off, cs, e1, _, _, rfl, e5⟩ := h5 _ hk
      obtain rfl := Option.some.inj e1
      have h6 := e5 (j % F.size) q (by
        rw [e, Flat.cells_at hk hm] at hq
        exact hq)
      rw [Addr.add_lit]
      have e2 : off + j / F.size * F.shape.size + j % F.size = off + j := by
        show off + j / F.size * F.size + j % F.size = off + j
        omega
      rwa [e2] at h6
    · unfold maxLen; omega
    · intro v' w' h1 h2 _
      refine h v' w' (Own.of_row h1 (by simp) Flat.cells_append.symm (Nat.le_refl _)) (grown_below h2 (fun g hg => (hO.1.lt g hg).1) hbase)
end
end Go.Proofs.YtoloplpmjcgbdaaGreatDoor
