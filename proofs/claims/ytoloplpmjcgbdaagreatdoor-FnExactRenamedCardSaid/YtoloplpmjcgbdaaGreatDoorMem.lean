/- Words for memory: a slice value that reads as a list; a slice that the call itself owns. -/
import Derived.WalkKit
import Derived.WalkSpells
import Derived.WalkLawsBesides
import Derived.Lib.Hide
namespace Go.Proofs.YtoloplpmjcgbdaaGreatDoor
open Go.RowKit

theorem ret_int {k : IntKind} {a b : Int} (h : a = b) : Ending.returned (.int k a) = .returned (.int k b) := by rw [h]
theorem ret_bool {a b : Bool} (h : a = b) : Ending.returned (.bool a) = .returned (.bool b) := by rw [h]
theorem ret_str {a b : ByteArray} (h : a = b) : Ending.returned (.string a) = .returned (.string b) := by rw [h]
theorem int_eq {k : IntKind} {a b : Int} (h : a = b) : Value.int k a = .int k b := by rw [h]
theorem bool_eq {a b : Bool} (h : a = b) : Value.bool a = .bool b := by rw [h]

/-- Blocks lo .. hi-1 are in w' as they are in w. -/
def Same (lo hi : Nat) (w w' : World) : Prop := ∀ b, lo ≤ b → b < hi → w'.heap[b]? = w.heap[b]?
theorem Same.refl (lo hi : Nat) (w : World) : Same lo hi w w := fun _ _ _ => rfl
theorem Same.trans {lo hi : Nat} {a b c : World} (h : Same lo hi a b) (k : Same lo hi b c) : Same lo hi a c := fun i h1 h2 => (k i h1 h2).trans (h i h1 h2)
theorem Same.narrow {lo hi lo' hi' : Nat} {a b : World} (h : Same lo hi a b) (h1 : lo ≤ lo') (h2 : hi' ≤ hi) : Same lo' hi' a b := fun i h3 h4 => h i (by omega) (by omega)
theorem Same.of_below {lo hi B : Nat} {w w' : World} (h : Below B w w') (hh : hi ≤ B) : Same lo hi w w' := fun i _ h2 => h.block i (by omega)

/-- Outside blocks lo .. hi-1 nothing that was there has turned. -/
structure Out (lo hi : Nat) (w w' : World) : Prop where
  os : w'.os = w.os
  tape : w'.tape = w.tape
  output : w'.output = w.output
  size : w.heap.size ≤ w'.heap.size
  block : ∀ k, k < w.heap.size → ¬ (lo ≤ k ∧ k < hi) → w'.heap[k]? = w.heap[k]?
theorem Out.refl (lo hi : Nat) (w : World) : Out lo hi w w := ⟨rfl, rfl, rfl, Nat.le_refl _, fun _ _ _ => rfl⟩
theorem Out.trans {lo hi : Nat} {a b c : World} (h : Out lo hi a b) (k : Out lo hi b c) : Out lo hi a c :=
  ⟨k.os.trans h.os, k.tape.trans h.tape, k.output.trans h.output, Nat.le_trans h.size k.size, fun i h1 h2 => (k.block i (Nat.lt_of_lt_of_le h1 h.size) h2).trans (h.block i h1 h2)⟩
theorem Out.of_below {lo hi : Nat} {w w' : World} (h : Below w.heap.size w w') : Out lo hi w w' := ⟨h.os, h.tape, h.output, h.size, fun k hk _ => h.block k hk⟩
theorem Out.same {lo hi lo' hi' : Nat} {w w' : World} (h : Out lo hi w w') (h1 : hi' ≤ w.heap.size) (h2 : hi' ≤ lo ∨ hi ≤ lo') : Same lo' hi' w w' := fun b h3 h4 => h.block b (by omega) (by omega)
theorem Out.below {lo hi B : Nat} {w w' : World} (h : Out lo hi w w') (h1 : B ≤ lo) (h2 : B ≤ w.heap.size) : Below B w w' := ⟨h.os, h.tape, h.output, h.size, fun k hk => h.block k (by omega) (by omega)⟩
theorem Out.setCell {lo hi : Nat} {a w : World} (h : Out lo hi a w) {p : Addr} (h1 : lo ≤ p.block) (h2 : p.block < hi) (u : Value) : Out lo hi a (w.setCell p u) :=
  h.trans ⟨rfl, rfl, rfl, by simp [World.setCell], fun k _ hn => Below.heap_setCell _ _ _ _ (by omega)⟩
theorem Out.drew {lo hi : Nat} {a w : World} (h : Out lo hi a w) : Out lo hi a w.drew := ⟨h.os, h.tape, h.output, h.size, h.block⟩
theorem Out.drewN {lo hi : Nat} {a w : World} (h : Out lo hi a w) (n : Nat) : Out lo hi a (w.drewN n) := ⟨h.os, h.tape, h.output, h.size, h.block⟩
theorem blw_drewN {B : Nat} {a w : World} (h : Below B a w) (n : Nat) : Below B a (w.drewN n) := ⟨h.os, h.tape, h.output, h.size, h.block⟩
theorem blw_out {B lo hi : Nat} {a w w' : World} (h : Below B a w) (k : Out lo hi w w') (h1 : B ≤ lo) (h2 : B ≤ w.heap.size) : Below B a w' := h.trans (k.below h1 h2)

/-- How a Lean value lies in cells: 'rel lo hi w x cs': the cells cs read as x, and all that they point to lies in blocks lo .. hi-1. -/
structure Shape (α : Type) where
  size : Nat
  rel : Nat → Nat → World → α → List Value → Prop
  len : ∀ {lo hi : Nat} {w : World} {x : α} {cs : List Value}, rel lo hi w x cs → cs.length = size
  same : ∀ {lo hi : Nat} {w w' : World} {x : α} {cs : List Value}, rel lo hi w x cs → Same lo hi w w' → rel lo hi w' x cs
  wide : ∀ {lo hi lo' hi' : Nat} {w : World} {x : α} {cs : List Value}, rel lo hi w x cs → lo' ≤ lo → hi ≤ hi' → rel lo' hi' w x cs

/-- Values without pointers: their cells are a function of them. -/
structure Flat (α : Type) where
  size : Nat
  enc : α → List Value
  len : ∀ x, (enc x).length = size
  one : ∀ x u, u ∈ enc x → u.oneCell' = true

def Flat.shape {α : Type} (F : Flat α) : Shape α :=
  { size := F.size, rel := fun _ _ _ x cs => cs = F.enc x, len := fun h => by rw [h]; exact F.len _, same := fun h _ => h, wide := fun h _ _ => h }

/-- The slice value v reads as xs; its cells, and all that they point to, lie in blocks lo .. hi-1. -/
def Rd {α : Type} (S : Shape α) (lo hi : Nat) (w : World) (v : Value) (xs : List α) : Prop :=
  ∃ a c, v = .slice a xs.length c ∧ xs.length ≤ c ∧ c ≤ maxLen ∧ (a = none → c = 0) ∧
    ∀ k (h : k < xs.length), ∃ b off cs, a = some ⟨b, off, none⟩ ∧ lo ≤ b ∧ b < hi ∧ S.rel lo hi w xs[k] cs ∧ ∀ j u, cs[j]? = some u → w.cell? ⟨b, off + k * S.size + j, none⟩ = some u

theorem Rd.same {α : Type} {S : Shape α} {lo hi : Nat} {w w' : World} {v : Value} {xs : List α} (h : Rd S lo hi w v xs) (hs : Same lo hi w w') : Rd S lo hi w' v xs := by
  obtain ⟨a, c, h1, h2, h3, h4, h5⟩ := h
  refine ⟨a, c, h1, h2, h3, h4, fun k hk => ?_⟩
  obtain ⟨b, off, cs, e1, e2, e3, e4, e5⟩ := h5 k hk
  exact ⟨b, off, cs, e1, e2, e3, S.same e4 hs, fun j u hu => (World.cell?_of_block (hs b e2 e3)).trans (e5 j u hu)⟩
theorem Rd.wide {α : Type} {S : Shape α} {lo hi lo' hi' : Nat} {w : World} {v : Value} {xs : List α} (h : Rd S lo hi w v xs) (h1 : lo' ≤ lo) (h2 : hi ≤ hi') : Rd S lo' hi' w v xs := by
  obtain ⟨a, c, g1, g2, g3, g4, g5⟩ := h
  refine ⟨a, c, g1, g2, g3, g4, fun k hk => ?_⟩
  obtain ⟨b, off, cs, e1, e2, e3, e4, e5⟩ := g5 k hk
  exact ⟨b, off, cs, e1, by omega, by omega, S.wide e4 h1 h2, e5⟩
theorem Rd.below {α : Type} {S : Shape α} {lo hi B : Nat} {w w' : World} {v : Value} {xs : List α} (h : Rd S lo hi w v xs) (hb : Below B w w') (hh : hi ≤ B) : Rd S lo hi w' v xs := h.same (.of_below hb hh)
theorem Rd.len_le {α : Type} {S : Shape α} {lo hi : Nat} {w : World} {v : Value} {xs : List α} (h : Rd S lo hi w v xs) : xs.length ≤ 9223372036854775807 := by
  obtain ⟨a, c, h1, h2, h3, h4, h5⟩ := h
  unfold maxLen at h3; omega
theorem Rd.nil {α : Type} (S : Shape α) (lo hi : Nat) (w : World) : Rd S lo hi w (.slice none 0 0) [] :=
  ⟨none, 0, rfl, Nat.le_refl _, Nat.zero_le _, fun _ => rfl, fun k h => absurd h (Nat.not_lt_zero k)⟩

/-- A slice as one cell. -/
def Shape.sl {α : Type} (S : Shape α) : Shape (List α) :=
  { size := 1, rel := fun lo hi w xs cs => ∃ v, cs = [v] ∧ Rd S lo hi w v xs,
    len := by rintro _ _ _ _ _ ⟨v, rfl, _⟩; rfl
    same := by rintro _ _ _ _ _ _ ⟨v, rfl, h⟩ hs; exact ⟨v, rfl, h.same hs⟩
    wide := by rintro _ _ _ _ _ _ _ ⟨v, rfl, h⟩ h1 h2; exact ⟨v, rfl, h.wide h1 h2⟩ }

def Flat.cells {α : Type} (F : Flat α) (xs : List α) : List Value := xs.flatMap F.enc
section
variable {α : Type} {F : Flat α} {xs : List α} {x : α} {k j : Nat}
theorem Flat.cells_len : (F.cells xs).length = xs.length * F.size := by
  unfold Flat.cells
  induction xs with
  | nil => simp
  | cons y ys ih => simp [List.flatMap_cons, F.len, ih, Nat.succ_mul]; omega
theorem Flat.cells_snoc : F.cells (xs ++ [x]) = F.cells xs ++ F.enc x := by simp [Flat.cells]
theorem Flat.cells_append {ys : List α} : F.cells (xs ++ ys) = F.cells xs ++ F.cells ys := by simp [Flat.cells]
theorem Flat.cells_one : F.cells [x] = F.enc x := by simp [Flat.cells]
theorem Flat.cells_oneCell : ∀ u ∈ F.cells xs, u.oneCell' = true := by
  intro u hu
  obtain ⟨y, _, hy⟩ := List.mem_flatMap.1 hu
  exact F.one y u hy
theorem Flat.cells_at (h : k < xs.length) (hj : j < F.size) : (F.cells xs)[k * F.size + j]? = (F.enc xs[k])[j]? := by
  induction xs generalizing k with
  | nil => exact absurd h (Nat.not_lt_zero _)
  | cons y ys ih =>
    show (F.enc y ++ F.cells ys)[_]? = _
    cases k with
    | zero => rw [Nat.zero_mul, Nat.zero_add, List.getElem?_append_left (by rw [F.len]; exact hj)]; rfl
    | succ k =>
      rw [List.getElem?_append_right (by rw [F.len, Nat.succ_mul]; omega), F.len, Nat.succ_mul, show k * F.size + F.size + j - F.size = k * F.size + j by omega]
      exact ih (by simpa using h)
theorem Flat.cells_set {u : Value} (h : k < xs.length) (hj : j < F.size) (e : (F.enc xs[k]).set j u = F.enc x) : (F.cells xs).set (k * F.size + j) u = F.cells (xs.set k x) := by
  induction xs generalizing k with
  | nil => exact absurd h (Nat.not_lt_zero _)
  | cons y ys ih =>
    show (F.enc y ++ F.cells ys).set _ u = _
    cases k with
    | zero =>
      rw [Nat.zero_mul, Nat.zero_add, List.set_append_left _ _ (by rw [F.len]; exact hj)]
      show (F.enc y).set j u ++ _ = F.enc x ++ F.cells ys
      rw [show (F.enc y).set j u = F.enc x from e]
    | succ k =>
      rw [List.set_append_right _ _ (by rw [F.len, Nat.succ_mul]; omega), F.len, Nat.succ_mul, show k * F.size + F.size + j - F.size = k * F.size + j by omega]
      show F.enc y ++ _ = F.enc y ++ F.cells (ys.set k x)
      rw [ih (by simpa using h) e]
end

/-- The slice value v owns the list xs: a row of the call's own among blocks lo .. hi-1. -/
def Own {α : Type} (F : Flat α) (T : TypeId) (lo hi : Nat) (w : World) (v : Value) (xs : List α) : Prop :=
  w.ownsRow lo T F.size v xs.length (F.cells xs) ∧ ∀ g, v.ownBlock = some g → g < hi

section
variable {α : Type} {F : Flat α} {T : TypeId} {lo hi : Nat} {w w' : World} {v : Value} {xs : List α}
theorem Own.shapes (h : Own F T lo hi w v xs) : (v = .slice none 0 0 ∧ xs = []) ∨ ∃ g c, v = .slice (some ⟨g, 0, none⟩) xs.length c ∧ lo ≤ g ∧ g < hi ∧ xs.length ≤ c ∧ c ≤ maxLen := by
  obtain ⟨⟨h1, h2⟩, h3⟩ := h
  rcases h2 with ⟨rfl, hn⟩ | ⟨g, cap, cur, rfl, hb, hg, hnc, hcm, hcs, ht⟩
  · exact .inl ⟨rfl, List.eq_nil_of_length_eq_zero hn⟩
  · exact .inr ⟨g, cap, rfl, hb, h3 g rfl, hnc, hcm⟩
theorem Own.rd (h : Own F T lo hi w v xs) : Rd F.shape lo hi w v xs := by
  rcases h.shapes with ⟨rfl, rfl⟩ | ⟨g, c, rfl, h1, h2, h3, h4⟩
  · exact Rd.nil _ _ _ _
  · refine ⟨some ⟨g, 0, none⟩, c, rfl, h3, h4, (fun e => by cases e), fun k hk => ⟨g, 0, F.enc xs[k], rfl, h1, h2, rfl, fun j u hu => ?_⟩⟩
    have hj : j < F.size := by
      have := (List.getElem?_eq_some_iff.1 hu).1
      rwa [F.len] at this
    have hlt : k * F.size + j < xs.length * F.size := by
      have h5 : (k + 1) * F.size ≤ xs.length * F.size := Nat.mul_le_mul_right _ hk
      rw [Nat.succ_mul] at h5
      omega
    show w.cell? ⟨g, 0 + k * F.size + j, none⟩ = _
    rw [Nat.zero_add, h.1.cellAt _ hlt, Flat.cells_at hk hj]
    exact hu
theorem Own.below_heap (h : Own F T lo hi w v xs) : ∀ g, v.ownBlock = some g → lo ≤ g ∧ g < hi ∧ g < w.heap.size := fun g hg => ⟨(h.1.lt g hg).1, h.2 g hg, (h.1.lt g hg).2⟩
theorem Own.same (h : Own F T lo hi w v xs) (hs : Same lo hi w w') : Own F T lo hi w' v xs := by
  refine ⟨⟨h.1.1, ?_⟩, h.2⟩
  rcases h.1.2 with hn | ⟨g, cap, cur, rfl, hb, hg, rest⟩
  · exact .inl hn
  · exact .inr ⟨g, cap, cur, rfl, hb, (hs g hb (h.2 g rfl)).trans hg, rest⟩
theorem Own.below {B : Nat} (h : Own F T lo hi w v xs) (hb : Below B w w') (hh : hi ≤ B) : Own F T lo hi w' v xs := h.same (.of_below hb hh)
theorem Own.wide {lo' hi' : Nat} (h : Own F T lo hi w v xs) (h1 : lo' ≤ lo) (h2 : hi ≤ hi') : Own F T lo' hi' w v xs := by
  refine ⟨⟨h.1.1, ?_⟩, fun g hg => Nat.lt_of_lt_of_le (h.2 g hg) h2⟩
  rcases h.1.2 with hn | ⟨g, cap, cur, rfl, hb, hg, rest⟩
  · exact .inl hn
  · exact .inr ⟨g, cap, cur, rfl, by omega, hg, rest⟩
theorem Own.nil (F : Flat α) (T lo hi : Nat) (w : World) : Own F T lo hi w (.slice none 0 0) [] := ⟨World.ownsRow_nil _ _ _ _, fun g hg => by simp [Value.ownBlock] at hg⟩
/-- out of what a law on append or make leaves -/
theorem Own.of_row {n : Nat} {cs : List Value} (h : w.ownsRow lo T F.size v n cs) (hn : n = xs.length) (hc : cs = F.cells xs) (hh : w.heap.size ≤ hi) : Own F T lo hi w v xs := by
  subst hn; subst hc
  exact ⟨h, fun g hg => Nat.lt_of_lt_of_le (h.lt g hg).2 hh⟩
theorem Own.set {k j : Nat} {u : Value} {x : α} {g c n : Nat} (h : Own F T lo hi w (.slice (some ⟨g, 0, none⟩) n c) xs) (hn : n = xs.length) (hk : k < xs.length) (hj : j < F.size) (e : (F.enc xs[k]).set j u = F.enc x) :
    Own F T lo hi (w.setCell ⟨g, k * F.size + j, none⟩ u) (.slice (some ⟨g, 0, none⟩) n c) (xs.set k x) := by
  subst hn
  refine ⟨?_, h.2⟩
  have := (h.1.stored (k * F.size + j) u).1
  rw [Flat.cells_set hk hj e] at this
  simpa using this
theorem Own.cell {k j : Nat} {g c n : Nat} (h : Own F T lo hi w (.slice (some ⟨g, 0, none⟩) n c) xs) (hn : n = xs.length) (hk : k < xs.length) (hj : j < F.size) :
    w.cell? ⟨g, k * F.size + j, none⟩ = (F.enc xs[k])[j]? := by
  subst hn
  have hlt : k * F.size + j < xs.length * F.size := by
    have h5 : (k + 1) * F.size ≤ xs.length * F.size := Nat.mul_le_mul_right _ hk
    rw [Nat.succ_mul] at h5
    omega
  rw [h.1.cellAt _ hlt, Flat.cells_at hk hj]
theorem Own.frozen {g c n : Nat} (h : Own F T lo hi w (.slice (some ⟨g, 0, none⟩) n c) xs) (hn : n = xs.length) (j : Nat) : w.frozen? ⟨g, j, none⟩ = false := by
  subst hn
  exact h.1.frozenAt j
end

theorem made_cells {α : Type} (F : Flat α) (hp : 0 < F.size) (x : α) (z : Array Value) (hz : z.toList = F.enc x) (n : Nat) : (madeCells z (n * F.size)).toList = F.cells (List.replicate n x) := by
  have hzs : z.size = F.size := by rw [← Array.length_toList, hz, F.len]
  apply List.ext_getElem?
  intro j
  by_cases hj : j < n * F.size
  · have hk : j / F.size < n := Nat.div_lt_of_lt_mul (by rw [Nat.mul_comm]; exact hj)
    have hm : j % F.size < F.size := Nat.mod_lt _ hp
    have e : j = j / F.size * F.size + j % F.size := by rw [Nat.mul_comm]; exact (Nat.div_add_mod j F.size).symm
    have e1 : (F.cells (List.replicate n x))[j]? = (F.enc x)[j % F.size]? := by
      conv => lhs; rw [e]
      rw [Flat.cells_at (by simpa using hk) hm]
      simp
    rw [e1, ← hz]
    simp [madeCells, hj, hzs]
    have : j % F.size < z.size := by omega
    rw [getElem!_pos z _ this, Array.getElem?_eq_getElem this]
  · rw [List.getElem?_eq_none, List.getElem?_eq_none]
    · rw [Flat.cells_len]; simp; omega
    · rw [Array.length_toList, size_madeCells]; omega

/-- The cells cs, stored one behind the other. -/
def storeAll (g : Nat) : List Value → Nat → World → World
  | [], _, w => w
  | c :: cs, o, w => storeAll g cs (o + 1) (w.setCell ⟨g, o, none⟩ c)
theorem size_storeAll (g : Nat) (cs : List Value) (o : Nat) (w : World) : (storeAll g cs o w).heap.size = w.heap.size := by
  induction cs generalizing o w with
  | nil => rfl
  | cons c cs ih => rw [storeAll, ih]; simp [World.setCell]
theorem blw_storeAll {B : Nat} {a w : World} {g : Nat} (h : Below B a w) (hg : B ≤ g) (cs : List Value) (o : Nat) : Below B a (storeAll g cs o w) := by
  induction cs generalizing o w with
  | nil => exact h
  | cons c cs ih => exact ih (h.setCell (p := ⟨g, o, none⟩) hg c) (o + 1)
theorem Out.storeAll {lo hi : Nat} {a w : World} {g : Nat} (h : Out lo hi a w) (h1 : lo ≤ g) (h2 : g < hi) (cs : List Value) (o : Nat) : Out lo hi a (storeAll g cs o w) := by
  induction cs generalizing o w with
  | nil => exact h
  | cons c cs ih => exact ih (h.setCell (p := ⟨g, o, none⟩) h1 h2 c) (o + 1)
/-- the cells of a list, from a place on others -/
def setAll : List Value → Nat → List Value → List Value
  | [], _, xs => xs
  | c :: cs, o, xs => setAll cs (o + 1) (xs.set o c)
theorem ownsRow_storeAll {w : World} {base : Nat} {e : TypeId} {size g n cap : Nat} (cs : List Value) (o : Nat) {xs : List Value} (h : w.ownsRow base e size (.slice (some ⟨g, 0, none⟩) n cap) n xs) :
    (storeAll g cs o w).ownsRow base e size (.slice (some ⟨g, 0, none⟩) n cap) n (setAll cs o xs) := by
  induction cs generalizing o w xs with
  | nil => exact h
  | cons c cs ih => exact ih (o + 1) (h.stored o c).1
theorem setAll_get (cs : List Value) (o : Nat) (xs : List Value) (i : Nat) : (setAll cs o xs)[i]? = if o ≤ i ∧ i < o + cs.length ∧ i < xs.length then cs[i - o]? else xs[i]? := by
  induction cs generalizing o xs with
  | nil => rw [if_neg (by simp; omega)]; rfl
  | cons c cs ih =>
    rw [setAll, ih]
    simp only [List.length_set, List.length_cons]
    by_cases h : i < xs.length
    · by_cases h1 : i = o
      · subst h1
        rw [if_neg (by omega), if_pos (by omega), List.getElem?_set_self h]
        simp
      · by_cases h2 : o + 1 ≤ i ∧ i < o + 1 + cs.length
        · rw [if_pos (by omega), if_pos (by omega), show i - o = i - (o + 1) + 1 by omega]
          simp
        · rw [if_neg (by omega), if_neg (by omega), List.getElem?_set_ne (by omega)]
    · rw [if_neg (by omega), if_neg (by omega), List.getElem?_eq_none (by simp; omega), List.getElem?_eq_none (by omega)]
theorem Flat.cells_setAll {α : Type} {F : Flat α} {xs : List α} {k : Nat} (x : α) (hk : k < xs.length) : setAll (F.enc x) (k * F.size) (F.cells xs) = F.cells (xs.set k x) := by
  have hle : (k + 1) * F.size ≤ xs.length * F.size := Nat.mul_le_mul_right _ hk
  rw [Nat.succ_mul] at hle
  apply List.ext_getElem?
  intro i
  rw [setAll_get, F.len, Flat.cells_len]
  by_cases hi : i < xs.length * F.size
  · have hp : 0 < F.size := by
      rcases Nat.eq_zero_or_pos F.size with h | h
      · rw [h] at hi; omega
      · exact h
    have hq : i / F.size < xs.length := Nat.div_lt_of_lt_mul (by rw [Nat.mul_comm]; exact hi)
    have hm : i % F.size < F.size := Nat.mod_lt _ hp
    have e : i = i / F.size * F.size + i % F.size := by rw [Nat.mul_comm]; exact (Nat.div_add_mod i F.size).symm
    generalize i / F.size = q at *
    generalize i % F.size = r at *
    subst e
    rw [Flat.cells_at (xs := xs.set k x) (by simpa using hq) hm, Flat.cells_at hq hm]
    by_cases hqk : q = k
    · subst hqk
      rw [if_pos (by omega), List.getElem_set_self, show q * F.size + r - q * F.size = r by omega]
    · rw [if_neg (by
        intro hh
        rcases Nat.lt_or_gt_of_ne hqk with h | h
        · have : (q + 1) * F.size ≤ k * F.size := Nat.mul_le_mul_right _ h
          rw [Nat.succ_mul] at this
          omega
        · have : (k + 1) * F.size ≤ q * F.size := Nat.mul_le_mul_right _ h
          rw [Nat.succ_mul] at this
          omega), List.getElem_set_ne (Ne.symm hqk)]
  · rw [if_neg (by omega), List.getElem?_eq_none (by rw [Flat.cells_len]; omega), List.getElem?_eq_none (by rw [Flat.cells_len, List.length_set]; omega)]
theorem Own.storeAll {α : Type} {F : Flat α} {T lo hi : Nat} {w : World} {xs : List α} {k g c n : Nat} (x : α) (h : Own F T lo hi w (.slice (some ⟨g, 0, none⟩) n c) xs) (hn : n = xs.length) (hk : k < xs.length) :
    Own F T lo hi (storeAll g (F.enc x) (k * F.size) w) (.slice (some ⟨g, 0, none⟩) n c) (xs.set k x) := by
  subst hn
  refine ⟨?_, h.2⟩
  have := ownsRow_storeAll (F.enc x) (k * F.size) h.1
  rw [Flat.cells_setAll x hk] at this
  simpa using this

theorem Own.form {α : Type} {F : Flat α} {T lo hi : Nat} {w : World} {v : Value} {xs : List α} (h : Own F T lo hi w v xs) :
    ∃ a c, v = .slice a xs.length c ∧ xs.length ≤ c ∧ c ≤ maxLen ∧ (0 < xs.length → ∃ g, a = some ⟨g, 0, none⟩ ∧ lo ≤ g ∧ g < hi) := by
  rcases h.shapes with ⟨rfl, rfl⟩ | ⟨g, c, rfl, h1, h2, h3, h4⟩
  · exact ⟨none, 0, rfl, Nat.le_refl _, Nat.zero_le _, fun h => absurd h (Nat.lt_irrefl _)⟩
  · exact ⟨some ⟨g, 0, none⟩, c, rfl, h3, h4, fun _ => ⟨g, rfl, h1, h2⟩⟩
theorem Own.put {α : Type} {F : Flat α} {T lo hi : Nat} {w : World} {xs : List α} {k j : Nat} {u : Value} {x y : α} {g c n : Nat} (h : Own F T lo hi w (.slice (some ⟨g, 0, none⟩) n c) (xs.set k y)) (hn : n = xs.length) (hk : k < xs.length) (hj : j < F.size) (e : (F.enc y).set j u = F.enc x) :
    Own F T lo hi (w.setCell ⟨g, k * F.size + j, none⟩ u) (.slice (some ⟨g, 0, none⟩) n c) (xs.set k x) := by
  have := h.set (k := k) (j := j) (u := u) (x := x) (by simpa using hn) (by simpa using hk) hj (by simpa using e)
  simpa using this
theorem Own.self {α : Type} {F : Flat α} {T lo hi : Nat} {w : World} {v : Value} {xs : List α} (h : Own F T lo hi w v xs) (k : Nat) (hk : k < xs.length) : Own F T lo hi w v (xs.set k xs[k]) := by
  rw [List.set_getElem_self]; exact h

/-- A list out of what is there at each place. -/
theorem list_of {α : Type} {P : Nat → α → Prop} (n : Nat) (h : ∀ i, i < n → ∃ x, P i x) : ∃ xs : List α, xs.length = n ∧ ∀ i (hi : i < xs.length), P i xs[i] := by
  induction n with
  | zero => exact ⟨[], rfl, fun i hi => absurd hi (Nat.not_lt_zero _)⟩
  | succ n ih =>
    obtain ⟨xs, hl, hx⟩ := ih fun i hi => h i (by omega)
    obtain ⟨x, hxn⟩ := h n (by omega)
    refine ⟨xs ++ [x], by simp [hl], fun i hi => ?_⟩
    by_cases hin : i < xs.length
    · rw [List.getElem_append_left hin]; exact hx i hin
    · have : i = n := by simp at hi; omega
      subst this
      rw [List.getElem_append_right (by omega)]
      simpa [hl] using hxn

theorem take_set_self {α : Type} {xs ys : List α} {k : Nat} (hk : k < xs.length) (hl : ys.length = xs.length) (h : ys.take k = xs.take k) : (ys.set k xs[k]).take (k + 1) = xs.take (k + 1) := by
  apply List.ext_getElem?
  intro i
  by_cases hi : i < k + 1
  · rw [List.getElem?_take_of_lt hi, List.getElem?_take_of_lt hi]
    by_cases hik : i = k
    · subst hik
      rw [List.getElem?_set_self (by omega), List.getElem?_eq_getElem hk]
    · rw [List.getElem?_set_ne (Ne.symm hik)]
      have := congrArg (fun l : List α => l[i]?) h
      rwa [List.getElem?_take_of_lt (by omega), List.getElem?_take_of_lt (by omega)] at this
  · rw [List.getElem?_eq_none (by simp; omega), List.getElem?_eq_none (by simp; omega)]
theorem str_eq {a b : ByteArray} : (a.toList == b.toList) = true ↔ a = b := by
  constructor
  · intro h
    have h1 : a.toList = b.toList := by simpa using h
    rw [ByteArray.toList_eq, ByteArray.toList_eq] at h1
    cases a; cases b
    simpa using h1
  · rintro rfl; simp
end Go.Proofs.YtoloplpmjcgbdaaGreatDoor
