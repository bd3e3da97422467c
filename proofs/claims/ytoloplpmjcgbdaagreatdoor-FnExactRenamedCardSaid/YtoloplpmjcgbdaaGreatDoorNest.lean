/- Slices of things that bear one slice of integers each ([][]int, and structs with an []int among their fields): owned as a whole, no two rows in one block. -/
import Derived.Test.YtoloplpmjcgbdaaGreatDoorApp
namespace Go.Proofs.YtoloplpmjcgbdaaGreatDoor
open Go.RowKit

theorem cell_dn {w w4 : World} {n : Nat} (hw : w.drewN n = w4) {p : Addr} {v : Value} (h : w.cell? p = some v) : w4.cell? p = some v := by subst hw; exact h
theorem frozen_dn {w w4 : World} {n : Nat} (hw : w.drewN n = w4) {p : Addr} {b : Bool} (h : w.frozen? p = b) : w4.frozen? p = b := by subst hw; exact h
theorem blw_dn {w w4 w0 : World} {n B : Nat} (hw : w.drewN n = w4) (h : Below B w0 w) : Below B w0 w4 := by subst hw; exact blw_drewN h n
/-- the parts of a slice value -/
def SV : Type := Option Addr × Nat × Nat
def SV.v (s : SV) : Value := .slice s.1 s.2.1 s.2.2
theorem ownBlock_sv {s : SV} {g : Nat} (h : s.v.ownBlock = some g) : ∃ ad, s.1 = some ad ∧ ad.block = g := by
  obtain ⟨a, n, c⟩ := s
  cases a with
  | none => simp [SV.v, Value.ownBlock] at h
  | some ad => exact ⟨ad, rfl, by simpa [SV.v, Value.ownBlock] using h⟩

theorem sv_of {s : SV} {a : Option Addr} {n c : Nat} (h : s.v = .slice a n c) : s = (a, n, c) := by
  obtain ⟨a', n', c'⟩ := s
  simp only [SV.v, Value.slice.injEq] at h
  obtain ⟨rfl, rfl, rfl⟩ := h
  rfl
theorem Own.congr {α β : Type} {F : Flat α} {G : Flat β} {T lo hi : Nat} {w : World} {v : Value} {xs : List α} {ys : List β} (h : Own F T lo hi w v xs) (hs : F.size = G.size) (hl : xs.length = ys.length) (hc : F.cells xs = G.cells ys) : Own G T lo hi w v ys := by
  refine ⟨?_, h.2⟩
  have := h.1
  rwa [hs, hl, hc] at this
/-- rows of different element types never lie in one block -/
theorem own_ne {α β : Type} {F : Flat α} {G : Flat β} {T T' lo hi lo' hi' : Nat} {w : World} {v u : Value} {xs : List α} {ys : List β} (h : Own F T lo hi w v xs) (k : Own G T' lo' hi' w u ys) (hT : T ≠ T') {g : Nat} (hg : v.ownBlock = some g) : u.ownBlock ≠ some g := by
  rcases h.1.2 with ⟨rfl, _⟩ | ⟨g1, c1, cur1, rfl, _, hh1, _⟩
  · simp [Value.ownBlock] at hg
  · obtain rfl : g1 = g := by simpa [Value.ownBlock] using hg
    rcases k.1.2 with ⟨rfl, _⟩ | ⟨g2, c2, cur2, rfl, _, hh2, _⟩
    · simp [Value.ownBlock]
    · intro he
      obtain rfl : g2 = g1 := by simpa [Value.ownBlock] using he
      rw [hh1] at hh2
      injection hh2 with hh2
      injection hh2 with _ ht
      exact hT ht

/-- owned rows: the outer row's cells are those of the pairs (thing, its slice), each inner slice owns its integers, no two in one block -/
structure FOwn {α : Type} (F : Flat (α × SV)) (kids : α → List Int) (T TI lo hi : Nat) (w : World) (v : Value) (ps : List (α × SV)) : Prop where
  outer : Own F T lo hi w v ps
  inner : ∀ i (h : i < ps.length), Own intF TI lo hi w ps[i].2.v (kids ps[i].1)
  apart : ∀ i j (hi : i < ps.length) (hj : j < ps.length), i ≠ j → ∀ g, ps[i].2.v.ownBlock = some g → ps[j].2.v.ownBlock ≠ some g

section
variable {α : Type} {F : Flat (α × SV)} {kids : α → List Int} {T TI lo hi : Nat} {w w' : World} {v : Value} {ps : List (α × SV)}
theorem FOwn.same (h : FOwn F kids T TI lo hi w v ps) (hs : Same lo hi w w') : FOwn F kids T TI lo hi w' v ps := ⟨h.outer.same hs, fun i hi => (h.inner i hi).same hs, h.apart⟩
theorem FOwn.below {B : Nat} (h : FOwn F kids T TI lo hi w v ps) (hb : Below B w w') (hh : hi ≤ B) : FOwn F kids T TI lo hi w' v ps := h.same (.of_below hb hh)
theorem FOwn.wide {lo' hi' : Nat} (h : FOwn F kids T TI lo hi w v ps) (h1 : lo' ≤ lo) (h2 : hi ≤ hi') : FOwn F kids T TI lo' hi' w v ps := ⟨h.outer.wide h1 h2, fun i hi => (h.inner i hi).wide h1 h2, h.apart⟩
theorem FOwn.alloc (h : FOwn F kids T TI lo hi w v ps) (o : Obj) : FOwn F kids T TI lo hi (w.alloc o) v ps := ⟨h.outer.alloc o, fun i hi => (h.inner i hi).alloc o, h.apart⟩
theorem FOwn.drew (h : FOwn F kids T TI lo hi w v ps) : FOwn F kids T TI lo hi w.drew v ps := ⟨h.outer, h.inner, h.apart⟩
theorem FOwn.drewN (h : FOwn F kids T TI lo hi w v ps) (n : Nat) : FOwn F kids T TI lo hi (w.drewN n) v ps := ⟨h.outer, h.inner, h.apart⟩
theorem FOwn.up (h : FOwn F kids T TI lo hi w v ps) : FOwn F kids T TI lo w.heap.size w v ps := ⟨h.outer.up, fun i hi => (h.inner i hi).up, h.apart⟩
theorem FOwn.nil : FOwn F kids T TI lo hi w (.slice none 0 0) [] := ⟨Own.nil _ _ _ _ _, fun _ h => absurd h (Nat.not_lt_zero _), fun _ _ h => absurd h (Nat.not_lt_zero _)⟩
/-- one integer of one row is written -/
theorem FOwn.store (h : FOwn F kids T TI lo hi w v ps) (hT : T ≠ TI) {i j g : Nat} {x' : α} {n c : Nat} (hi' : i < ps.length) (hg : ps[i].2 = (some ⟨g, 0, none⟩, n, c)) (hj : j < (kids ps[i].1).length) (u : Int)
    (hk : kids x' = (kids ps[i].1).set j u) (he : F.enc (x', ps[i].2) = F.enc ps[i]) : FOwn F kids T TI lo hi (w.setCell ⟨g, j, none⟩ (.int .i64 u)) v (ps.set i (x', ps[i].2)) := by
  have hin := h.inner i hi'
  have hgb : ps[i].2.v.ownBlock = some g := by rw [hg]; rfl
  have hfar : ∀ {β : Type} {G : Flat β} {T' : Nat} {u' : Value} {ys : List β}, Own G T' lo hi w u' ys → u'.ownBlock ≠ some g → Own G T' lo hi (w.setCell ⟨g, j, none⟩ (.int .i64 u)) u' ys := by
    intro β G T' u' ys ho hne
    refine ⟨?_, ho.2⟩
    refine ho.1.kept (row := some g) ⟨rfl, rfl, rfl, by simp, fun k _ hk => heap_setCell_other w ⟨g, j, none⟩ k _ (fun e => hk (by simp [e]))⟩ ?_
    exact .inr hne
  refine ⟨?_, ?_, ?_⟩
  · refine Own.congr (F := F) (xs := ps) (hfar h.outer (own_ne hin h.outer (Ne.symm hT) hgb)) rfl (by simp) ?_
    apply List.ext_getElem?
    intro q
    by_cases hq : q < ps.length * F.size
    · have hp : 0 < F.size := by
        rcases Nat.eq_zero_or_pos F.size with h0 | h0
        · rw [h0] at hq; omega
        · exact h0
      have hk1 : q / F.size < ps.length := Nat.div_lt_of_lt_mul (by rw [Nat.mul_comm]; exact hq)
      have hm : q % F.size < F.size := Nat.mod_lt _ hp
      have e : q = q / F.size * F.size + q % F.size := by rw [Nat.mul_comm]; exact (Nat.div_add_mod q F.size).symm
      generalize q / F.size = k at *
      generalize q % F.size = r at *
      subst e
      rw [Flat.cells_at hk1 hm, Flat.cells_at (by simpa using hk1) hm]
      by_cases hki : i = k
      · subst hki
        rw [List.getElem_set_self, he]
      · rw [List.getElem_set_ne hki]
    · rw [List.getElem?_eq_none (by rw [Flat.cells_len]; omega), List.getElem?_eq_none (by rw [Flat.cells_len, List.length_set]; omega)]
  · intro k hk1
    have hk2 : k < ps.length := by simpa using hk1
    by_cases hki : i = k
    · subst hki
      rw [List.getElem_set_self]
      simp only
      rw [hg, hk]
      have hin' := hin
      rw [hg] at hin'
      have hn : n = (kids ps[i].1).length := by
        rcases hin'.shapes with ⟨e1, _⟩ | ⟨g', c', e1, _⟩
        · simp [SV.v] at e1
        · simp [SV.v] at e1; exact e1.2.1
      have := Own.set (F := intF) (x := u) hin' hn hj (by decide) (j := 0) (u := .int .i64 u) rfl
      rwa [show j * intF.size + 0 = j from Nat.mul_one j] at this
    · rw [List.getElem_set_ne hki]
      exact hfar (h.inner k hk2) (h.apart i k hi' hk2 hki g hgb)
  · intro p q hp hq hne gg hgg
    have hp' : p < ps.length := by simpa using hp
    have hq' : q < ps.length := by simpa using hq
    have e1 : (ps.set i (x', ps[i].2))[p].2 = ps[p].2 := by
      by_cases h1 : i = p
      · subst h1; rw [List.getElem_set_self]
      · rw [List.getElem_set_ne h1]
    have e2 : (ps.set i (x', ps[i].2))[q].2 = ps[q].2 := by
      by_cases h1 : i = q
      · subst h1; rw [List.getElem_set_self]
      · rw [List.getElem_set_ne h1]
    rw [e1] at hgg
    rw [e2]
    exact h.apart p q hp' hq' hne gg hgg
theorem Own.keepFar {β : Type} {G : Flat β} {T' lo hi : Nat} {w : World} {u' : Value} {ys : List β} (ho : Own G T' lo hi w u' ys) {g : Nat} (hne : u'.ownBlock ≠ some g) (j : Nat) (u : Value) : Own G T' lo hi (w.setCell ⟨g, j, none⟩ u) u' ys :=
  ⟨ho.1.kept (row := some g) ⟨rfl, rfl, rfl, by simp, fun k _ hk => heap_setCell_other w ⟨g, j, none⟩ k _ (fun e => hk (by simp [e]))⟩ (.inr hne), ho.2⟩
/-- one thing gets a new slice, in a block of its own -/
theorem FOwn.plant {G n c k j lo' hi' : Nat} {x' : α} {s : SV} (h : FOwn F kids T TI lo hi w (.slice (some ⟨G, 0, none⟩) n c) ps) (hT : T ≠ TI) (hn : n = ps.length) (hk : k < ps.length) (hj : j < F.size)
    (hnew : Own intF TI lo' hi' w s.v (kids x')) (h1 : lo ≤ lo') (h2 : hi ≤ hi') (hf : ∀ g, s.v.ownBlock = some g → hi ≤ g) (he : (F.enc ps[k]).set j s.v = F.enc (x', s)) :
    FOwn F kids T TI lo hi' (w.setCell ⟨G, k * F.size + j, none⟩ s.v) (.slice (some ⟨G, 0, none⟩) n c) (ps.set k (x', s)) := by
  have hG : (Value.slice (some ⟨G, 0, none⟩) n c).ownBlock = some G := rfl
  refine ⟨(h.outer.set hn hk hj he).wide (Nat.le_refl _) h2, ?_, ?_⟩
  · intro i hi1
    have hi2 : i < ps.length := by simpa using hi1
    by_cases hki : k = i
    · subst hki
      rw [List.getElem_set_self]
      exact (hnew.keepFar (own_ne h.outer hnew hT hG) _ _).wide h1 (Nat.le_refl _)
    · rw [List.getElem_set_ne hki]
      exact ((h.inner i hi2).keepFar (own_ne h.outer (h.inner i hi2) hT hG) _ _).wide (Nat.le_refl _) h2
  · intro p q hp hq hne g hg
    have hp' : p < ps.length := by simpa using hp
    have hq' : q < ps.length := by simpa using hq
    by_cases hkp : k = p
    · subst hkp
      rw [List.getElem_set_self] at hg
      rw [List.getElem_set_ne hne]
      intro hg2
      have := hf g hg
      have := (h.inner q hq').2 g hg2
      omega
    · rw [List.getElem_set_ne hkp] at hg
      by_cases hkq : k = q
      · subst hkq
        rw [List.getElem_set_self]
        intro hg2
        have := hf g hg2
        have := (h.inner p hp').2 g hg
        omega
      · rw [List.getElem_set_ne hkq]
        exact h.apart p q hp' hq' hne g hg
end

theorem kept_ne {lo hi : Nat} {w w' : World} {TI : TypeId} {u : Value} {ys : List Int} (h : Own intF TI lo hi w u ys) {row : Option Nat} (hg : w.grownBy w' row) (hne : ∀ g, row = some g → u.ownBlock ≠ some g) : Own intF TI lo hi w' u ys := by
  refine ⟨h.1.kept hg ?_, h.2⟩
  cases hu : u.ownBlock with
  | none => exact .inl rfl
  | some g =>
    refine .inr fun e => ?_
    exact hne g e.symm hu
/-- one thing more, behind an append -/
theorem FOwn.snoc {α : Type} {F : Flat (α × SV)} {kids : α → List Int} {T TI lo hi lo' hi' hi2 : Nat} {w w' : World} {v v' : Value} {ps : List (α × SV)} {x' : α} {s : SV} (h : FOwn F kids T TI lo hi w v ps) (hT : T ≠ TI) (hnew : Own intF TI lo' hi' w s.v (kids x')) (hlo : lo ≤ lo') (h1 : hi ≤ hi2) (h2 : hi' ≤ hi2)
    (hf : ∀ g, s.v.ownBlock = some g → hi ≤ g) (hO : Own F T lo hi2 w' v' (ps ++ [(x', s)])) (hg : w.grownBy w' v.ownBlock) : FOwn F kids T TI lo hi2 w' v' (ps ++ [(x', s)]) := by
  refine ⟨hO, fun i hi1 => ?_, fun p q hp hq hne g hgp => ?_⟩
  · by_cases hip : i < ps.length
    · rw [List.getElem_append_left hip]
      exact (kept_ne (h.inner i hip) hg fun g hv => own_ne h.outer (h.inner i hip) hT hv).wide (Nat.le_refl _) h1
    · have e : (ps ++ [(x', s)])[i] = (x', s) := by
        rw [List.getElem_append_right (by omega)]
        have : i - ps.length = 0 := by simp at hi1; omega
        simp [this]
      rw [e]
      exact (kept_ne hnew hg fun g hv => own_ne h.outer hnew hT hv).wide hlo h2
  · have lst : ∀ r (hr : r < (ps ++ [(x', s)]).length), ¬ r < ps.length → (ps ++ [(x', s)])[r] = (x', s) := fun r hr hn => by
      rw [List.getElem_append_right (by omega)]
      have : r - ps.length = 0 := by simp at hr; omega
      simp [this]
    by_cases hp1 : p < ps.length
    · rw [List.getElem_append_left hp1] at hgp
      by_cases hq1 : q < ps.length
      · rw [List.getElem_append_left hq1]
        exact h.apart p q hp1 hq1 hne g hgp
      · rw [lst q hq hq1]
        intro hs
        have := hf g hs
        have := (h.inner p hp1).2 g hgp
        omega
    · rw [lst p hp hp1] at hgp
      by_cases hq1 : q < ps.length
      · rw [List.getElem_append_left hq1]
        intro hs
        have := hf g hgp
        have := (h.inner q hq1).2 g hs
        omega
      · simp at hp hq
        omega
theorem FOwn.row {α : Type} {F : Flat (α × SV)} {kids : α → List Int} {T TI lo hi : Nat} {w : World} {v : Value} {ps : List (α × SV)} (h : FOwn F kids T TI lo hi w v ps) {i : Nat} (hi1 : i < ps.length) (hp : 0 < (kids ps[i].1).length) :
    ∃ g c, ps[i].2 = (some ⟨g, 0, none⟩, (kids ps[i].1).length, c) ∧ lo ≤ g ∧ g < hi ∧ (∀ j (hj : j < (kids ps[i].1).length), w.cell? ⟨g, j, none⟩ = some (.int .i64 (kids ps[i].1)[j])) ∧ (∀ j, w.frozen? ⟨g, j, none⟩ = false) := by
  have hin := h.inner i hi1
  rcases hin.shapes with ⟨_, e2⟩ | ⟨g, c, e1, h1, h2, h3, h4⟩
  · rw [e2] at hp; exact absurd hp (Nat.lt_irrefl _)
  · have e3 : ps[i].2 = (some ⟨g, 0, none⟩, (kids ps[i].1).length, c) := sv_of e1
    refine ⟨g, c, e3, h1, h2, fun j hj => ?_, fun j => ?_⟩
    · rw [e1] at hin
      have := hin.cell (k := j) (j := 0) rfl hj (by decide)
      rw [show j * intF.size + 0 = j from Nat.mul_one j] at this
      exact this
    · rw [e1] at hin
      exact hin.frozen rfl j
theorem map_set_take {α β : Type} {ps : List (α × β)} {xs : List α} {k : Nat} {x' : α} {s : β} (hk : k < xs.length) (hl : ps.length = xs.length) (h : (ps.map (·.1)).take k = xs.take k) (hx : x' = xs[k]) : ((ps.set k (x', s)).map (·.1)).take (k + 1) = xs.take (k + 1) := by
  rw [List.map_set, hx]
  exact take_set_self hk (by simpa using hl) h

theorem map_snoc_rep {α β : Type} {ps : List (α × β)} {k : Nat} {x : α} {s : β} (h : ps.map (·.1) = List.replicate k x) : (ps ++ [(x, s)]).map (·.1) = List.replicate (k + 1) x := by
  rw [List.map_append, h, List.replicate_succ']; rfl
/-- [][]int -/
def tabF : Flat (List Int × SV) := ⟨1, fun p => [p.2.v], fun _ => rfl, fun x u h => by
  simp only [List.mem_cons, List.not_mem_nil, or_false] at h
  subst h; rfl⟩
def tabS : Shape (List Int) := intF.shape.sl
theorem FOwn.rdTab {T TI lo hi : Nat} {w : World} {v : Value} {ps : List (List Int × SV)} (h : FOwn tabF id T TI lo hi w v ps) : Rd tabS lo hi w v (ps.map (·.1)) := by
  rcases h.outer.shapes with ⟨rfl, rfl⟩ | ⟨g, c, rfl, h1, h2, h3, h4⟩
  · exact Rd.nil _ _ _ _
  · have hm : (ps.map (·.1)).length = ps.length := by simp
    refine ⟨some ⟨g, 0, none⟩, c, by rw [hm], by rw [hm]; exact h3, h4, (fun e => by cases e), fun k hk => ?_⟩
    have hk' : k < ps.length := by simpa using hk
    refine ⟨g, 0, [ps[k].2.v], rfl, h1, h2, ⟨_, rfl, ?_⟩, fun j u hu => ?_⟩
    · rw [List.getElem_map]
      exact (h.inner k hk').rd
    · have hj : j = 0 := by
        have := (List.getElem?_eq_some_iff.1 hu).1
        simpa using this
      subst hj
      have := h.outer.cell (k := k) (j := 0) rfl hk' (by decide)
      show w.cell? ⟨g, 0 + k * 1 + 0, none⟩ = some u
      rw [show 0 + k * 1 + 0 = k * tabF.size + 0 by rw [Nat.zero_add]; rfl, this]
      exact hu
end Go.Proofs.YtoloplpmjcgbdaaGreatDoor
