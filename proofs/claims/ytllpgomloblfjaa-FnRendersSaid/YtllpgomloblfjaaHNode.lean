/- Node: how it lies in memory (a struct with an []int among its fields); the law's helpers for it. -/
import Derived.Test.YtllpgomloblfjaaNest
import Derived.Test.YtllpgomloblfjaaHInt
namespace Go.Proofs.Ytllpgomloblfjaa
open Go.RowKit
structure Node where
  kind : Int
  text : ByteArray
  kids : List Int
  blank : Bool
def nodeF : Flat (Node × SV) := ⟨4, fun p => [.int .i64 p.1.kind, .string p.1.text, p.2.v, .bool p.1.blank], fun _ => rfl, fun x u h => by
  simp only [List.mem_cons, List.not_mem_nil, or_false] at h
  rcases h with h | h | h | h <;> subst h <;> rfl⟩
def nodeS : Shape Node :=
  { size := 4, rel := fun lo hi w x cs => ∃ v, cs = [.int .i64 x.kind, .string x.text, v, .bool x.blank] ∧ Rd intF.shape lo hi w v x.kids,
    len := by rintro _ _ _ _ _ ⟨v, rfl, _⟩; rfl
    same := by rintro _ _ _ _ _ _ ⟨v, rfl, h⟩ hs; exact ⟨v, rfl, h.same hs⟩
    wide := by rintro _ _ _ _ _ _ _ ⟨v, rfl, h⟩ h1 h2; exact ⟨v, rfl, h.wide h1 h2⟩ }
def Node.zero : Node := ⟨0, ByteArray.empty, [], false⟩
/-- the value: its kids lie at ka -/
def Node.v (x : Node) (ka : Option Addr) (kc : Nat) : Value := .agg #[.int .i64 x.kind, .string x.text, .slice ka x.kids.length kc, .bool x.blank]
abbrev intS : Shape Int := intF.shape
theorem Rd.nodeS {lo hi : Nat} {w : World} {v : Value} {xs : List Node} (h : Rd nodeS lo hi w v xs) :
    ∃ a c, v = .slice a xs.length c ∧ xs.length ≤ c ∧ c ≤ maxLen ∧ (a = none → c = 0) ∧
      ∀ k (h : k < xs.length), ∃ b off ka kc, a = some ⟨b, off, none⟩ ∧ lo ≤ b ∧ b < hi ∧ w.cell? ⟨b, off + k * 4, none⟩ = some (.int .i64 xs[k].kind) ∧ w.cell? ⟨b, off + k * 4 + 1, none⟩ = some (.string xs[k].text) ∧
        w.cell? ⟨b, off + k * 4 + 2, none⟩ = some (.slice ka xs[k].kids.length kc) ∧ w.cell? ⟨b, off + k * 4 + 3, none⟩ = some (.bool xs[k].blank) ∧ Rd intS lo hi w (.slice ka xs[k].kids.length kc) xs[k].kids := by
  obtain ⟨a, c, h1, h2, h3, h4, h5⟩ := h
  refine ⟨a, c, h1, h2, h3, h4, fun k hk => ?_⟩
  obtain ⟨b, off, cs, e1, e2, e3, ⟨v, rfl, hr⟩, e5⟩ := h5 k hk
  have hr' := hr
  obtain ⟨ka, kc, rfl, _⟩ := hr
  exact ⟨b, off, ka, kc, e1, e2, e3, e5 0 _ rfl, e5 1 _ rfl, e5 2 _ rfl, e5 3 _ rfl, hr'⟩
theorem Try.cellsInts : Try.prog.cellsOf 32 = 1 := by kernel_rfl
def Node.Ok (x : Node) : Prop := I64 x.kind ∧ SzOk x.text ∧ ∀ k ∈ x.kids, I64 k
def Node.wt (x : Node) : Nat := x.text.size + x.kids.length
/-- what a list of them weighs -/
def Node.wts (xs : List Node) : Nat := xs.length + sumOf Node.wt xs
theorem Node.wts_ge (xs : List Node) : xs.length ≤ Node.wts xs := Nat.le_add_right _ _
theorem own_keepFarAll {β : Type} {G : Flat β} {T' lo hi : Nat} {u' : Value} {ys : List β} {g : Nat} (hne : u'.ownBlock ≠ some g) (cs : List Value) (o : Nat) {w : World} (ho : Own G T' lo hi w u' ys) : Own G T' lo hi (storeAll g cs o w) u' ys := by
  induction cs generalizing o w with
  | nil => exact ho
  | cons c cs ih => exact ih (o + 1) (ho.keepFar hne o c)
section
variable {α : Type} {F : Flat (α × SV)} {kids : α → List Int} {T TI lo hi : Nat} {w w' : World} {v : Value} {ps : List (α × SV)}
/-- one thing is written whole, its slice in a block of its own -/
theorem FOwn.plantAll {G n c k lo' hi' : Nat} (x' : α) (s : SV) (h : FOwn F kids T TI lo hi w (.slice (some ⟨G, 0, none⟩) n c) ps) (hT : T ≠ TI) (hn : n = ps.length) (hk : k < ps.length)
    (hnew : Own intF TI lo' hi' w s.v (kids x')) (h1 : lo ≤ lo') (h2 : hi ≤ hi') (hf : ∀ g, s.v.ownBlock = some g → hi ≤ g) :
    FOwn F kids T TI lo hi' (storeAll G (F.enc (x', s)) (k * F.size) w) (.slice (some ⟨G, 0, none⟩) n c) (ps.set k (x', s)) := by
  have hG : (Value.slice (some ⟨G, 0, none⟩) n c).ownBlock = some G := rfl
  refine ⟨(h.outer.storeAll (x', s) hn hk).wide (Nat.le_refl _) h2, ?_, ?_⟩
  · intro i hi1
    have hi2 : i < ps.length := by simpa using hi1
    by_cases hki : k = i
    · subst hki
      rw [List.getElem_set_self]
      exact (own_keepFarAll (own_ne h.outer hnew hT hG) _ _ hnew).wide h1 (Nat.le_refl _)
    · rw [List.getElem_set_ne hki]
      exact (own_keepFarAll (own_ne h.outer (h.inner i hi2) hT hG) _ _ (h.inner i hi2)).wide (Nat.le_refl _) h2
  · intro p q hp hq hne g hg
    have hp' : p < ps.length := by simpa using hp
    have hq' : q < ps.length := by simpa using hq
    by_cases hkp : k = p
    · subst hkp
      rw [List.getElem_set_self] at hg
      rw [List.getElem_set_ne hne]
      intro hg2
      have := hf g hg
      have := (h.inner q hq').2 g hg2
      omega
    · rw [List.getElem_set_ne hkp] at hg
      by_cases hkq : k = q
      · subst hkq
        rw [List.getElem_set_self]
        intro hg2
        have := hf g hg2
        have := (h.inner p hp').2 g hg
        omega
      · rw [List.getElem_set_ne hkq]
        exact h.apart p q hp' hq' hne g hg
end
theorem FOwn.rdNode {T TI lo hi : Nat} {w : World} {v : Value} {ps : List (Node × SV)} (h : FOwn nodeF Node.kids T TI lo hi w v ps) : Rd nodeS lo hi w v (ps.map (·.1)) := by
  rcases h.outer.shapes with ⟨rfl, rfl⟩ | ⟨g, c, rfl, h1, h2, h3, h4⟩
  · exact Rd.nil _ _ _ _
  · have hm : (ps.map (·.1)).length = ps.length := by simp
    refine ⟨some ⟨g, 0, none⟩, c, by rw [hm], by rw [hm]; exact h3, h4, (fun e => by cases e), fun k hk => ?_⟩
    have hk' : k < ps.length := by simpa using hk
    refine ⟨g, 0, nodeF.enc ps[k], rfl, h1, h2, ⟨ps[k].2.v, by rw [List.getElem_map]; rfl, ?_⟩, fun j u hu => ?_⟩
    · rw [List.getElem_map]
      exact (h.inner k hk').rd
    · have hj : j < 4 := (List.getElem?_eq_some_iff.1 hu).1
      have := h.outer.cell (k := k) (j := j) rfl hk' hj
      show w.cell? ⟨g, 0 + k * 4 + j, none⟩ = some u
      rw [show 0 + k * 4 + j = k * nodeF.size + j by rw [Nat.zero_add]; rfl, this]
      exact hu
section
variable {lo hi : Nat} {w w' : World} {v : Value} {xs : List Node}
end
end Go.Proofs.Ytllpgomloblfjaa
