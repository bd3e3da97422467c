/- Node: how it lies in memory (a struct with an []int among its fields); the law's helpers for it. -/
import Derived.Test.YtoloplpmjcgbdaaGreatDoorNest
import Derived.Test.YtoloplpmjcgbdaaGreatDoorHInt
namespace Go.Proofs.YtoloplpmjcgbdaaGreatDoor
open Go.RowKit
structure Node where
  kind : Int
  text : ByteArray
  kids : List Int
  blank : Bool
def nodeF : Flat (Node × SV) := ⟨4, fun p => [.int .i64 p.1.kind, .string p.1.text, p.2.v, .bool p.1.blank], fun _ => rfl, fun x u h => by
  simp only [List.mem_cons, List.not_mem_nil, or_false] at h
  rcases h with h | h | h | h <;> subst h <;> rfl⟩
def nodeS : Shape Node :=
  { size := 4, rel := fun lo hi w x cs => ∃ v, cs = [.int .i64 x.kind, .string x.text, v, .bool x.blank] ∧ Rd intF.shape lo hi w v x.kids,
    len := by rintro _ _ _ _ _ ⟨v, rfl, _⟩; rfl
    same := by rintro _ _ _ _ _ _ ⟨v, rfl, h⟩ hs; exact ⟨v, rfl, h.same hs⟩
    wide := by rintro _ _ _ _ _ _ _ ⟨v, rfl, h⟩ h1 h2; exact ⟨v, rfl, h.wide h1 h2⟩ }
def Node.zero : Node := ⟨0, ByteArray.empty, [], false⟩
/-- the value: its kids lie at ka -/
def Node.v (x : Node) (ka : Option Addr) (kc : Nat) : Value := .agg #[.int .i64 x.kind, .string x.text, .slice ka x.kids.length kc, .bool x.blank]
abbrev intS : Shape Int := intF.shape
theorem Rd.nodeS {lo hi : Nat} {w : World} {v : Value} {xs : List Node} (h : Rd nodeS lo hi w v xs) :
    ∃ a c, v = .slice a xs.length c ∧ xs.length ≤ c ∧ c ≤ maxLen ∧ (a = none → c = 0) ∧
      ∀ k (h : k < xs.length), ∃ b off ka kc, a = some ⟨b, off, none⟩ ∧ lo ≤ b ∧ b < hi ∧ w.cell? ⟨b, off + k * 4, none⟩ = some (.int .i64 xs[k].kind) ∧ w.cell? ⟨b, off + k * 4 + 1, none⟩ = some (.string xs[k].text) ∧
        w.cell? ⟨b, off + k * 4 + 2, none⟩ = some (.slice ka xs[k].kids.length kc) ∧ w.cell? ⟨b, off + k * 4 + 3, none⟩ = some (.bool xs[k].blank) ∧ Rd intS lo hi w (.slice ka xs[k].kids.length kc) xs[k].kids := by
  obtain ⟨a, c, h1, h2, h3, h4, h5⟩ := h
  refine ⟨a, c, h1, h2, h3, h4, fun k hk => ?_⟩
  obtain ⟨b, off, cs, e1, e2, e3, ⟨v, rfl, hr⟩, e5⟩ := h5 k hk
  have hr' := hr
  obtain ⟨ka, kc, rfl, _⟩ := hr
  exact ⟨b, off, ka, kc, e1, e2, e3, e5 0 _ rfl, e5 1 _ rfl, e5 2 _ rfl, e5 3 _ rfl, hr'⟩
theorem Tryz.cells36 : Tryz.prog.cellsOf 36 = 4 := by kernel_rfl
theorem Tryz.cellsInts : Tryz.prog.cellsOf 34 = 1 := by kernel_rfl
def Node.Ok (x : Node) : Prop := I64 x.kind ∧ SzOk x.text ∧ ∀ k ∈ x.kids, I64 k
theorem opens_Node : Opens Tryz.prog nodeS 36 Node.Ok := by
  intro H enc w base spare held fuel cs x hx
  obtain ⟨ys, m, _, _, hlen, hl, hf⟩ := DataW.trod_struct Tryz.underlying36 hx
  rw [Tryz.cells36] at hlen
  obtain ⟨c0, r0, rfl, hn0⟩ := list_cons hlen
  obtain ⟨c1, r1, rfl, hn1⟩ := list_cons hn0
  obtain ⟨c2, r2, rfl, hn2⟩ := list_cons hn1
  obtain ⟨c3, r3, rfl, hn3⟩ := list_cons hn2
  obtain rfl := list_nil hn3
  have h0 : DataW.trod enc Tryz.prog w base spare held m 3 ((([c0, c1, c2, c3] : List Value).drop 0).take (Tryz.prog.cellsOf 3)) = ys[0]? := hf 0 _ rfl
  rw [Tryz.cellsInt, List.getElem?_eq_getElem (show 0 < ys.length by rw [hl]; exact of_decide_eq_true rfl)] at h0
  obtain ⟨a0, e0, k0⟩ := opens_int Tryz.underlying3 H enc w base spare held m _ _ h0
  have h1 : DataW.trod enc Tryz.prog w base spare held m 9 ((([c0, c1, c2, c3] : List Value).drop 1).take (Tryz.prog.cellsOf 9)) = ys[1]? := hf 1 _ rfl
  rw [Tryz.cellsStr, List.getElem?_eq_getElem (show 1 < ys.length by rw [hl]; exact of_decide_eq_true rfl)] at h1
  obtain ⟨a1, e1, k1⟩ := opens_str Tryz.underlying9 H enc w base spare held m _ _ h1
  have h2 : DataW.trod enc Tryz.prog w base spare held m 34 ((([c0, c1, c2, c3] : List Value).drop 2).take (Tryz.prog.cellsOf 34)) = ys[2]? := hf 2 _ rfl
  rw [Tryz.cellsInts, List.getElem?_eq_getElem (show 2 < ys.length by rw [hl]; exact of_decide_eq_true rfl)] at h2
  obtain ⟨a2, ⟨v2, e2, hr2⟩, k2⟩ := opens_sl Tryz.underlying34 Tryz.cellsInt (by decide) (opens_int Tryz.underlying3) H enc w base spare held m _ _ h2
  have h3 : DataW.trod enc Tryz.prog w base spare held m 4 ((([c0, c1, c2, c3] : List Value).drop 3).take (Tryz.prog.cellsOf 4)) = ys[3]? := hf 3 _ rfl
  rw [Tryz.cellsBool, List.getElem?_eq_getElem (show 3 < ys.length by rw [hl]; exact of_decide_eq_true rfl)] at h3
  obtain ⟨a3, e3, _⟩ := opens_bool Tryz.underlying4 H enc w base spare held m _ _ h3
  obtain rfl : c0 = .int .i64 a0 := (List.cons.inj e0).1
  obtain rfl : c1 = .string a1 := (List.cons.inj e1).1
  obtain rfl : c2 = v2 := (List.cons.inj e2).1
  obtain rfl : c3 = .bool a3 := (List.cons.inj e3).1
  exact ⟨⟨a0, a1, a2, a3⟩, ⟨c2, rfl, hr2⟩, k0, k1, k2⟩

set_option maxHeartbeats 400000 in
theorem szNode_any (x : Node) (ka : Option Addr) (kc lo hi : Nat) (left : Int) (w : World) (hr : Rd intF.shape lo hi w (.slice ka x.kids.length kc) x.kids) (hh : hi ≤ w.heap.size) (h0 : 0 ≤ left) (h1 : left ≤ 1048576) (hs : x.text.size ≤ maxLen) :
    Calls Tryz.prog 14 #[x.v ka kc, .int .i64 left] w fun e w' => e = .returned (.int .i64 (szR left (x.text.size + x.kids.length))) ∧ Below w.heap.size w w' := by
  unfold maxLen at hs
  obtain ⟨kind, text, kids, blank⟩ := x
  unfold Node.v
  simp only at hs hr ⊢
  have hba : ∀ A, Below w.heap.size w (w.alloc A) := fun A => (Below.refl _ _).alloc (Nat.le_refl _) A
  by_cases hc : left - (text.size : Int) < 0
  · have hc' := Lib.hid (show szR left (text.size + kids.length) = -1 from (szR_no (by omega)).symm)
    go_enter Tryz.func14, Tryz.ntmps14
    go_wp2
    go_ret
    exact ⟨ret_int hc'.out.symm, hba _⟩
  · go_enter Tryz.func14, Tryz.ntmps14
    go_wp2_with fail
    have hs1 := (hba (.cells #[.int .i64 kind, .string text, .slice ka kids.length kc, .bool blank] 36)).size
    refine (szIntS_any kids _ lo hi _ _ (hr.below (hba _) hh) (by omega) (by omega) (by omega)).mono ?_
    rintro e w1 ⟨rfl, hb1⟩
    rw [szR_add]
    have hb2 := (hba (.cells #[.int .i64 kind, .string text, .slice ka kids.length kc, .bool blank] 36)).trans (hb1.mono hs1)
    by_cases hz : left - (text.size + kids.length : Nat) < 0
    · have hz' := Lib.hid (szR_no hz)
      rw [show szR left (text.size + intWts kids) = -1 from hz'.out.symm]
      go_wp2
      go_ret
      exact ⟨ret_int hz'.out, hb2⟩
    · have hz' := Lib.hid (szR_yes (Int.not_lt.1 hz))
      rw [show szR left (text.size + intWts kids) = left - (text.size + kids.length : Nat) from hz'.out.symm]
      go_wp2
      go_ret
      exact ⟨ret_int hz'.out, hb2⟩
def Node.wt (x : Node) : Nat := x.text.size + x.kids.length
/-- what a list of them weighs -/
def Node.wts (xs : List Node) : Nat := xs.length + sumOf Node.wt xs
theorem Node.wts_ge (xs : List Node) : xs.length ≤ Node.wts xs := Nat.le_add_right _ _
set_option maxHeartbeats 400000 in
theorem szNodeS_any (xs : List Node) (v : Value) (lo hi : Nat) (left : Int) (w : World) (hr : Rd nodeS lo hi w v xs) (hh : hi ≤ w.heap.size) (h0 : 0 ≤ left) (h1 : left ≤ 1048576) (hs : ∀ x ∈ xs, x.text.size ≤ maxLen) :
    Calls Tryz.prog 5 #[v, .int .i64 left] w fun e w' => e = .returned (.int .i64 (szR left (Node.wts xs))) ∧ Below w.heap.size w w' := by
  have hl := hr.len_le
  obtain ⟨a, c, rfl, h2, h3, h4, h5⟩ := hr.nodeS
  unfold maxLen at h3
  unfold Node.wts
  by_cases hc : left - (xs.length : Int) < 0
  · go_enter Tryz.func5, Tryz.ntmps5
    go_wp2
    go_ret
    exact ⟨ret_int (szR_no (by omega)), (Below.refl _ _)⟩
  · go_enter Tryz.func5, Tryz.ntmps5
    go_wp2
    go_loopw [1, 5] (fun l i wr => ∃ k : Nat, k ≤ xs.length ∧ i = .int .i64 k ∧ 0 ≤ left - (xs.length + sumOf Node.wt (xs.take k) : Nat) ∧ l = .int .i64 (left - (xs.length + sumOf Node.wt (xs.take k) : Nat)) ∧ Below w.heap.size w wr) (fun _ i _ => xs.length - (intOf i).toNat)
    case atStart => exact ⟨0, Nat.zero_le _, rfl, by simp [sumOf]; omega, by simp [sumOf], Below.refl _ _⟩
    case round =>
      obtain ⟨k, hk, rfl, hp, rfl, hb⟩ := hrel
      by_cases hlt : k < xs.length
      · obtain ⟨b, off, ka, kc, rfl, hlo, hhi, c0, c1, c2, c3, hrk⟩ := h5 k hlt
        have d0 := (hb.cell (p := ⟨b, _, none⟩) (by show b < _; omega)).trans c0
        have d1 := (hb.cell (p := ⟨b, _, none⟩) (by show b < _; omega)).trans c1
        have d2 := (hb.cell (p := ⟨b, _, none⟩) (by show b < _; omega)).trans c2
        have d3 := (hb.cell (p := ⟨b, _, none⟩) (by show b < _; omega)).trans c3
        have hrk' := hrk.below hb hh
        have hsz := hb.size
        have hx := hs _ (List.getElem_mem hlt)
        have HS := Lib.hid (sumOf_succ Node.wt xs k hlt)
        have HL := Lib.hid (sumOf_le Node.wt xs (k + 1))
        have hle : (xs.length + sumOf Node.wt (xs.take k) : Nat) + (xs[k].text.size + xs[k].kids.length) = (xs.length + sumOf Node.wt (xs.take (k + 1)) : Nat) := by rw [HS.out]; show _ = _ + (_ + (xs[k].text.size + xs[k].kids.length)); omega
        have HE := Lib.hid hle
        clear hle
        have hge : (xs.length + sumOf Node.wt (xs.take (k + 1)) : Nat) ≤ xs.length + sumOf Node.wt xs := by have := HL.out; omega
        clear hrk c0 c1 c2 c3
        go_wp2_with fail
        refine (szNode_any xs[k] ka kc lo hi _ _ hrk' (by omega) hp (by omega) hx).mono ?_
        rintro e w1 ⟨rfl, hb1⟩
        rw [szR_add, HE.out]
        by_cases hz : left - (xs.length + sumOf Node.wt (xs.take (k + 1)) : Nat) < 0
        · have hz' := Lib.hid (szR_no hz)
          rw [← hz'.out]
          go_wp2
          go_ret
          exact ⟨ret_int (szR_no (by omega)), hb.trans (hb1.mono hb.size)⟩
        · have hz' := Lib.hid (szR_yes (Int.not_lt.1 hz))
          rw [← hz'.out]
          go_wp2
          go_roundw
          case rel => exact ⟨k + 1, by omega, by go_num, by omega, rfl, hb.trans (hb1.mono hb.size)⟩
          case measure => simp [intOf]; omega
      · have hkk : k = xs.length := by omega
        have HS := Lib.hid (sumOf_all Node.wt xs)
        have HK := Lib.hid hkk
        clear hkk
        go_wp2
        go_ret
        have e := HK.out
        subst e
        rw [HS.out] at hp
        exact ⟨ret_int (by rw [HS.out]; exact szR_yes hp), hb⟩

theorem own_keepFarAll {β : Type} {G : Flat β} {T' lo hi : Nat} {u' : Value} {ys : List β} {g : Nat} (hne : u'.ownBlock ≠ some g) (cs : List Value) (o : Nat) {w : World} (ho : Own G T' lo hi w u' ys) : Own G T' lo hi (storeAll g cs o w) u' ys := by
  induction cs generalizing o w with
  | nil => exact ho
  | cons c cs ih => exact ih (o + 1) (ho.keepFar hne o c)
section
variable {α : Type} {F : Flat (α × SV)} {kids : α → List Int} {T TI lo hi : Nat} {w w' : World} {v : Value} {ps : List (α × SV)}
/-- one thing is written whole, its slice in a block of its own -/
theorem FOwn.plantAll {G n c k lo' hi' : Nat} (x' : α) (s : SV) (h : FOwn F kids T TI lo hi w (.slice (some ⟨G, 0, none⟩) n c) ps) (hT : T ≠ TI) (hn : n = ps.length) (hk : k < ps.length)
    (hnew : Own intF TI lo' hi' w s.v (kids x')) (h1 : lo ≤ lo') (h2 : hi ≤ hi') (hf : ∀ g, s.v.ownBlock = some g → hi ≤ g) :
    FOwn F kids T TI lo hi' (storeAll G (F.enc (x', s)) (k * F.size) w) (.slice (some ⟨G, 0, none⟩) n c) (ps.set k (x', s)) := by
  have hG : (Value.slice (some ⟨G, 0, none⟩) n c).ownBlock = some G := rfl
  refine ⟨(h.outer.storeAll (x', s) hn hk).wide (Nat.le_refl _) h2, ?_, ?_⟩
  · intro i hi1
    have hi2 : i < ps.length := by simpa using hi1
    by_cases hki : k = i
    · subst hki
      rw [List.getElem_set_self]
      exact (own_keepFarAll (own_ne h.outer hnew hT hG) _ _ hnew).wide h1 (Nat.le_refl _)
    · rw [List.getElem_set_ne hki]
      exact (own_keepFarAll (own_ne h.outer (h.inner i hi2) hT hG) _ _ (h.inner i hi2)).wide (Nat.le_refl _) h2
  · intro p q hp hq hne g hg
    have hp' : p < ps.length := by simpa using hp
    have hq' : q < ps.length := by simpa using hq
    by_cases hkp : k = p
    · subst hkp
      rw [List.getElem_set_self] at hg
      rw [List.getElem_set_ne hne]
      intro hg2
      have := hf g hg
      have := (h.inner q hq').2 g hg2
      omega
    · rw [List.getElem_set_ne hkp] at hg
      by_cases hkq : k = q
      · subst hkq
        rw [List.getElem_set_self]
        intro hg2
        have := hf g hg2
        have := (h.inner p hp').2 g hg
        omega
      · rw [List.getElem_set_ne hkq]
        exact h.apart p q hp' hq' hne g hg
end
theorem FOwn.rdNode {T TI lo hi : Nat} {w : World} {v : Value} {ps : List (Node × SV)} (h : FOwn nodeF Node.kids T TI lo hi w v ps) : Rd nodeS lo hi w v (ps.map (·.1)) := by
  rcases h.outer.shapes with ⟨rfl, rfl⟩ | ⟨g, c, rfl, h1, h2, h3, h4⟩
  · exact Rd.nil _ _ _ _
  · have hm : (ps.map (·.1)).length = ps.length := by simp
    refine ⟨some ⟨g, 0, none⟩, c, by rw [hm], by rw [hm]; exact h3, h4, (fun e => by cases e), fun k hk => ?_⟩
    have hk' : k < ps.length := by simpa using hk
    refine ⟨g, 0, nodeF.enc ps[k], rfl, h1, h2, ⟨ps[k].2.v, by rw [List.getElem_map]; rfl, ?_⟩, fun j u hu => ?_⟩
    · rw [List.getElem_map]
      exact (h.inner k hk').rd
    · have hj : j < 4 := (List.getElem?_eq_some_iff.1 hu).1
      have := h.outer.cell (k := k) (j := j) rfl hk' hj
      show w.cell? ⟨g, 0 + k * 4 + j, none⟩ = some u
      rw [show 0 + k * 4 + j = k * nodeF.size + j by rw [Nat.zero_add]; rfl, this]
      exact hu
/-- a row of nodes of the call's own -/
def NOwn (lo hi : Nat) (w : World) (v : Value) (xs : List Node) : Prop := ∃ ps, FOwn nodeF Node.kids 38 3 lo hi w v ps ∧ ps.map (·.1) = xs
section
variable {lo hi : Nat} {w w' : World} {v : Value} {xs : List Node}
theorem NOwn.same (h : NOwn lo hi w v xs) (hs : Same lo hi w w') : NOwn lo hi w' v xs := by obtain ⟨ps, h1, h2⟩ := h; exact ⟨ps, h1.same hs, h2⟩
theorem NOwn.below {B : Nat} (h : NOwn lo hi w v xs) (hb : Below B w w') (hh : hi ≤ B) : NOwn lo hi w' v xs := h.same (.of_below hb hh)
theorem NOwn.wide {lo' hi' : Nat} (h : NOwn lo hi w v xs) (h1 : lo' ≤ lo) (h2 : hi ≤ hi') : NOwn lo' hi' w v xs := by obtain ⟨ps, k1, k2⟩ := h; exact ⟨ps, k1.wide h1 h2, k2⟩
theorem NOwn.rd (h : NOwn lo hi w v xs) : Rd nodeS lo hi w v xs := by obtain ⟨ps, h1, rfl⟩ := h; exact h1.rdNode
end
end Go.Proofs.YtoloplpmjcgbdaaGreatDoor
