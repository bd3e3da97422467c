/- Node: the law's marks upon rows of them. -/
import Derived.Test.YtoloplpmjcgbdaaGreatDoorHNodeC
import Derived.Test.YtoloplpmjcgbdaaGreatDoorMark
namespace Go.Proofs.YtoloplpmjcgbdaaGreatDoor
open Go.RowKit

/-- a row of nodes that can be marked: four cells each, the third a slice of its own -/
structure MRow (lo hi : Nat) (w : World) (G n : Nat) (ps : List SV) (ls : List Nat) : Prop where
  len : ps.length = n
  lens : ls.length = n
  low : lo ≤ G
  high : G < hi
  cell : ∀ i j, i < n → j < 4 → ∃ u, w.cell? ⟨G, i * 4 + j, none⟩ = some u
  sl : ∀ i (h : i < ps.length), w.cell? ⟨G, i * 4 + 2, none⟩ = some ps[i].v
  frz : ∀ j, w.frozen? ⟨G, j, none⟩ = false
  inner : ∀ i (h : i < ps.length) (h2 : i < ls.length), ∃ ys, Own intF 3 lo hi w ps[i].v ys ∧ ys.length = ls[i]
  far : ∀ i (h : i < ps.length), ps[i].v.ownBlock ≠ some G
  apart : ∀ i j (h1 : i < ps.length) (h2 : j < ps.length), i ≠ j → ∀ g, ps[i].v.ownBlock = some g → ps[j].v.ownBlock ≠ some g
theorem MRow.same {lo hi G n : Nat} {w w' : World} {ps : List SV} {ls : List Nat} (h : MRow lo hi w G n ps ls) (hs : Same lo hi w w') : MRow lo hi w' G n ps ls := by
  have hb := hs G h.low h.high
  refine ⟨h.len, h.lens, h.low, h.high, fun i j hi hj => ?_, fun i hi => ?_, fun j => ?_, fun i h1 h2 => ?_, h.far, h.apart⟩
  · obtain ⟨u, hu⟩ := h.cell i j hi hj
    exact ⟨u, (World.cell?_of_block hb).trans hu⟩
  · exact (World.cell?_of_block hb).trans (h.sl i hi)
  · exact (World.frozen?_of_block (a := ⟨G, j, none⟩) hb).trans (h.frz j)
  · obtain ⟨ys, ho, hl⟩ := h.inner i h1 h2
    exact ⟨ys, ho.same hs, hl⟩
theorem MRow.set {lo hi G n i j : Nat} {w : World} {ps : List SV} {ls : List Nat} (h : MRow lo hi w G n ps ls) (hi' : i < n) (hj : j < 4) (hj2 : j ≠ 2) (u : Value) : MRow lo hi (w.setCell ⟨G, i * 4 + j, none⟩ u) G n ps ls := by
  obtain ⟨u0, hu0⟩ := h.cell i j hi' hj
  refine ⟨h.len, h.lens, h.low, h.high, fun a b ha hb => ?_, fun a ha => ?_, fun b => ?_, fun a h1 h2 => ?_, h.far, h.apart⟩
  · by_cases e : a * 4 + b = i * 4 + j
    · rw [e]; exact ⟨u, World.cell?_setCell_same (w := w) (a := ⟨G, i * 4 + j, none⟩) (v := u) hu0⟩
    · obtain ⟨x, hx⟩ := h.cell a b ha hb
      exact ⟨x, (World.cell?_setCell_other _ _ _ _ (fun c => e (by injection c with _ c _; exact c.symm))).trans hx⟩
  · refine (World.cell?_setCell_other _ _ _ _ (fun c => ?_)).trans (h.sl a ha)
    injection c with _ c _
    omega
  · rw [World.frozen?_setCell]; exact h.frz b
  · obtain ⟨ys, ho, hl⟩ := h.inner a h1 h2
    exact ⟨ys, ho.keepFar (h.far a h1) _ _, hl⟩
theorem MRow.mark {lo hi G n i lo2 hi2 : Nat} {w w' : World} {ps : List SV} {ls : List Nat} (h : MRow lo hi w G n ps ls) (hi' : i < ps.length) (hi2' : i < ls.length) (hho : hi ≤ w.heap.size) (ho : Out lo2 hi2 w w') (hg : ∀ g, lo2 ≤ g → g < hi2 → ps[i].v.ownBlock = some g) {zs : List Int} (hn : Own intF 3 lo hi w' ps[i].v zs) (hl : zs.length = ls[i]) : MRow lo hi w' G n ps ls := by
  have hG : w'.heap[G]? = w.heap[G]? := ho.block G (by have := h.high; omega) (fun c => h.far i hi' (hg G c.1 c.2))
  refine ⟨h.len, h.lens, h.low, h.high, fun a b ha hb => ?_, fun a ha => ?_, fun b => ?_, fun a h1 h2 => ?_, h.far, h.apart⟩
  · obtain ⟨u, hu⟩ := h.cell a b ha hb
    exact ⟨u, (World.cell?_of_block hG).trans hu⟩
  · exact (World.cell?_of_block hG).trans (h.sl a ha)
  · exact (World.frozen?_of_block (a := ⟨G, b, none⟩) hG).trans (h.frz b)
  · by_cases e : a = i
    · subst e; exact ⟨zs, hn, hl⟩
    · obtain ⟨ys, hy, hyl⟩ := h.inner a h1 h2
      refine ⟨ys, ?_, hyl⟩
      rcases hy.shapes with ⟨e1, e2⟩ | ⟨g, c, e1, g1, g2, _, _⟩
      · rw [e1, e2]; exact Own.nil _ _ _ _ _
      · refine ⟨⟨hy.1.1, ?_⟩, hy.2⟩
        rcases hy.1.2 with hn0 | ⟨g', cap, cur, e3, hb3, hg3, rest⟩
        · exact .inl hn0
        · have hgb : ps[a].v.ownBlock = some g' := by rw [e3]; rfl
          have hlt : g' < hi := hy.2 g' hgb
          refine .inr ⟨g', cap, cur, e3, hb3, (ho.block g' (by omega) (fun c => ?_)).trans hg3, rest⟩
          exact h.apart a i h1 hi' e g' hgb (hg g' c.1 c.2)
theorem MRow.of {lo hi : Nat} {w : World} {v : Value} {xs : List Node} (h : NOwn lo hi w v xs) (hp : 0 < xs.length) : ∃ G c ps, v = .slice (some ⟨G, 0, none⟩) xs.length c ∧ xs.length ≤ c ∧ c ≤ maxLen ∧ MRow lo hi w G xs.length ps (xs.map fun x => x.kids.length) := by
  obtain ⟨qs, h1, rfl⟩ := h
  have hqp : 0 < qs.length := by simpa using hp
  rcases h1.outer.shapes with ⟨_, e⟩ | ⟨G, c, rfl, g1, g2, g3, g4⟩
  · rw [e] at hqp; exact absurd hqp (Nat.lt_irrefl _)
  · have hll : (qs.map (·.1)).length = qs.length := List.length_map ..
    refine ⟨G, c, qs.map (·.2), by rw [hll], by rw [hll]; exact g3, g4, ?_⟩
    constructor
    · rw [List.length_map, hll]
    · rw [List.length_map]
    · exact g1
    · exact g2
    · intro i j hi hj
      rw [hll] at hi
      exact ⟨_, (h1.outer.cell rfl hi hj).trans (List.getElem?_eq_getElem (by rw [nodeF.len]; exact hj))⟩
    · intro i hi
      have hi2 : i < qs.length := by simpa using hi
      rw [List.getElem_map]
      exact (h1.outer.cell (j := 2) rfl hi2 (by decide)).trans rfl
    · exact fun j => h1.outer.frozen rfl j
    · intro i h2 h3
      have hi2 : i < qs.length := by simpa using h2
      refine ⟨qs[i].1.kids, ?_, by simp⟩
      rw [List.getElem_map]
      exact h1.inner i hi2
    · intro i hi e
      have hi2 : i < qs.length := by simpa using hi
      rw [List.getElem_map] at e
      exact own_ne h1.outer (h1.inner i hi2) (by decide) rfl e
    · intro i j hi hj hne g hg
      have hi2 : i < qs.length := by simpa using hi
      have hj2 : j < qs.length := by simpa using hj
      rw [List.getElem_map] at hg ⊢
      exact h1.apart i j hi2 hj2 hne g hg
theorem sum_len_le (ls : List Nat) (k : Nat) : (ls.take k).sum ≤ ls.sum := by
  have : ls.sum = (ls.take k).sum + (ls.drop k).sum := by rw [← List.sum_append, List.take_append_drop]
  omega
theorem sum_len_succ (ls : List Nat) (k : Nat) (h : k < ls.length) : (ls.take (k + 1)).sum = (ls.take k).sum + ls[k] := by
  rw [List.take_succ_eq_append_getElem h, List.sum_append]; simp
set_option maxHeartbeats 4000000 in
set_option maxRecDepth 100000 in
theorem markNodeS_row (G n c lo hi : Nat) (ps : List SV) (ls : List Nat) (w : World) (h : MRow lo hi w G n ps ls) (hh : hi ≤ w.heap.size) (hn : n ≤ 1048576) (hs : ls.sum ≤ 1048576) (hl : ∀ i (h : i < ls.length), ls[i] ≤ 1048576) :
    Calls Tryz.prog 12 #[.slice (some ⟨G, 0, none⟩) n c, .int .i64 1] w fun e w' => (∃ z : Nat, e = .returned (.int .i64 z)) ∧ Out lo hi w w' := by
  go_enter Tryz.func12, Tryz.ntmps12
  go_wp2
  go_loopw [1, 5] (fun z i wr => ∃ (q k : Nat), q ≤ n ∧ i = .int .i64 q ∧ z = .int .i64 k ∧ 1 ≤ k ∧ k ≤ 1 + 3 * q + (ls.take q).sum ∧ Out lo hi w wr ∧ MRow lo hi wr G n ps ls) (fun _ i _ => n - (intOf i).toNat)
  case atStart => exact ⟨0, 1, Nat.zero_le _, rfl, rfl, Nat.le_refl _, by simp, Out.refl _ _ _, h⟩
  case round =>
    obtain ⟨q, k, hq, rfl, rfl, hk1, hk2, ho, hM⟩ := hrel
    have hsz := ho.size
    by_cases hlt : q < n
    · have hqi : (q : Int) < (n : Int) := by omega
      have hqz : (0 : Int) ≤ (q : Int) := by omega
      have hsl := sum_len_le ls q
      have hsl1 := sum_len_le ls (q + 1)
      have hql : q < ls.length := by rw [hM.lens]; exact hlt
      have hqp : q < ps.length := by rw [hM.len]; exact hlt
      have HSS := Lib.hid (sum_len_succ ls q hql)
      have hlq := hl q hql
      obtain ⟨u0, c0⟩ := hM.cell q 0 hlt (by decide)
      rw [Nat.add_zero] at c0
      have f0 := hM.frz (q * 4)
      have f1 := hM.frz (q * 4 + 1)
      have f3 := hM.frz (q * 4 + 3)
      have hM1 := hM.set hlt (j := 0) (by decide) (by decide) (.int .i64 (k : Int))
      have ho1 := ho.setCell (p := ⟨G, q * 4 + 0, none⟩) hM.low hM.high (.int .i64 (k : Int))
      rw [Nat.add_zero] at hM1 ho1
      go_wp2_with fail
      generalize hw1 : wr.setCell ⟨G, q * 4, none⟩ (.int .i64 (k : Int)) = w1 at *
      have hs1 : w1.heap.size = wr.heap.size := by rw [← hw1]; simp [World.setCell]
      clear hw1
      refine (markText_z ((k : Int) + 1) (k + 1) (by omega) _ (by omega) (by omega)).mono ?_
      rintro e w2 ⟨rfl, hb2⟩
      have hs2 := hb2.size
      have hM2 := hM1.same (.of_below hb2 (by omega))
      have ho2 : Out lo hi w w2 := ho1.trans (Out.of_below hb2)
      obtain ⟨u1, c1⟩ := hM2.cell q 1 hlt (by decide)
      have g1 := hM2.frz (q * 4 + 1)
      have hM3 := hM2.set hlt (j := 1) (by decide) (by decide) (.string (mt (k + 1)))
      have ho3 := ho2.setCell (p := ⟨G, q * 4 + 1, none⟩) hM2.low hM2.high (.string (mt (k + 1)))
      have sl3 := hM3.sl q hqp
      obtain ⟨ys, hy, hyl⟩ := hM3.inner q hqp hql
      clear c0 f0 f1 f3 hM hM1 hM2 ho ho1 ho2
      obtain ⟨sa, sn, sc, hsv⟩ : ∃ sa sn sc, ps[q].v = .slice sa sn sc := ⟨_, _, _, rfl⟩
      rw [hsv] at sl3 hy
      go_wp2_with fail
      generalize hw3 : w2.setCell ⟨G, q * 4 + 1, none⟩ (.string (mt (k + 1))) = w3 at *
      have hs3 : w3.heap.size = w2.heap.size := by rw [← hw3]; simp [World.setCell]
      clear hw3
      have fin : ∀ (w4 : World) (lo2 hi2 : Nat) (zs : List Int), Out lo2 hi2 w3 w4 → lo ≤ lo2 → hi2 ≤ hi → (∀ g, lo2 ≤ g → g < hi2 → ps[q].v.ownBlock = some g) → Own intF 3 lo hi w4 (.slice sa sn sc) zs → zs.length = ys.length → MRow lo hi w4 G n ps ls ∧ Out lo hi w w4 := by
        intro w4 lo2 hi2 zs h4 hl2 hh2 hg2 hz hzl
        refine ⟨hM3.mark hqp hql (by omega) h4 hg2 (by rw [hsv]; exact hz) (by omega), ho3.trans ⟨h4.os, h4.tape, h4.output, h4.size, fun b hb hn => h4.block b hb (fun c => hn ⟨by omega, by omega⟩)⟩⟩
      have FIN := Lib.hid fin
      clear fin
      have key : Calls Tryz.prog 37 #[.slice sa sn sc, .int .i64 ((k : Int) + 1 + 1)] w3 fun e w4 => e = .returned (.int .i64 ((k + 2 + 1 * ys.length : Nat) : Int)) ∧ MRow lo hi w4 G n ps ls ∧ Out lo hi w w4 := by
        rcases hy.shapes with ⟨e1, e2⟩ | ⟨g, cc, e1, g1', g2', _, _⟩
        · injection e1 with e1 e3 e4
          subst e1; subst e3; subst e4; subst e2
          refine (markIntS_z (xs := []) (lo := lo) (hi := lo) (k + 2) (by omega) (Own.nil _ _ _ _ _) (by have := hM3.low; have := hM3.high; omega) (by simp) (by omega) (by omega)).mono ?_
          rintro e w4 ⟨rfl, h4, _⟩
          exact ⟨rfl, FIN.out w4 lo lo [] h4 (Nat.le_refl _) (by have := hM3.low; have := hM3.high; omega) (fun g h1 h2 => by omega) (Own.nil _ _ _ _ _) rfl⟩
        · have hgo : ps[q].v.ownBlock = some g := by rw [hsv, e1]; rfl
          have hy1 : Own intF 3 g (g + 1) w3 (.slice sa sn sc) ys := by
            refine ⟨⟨hy.1.1, ?_⟩, fun g' hg' => by rw [← hsv, hgo] at hg'; injection hg' with hg'; omega⟩
            rcases hy.1.2 with hn0 | ⟨g', cap, cur, e3, hb3, rest⟩
            · exact .inl hn0
            · have : g = g' := by rw [← hsv] at e3; rw [e3] at hgo; exact (Option.some.inj hgo).symm
              subst this
              exact .inr ⟨g, cap, cur, e3, Nat.le_refl _, rest⟩
          refine (markIntS_z (k + 2) (by omega) hy1 (by omega) (by omega) (by omega) (by omega)).mono ?_
          rintro e w4 ⟨rfl, h4, hz⟩
          exact ⟨rfl, FIN.out w4 g (g + 1) _ h4 g1' (by omega) (fun g' h1 h2 => by rw [hgo, show g' = g by omega]) (hz.wide g1' (by omega)) (intMarks_len _ _)⟩
      refine key.mono ?_
      rintro e w4 ⟨rfl, hM4, ho4⟩
      clear key sl3 hy
      obtain ⟨u3, c3⟩ := hM4.cell q 3 hlt (by decide)
      have g3 := hM4.frz (q * 4 + 3)
      have hM5 := fun u => hM4.set hlt (j := 3) (by decide) (by decide) u
      have ho5 := fun u => ho4.setCell (p := ⟨G, q * 4 + 3, none⟩) hM4.low hM4.high u
      have hkb : k + 2 + 1 * ys.length ≤ 8388608 := by omega
      go_wp2
      go_roundw
      case rel => exact ⟨q + 1, k + 3 + ys.length, by omega, by go_num, int_eq (by omega), by omega, by have := HSS.out; omega, ho5 _, hM5 _⟩
      case measure => simp [intOf]; omega
    · have hqi : ¬ (q : Int) < (n : Int) := by omega
      go_wp2
      go_ret
      exact ⟨⟨k, rfl⟩, ho⟩
theorem kids_sum (xs : List Node) : (xs.map fun x => x.kids.length).sum ≤ sumOf Node.wt xs := by
  unfold sumOf
  induction xs with
  | nil => exact Nat.le_refl _
  | cons x xs ih =>
    simp only [List.map_cons, List.sum_cons]
    have : Node.wt x = x.text.size + x.kids.length := rfl
    omega
set_option maxHeartbeats 1000000 in
set_option maxRecDepth 100000 in
theorem markNodeS_one (xs : List Node) (v : Value) (lo hi : Nat) (w : World) (h : NOwn lo hi w v xs) (hh : hi ≤ w.heap.size) (hw : Node.wts xs ≤ 1048576) :
    Calls Tryz.prog 12 #[v, .int .i64 1] w fun e w' => (∃ z : Nat, e = .returned (.int .i64 z)) ∧ Out lo hi w w' := by
  have h1 := kids_sum xs
  have h2 := Node.wts_ge xs
  have h3 := Node.kids_le xs hw
  unfold Node.wts at hw
  by_cases hp : 0 < xs.length
  · obtain ⟨G, c, ps, rfl, _, _, hM⟩ := MRow.of h hp
    exact markNodeS_row G xs.length c lo hi ps _ w hM hh (by omega) (by omega) (fun i hi => by rw [List.getElem_map]; exact h3 _ (List.getElem_mem _))
  · obtain ⟨a, c, rfl, _⟩ := h.rd
    have hz : xs.length = 0 := by omega
    rw [hz]
    go_enter Tryz.func12, Tryz.ntmps12
    go_wp2
    go_loopw [1, 5] (fun z i wr => z = .int .i64 1 ∧ i = .int .i64 0 ∧ w = wr) (fun _ _ _ => 0)
    case atStart => exact ⟨rfl, rfl, rfl⟩
    case round =>
      obtain ⟨rfl, rfl, rfl⟩ := hrel
      go_wp2
      go_ret
      exact ⟨⟨1, rfl⟩, Out.refl _ _ _⟩
end Go.Proofs.YtoloplpmjcgbdaaGreatDoor
