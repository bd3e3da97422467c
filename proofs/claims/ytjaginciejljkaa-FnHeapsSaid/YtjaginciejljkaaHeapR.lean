/- Rows of states that a call owns; whether they are a heap. -/
import Derived.Test.YtjaginciejljkaaHeapS
import Derived.Test.YtjaginciejljkaaHeld
import Derived.StillTailTactics
namespace Go.Proofs.Ytjaginciejljkaa
open Go.RowKit

def stF : Flat (StL × SV) := ⟨2, fun p => [p.2.v, .int .i64 p.1.sum], fun _ => rfl, fun x u h => by
  simp only [List.mem_cons, List.not_mem_nil, or_false] at h
  rcases h with h | h <;> subst h <;> rfl⟩
/-- a row of states: the cells are owned, and so is the list of each -/
structure SOwn (lo hi : Nat) (w : World) (v : Value) (ps : List (StL × SV)) : Prop where
  outer : Own stF 28 lo hi w v ps
  inner : ∀ p ∈ ps, Own intF 3 lo hi w p.2.v p.1.vals
section
variable {lo hi : Nat} {w w' : World} {v : Value} {ps : List (StL × SV)}
theorem SOwn.same (h : SOwn lo hi w v ps) (hs : Same lo hi w w') : SOwn lo hi w' v ps := ⟨h.outer.same hs, fun p hp => (h.inner p hp).same hs⟩
theorem SOwn.below {B : Nat} (h : SOwn lo hi w v ps) (hb : Below B w w') (hh : hi ≤ B) : SOwn lo hi w' v ps := h.same (.of_below hb hh)
theorem SOwn.wide {lo' hi' : Nat} (h : SOwn lo hi w v ps) (h1 : lo' ≤ lo) (h2 : hi ≤ hi') : SOwn lo' hi' w v ps := ⟨h.outer.wide h1 h2, fun p hp => (h.inner p hp).wide h1 h2⟩
theorem SOwn.alloc (h : SOwn lo hi w v ps) (o : Obj) : SOwn lo hi (w.alloc o) v ps := ⟨h.outer.alloc o, fun p hp => (h.inner p hp).alloc o⟩
theorem SOwn.nil : SOwn lo hi w (.slice none 0 0) [] := ⟨Own.nil _ _ _ _ _, fun p hp => by cases hp⟩
theorem SOwn.drewN (h : SOwn lo hi w v ps) (n : Nat) : SOwn lo hi (w.drewN n) v ps := ⟨h.outer, h.inner⟩
theorem SOwn.drew (h : SOwn lo hi w v ps) : SOwn lo hi w.drew v ps := ⟨h.outer, h.inner⟩
theorem SOwn.form (h : SOwn lo hi w v ps) : ∃ a c, v = .slice a ps.length c ∧ ps.length ≤ c ∧ c ≤ maxLen := by
  obtain ⟨a, c, h1, h2, h3, _⟩ := h.outer.form
  exact ⟨a, c, h1, h2, h3⟩
/-- what lies at a place -/
theorem SOwn.at {a : Option Addr} {n c : Nat} (h : SOwn lo hi w (.slice a n c) ps) {i : Nat} (hi1 : i < ps.length) : ∃ G, a = some ⟨G, 0, none⟩ ∧ lo ≤ G ∧ G < hi ∧ n = ps.length ∧ w.cell? ⟨G, i * 2, none⟩ = some ps[i].2.v ∧ w.cell? ⟨G, i * 2 + 1, none⟩ = some (.int .i64 ps[i].1.sum) ∧ Rd intS lo hi w ps[i].2.v ps[i].1.vals := by
  rcases h.outer.shapes with ⟨e, e2⟩ | ⟨G, c', e, g1, g2, _, _⟩
  · rw [e2] at hi1; exact absurd hi1 (Nat.not_lt_zero _)
  · injection e with e1 e3 e4
    subst e1; subst e3; subst e4
    refine ⟨G, rfl, g1, g2, rfl, ?_, ?_, (h.inner _ (List.getElem_mem hi1)).rd⟩
    · exact (h.outer.cell (k := i) (j := 0) rfl hi1 (by decide)).trans rfl
    · exact (h.outer.cell (k := i) (j := 1) rfl hi1 (by decide)).trans rfl
theorem SOwn.frz {G n c : Nat} (h : SOwn lo hi w (.slice (some ⟨G, 0, none⟩) n c) ps) (hn : n = ps.length) (j : Nat) : w.frozen? ⟨G, j, none⟩ = false := h.outer.frozen hn j
/-- one place is written anew with what is in the row -/
theorem SOwn.put {G n c k : Nat} (h : SOwn lo hi w (.slice (some ⟨G, 0, none⟩) n c) ps) (hn : n = ps.length) (hk : k < ps.length) (p : StL × SV) (hp : p ∈ ps) : SOwn lo hi (storeAll G (stF.enc p) (k * 2) w) (.slice (some ⟨G, 0, none⟩) n c) (ps.set k p) := by
  have hG : (Value.slice (some ⟨G, 0, none⟩) n c).ownBlock = some G := rfl
  refine ⟨h.outer.storeAll p hn hk, fun q hq => ?_⟩
  have hin : ∀ r ∈ ps, Own intF 3 lo hi (storeAll G (stF.enc p) (k * 2) w) r.2.v r.1.vals := fun r hr => own_keepFarAll (own_ne h.outer (h.inner r hr) (by decide) hG) _ _ (h.inner r hr)
  rcases List.mem_or_eq_of_mem_set hq with h1 | h1
  · exact hin q h1
  · subst h1; exact hin q hp
theorem SOwn.take {a : Option Addr} {n c m : Nat} (h : SOwn lo hi w (.slice a n c) ps) (hm : m ≤ ps.length) (hp : 0 < ps.length) : SOwn lo hi w (.slice a m c) (ps.take m) := by
  obtain ⟨⟨h1, h2⟩, h3⟩ := h.outer
  have hml : (ps.take m).length = m := by rw [List.length_take]; omega
  refine ⟨⟨⟨by rw [Flat.cells_len], ?_⟩, fun g hg => h3 g (by cases a with | none => simp [Value.ownBlock] at hg | some ad => exact hg)⟩, fun p hq => h.inner p (List.mem_of_mem_take hq)⟩
  rcases h2 with ⟨e, e2⟩ | ⟨g, cap, cur, e, q1, q2, q3, q4, q5, q6⟩
  · omega
  · injection e with e1 e3 e4
    subst e1; subst e4
    refine .inr ⟨g, c, cur, by rw [hml], q1, q2, by omega, q4, q5, ?_⟩
    rw [hml]
    have e7 : stF.cells (ps.take m) = (stF.cells ps).take (m * stF.size) := by
      conv => rhs; rw [← List.take_append_drop m ps]
      unfold Flat.cells
      rw [List.flatMap_append]
      have hl : (List.flatMap stF.enc (ps.take m)).length = m * stF.size := by
        have := Flat.cells_len (F := stF) (xs := ps.take m)
        rw [hml] at this
        exact this
      rw [← hl, List.take_left]
    rw [e7, ← q6, List.take_take, Nat.min_eq_left (Nat.mul_le_mul_right _ hm)]
end
/-- a row that reads as states -/
def HOwn (lo hi : Nat) (w : World) (v : Value) (xs : List StL) : Prop := ∃ ps, SOwn lo hi w v ps ∧ ps.map (·.1) = xs
section
variable {lo hi : Nat} {w w' : World} {v : Value} {xs : List StL}
theorem HOwn.same (h : HOwn lo hi w v xs) (hs : Same lo hi w w') : HOwn lo hi w' v xs := by obtain ⟨ps, h1, h2⟩ := h; exact ⟨ps, h1.same hs, h2⟩
theorem HOwn.below {B : Nat} (h : HOwn lo hi w v xs) (hb : Below B w w') (hh : hi ≤ B) : HOwn lo hi w' v xs := h.same (.of_below hb hh)
theorem HOwn.wide {lo' hi' : Nat} (h : HOwn lo hi w v xs) (h1 : lo' ≤ lo) (h2 : hi ≤ hi') : HOwn lo' hi' w v xs := by obtain ⟨ps, k1, k2⟩ := h; exact ⟨ps, k1.wide h1 h2, k2⟩
theorem HOwn.form (h : HOwn lo hi w v xs) : ∃ a c, v = .slice a xs.length c ∧ xs.length ≤ c ∧ c ≤ maxLen := by
  obtain ⟨ps, h1, rfl⟩ := h
  rw [List.length_map]
  exact h1.form
theorem HOwn.at {a : Option Addr} {n c : Nat} (h : HOwn lo hi w (.slice a n c) xs) {i : Nat} (hi1 : i < xs.length) : ∃ G u, a = some ⟨G, 0, none⟩ ∧ lo ≤ G ∧ G < hi ∧ n = xs.length ∧ w.cell? ⟨G, i * 2, none⟩ = some u ∧ w.cell? ⟨G, i * 2 + 1, none⟩ = some (.int .i64 (stA xs i).sum) ∧ Rd intS lo hi w u (stA xs i).vals := by
  obtain ⟨ps, h1, rfl⟩ := h
  have hi2 : i < ps.length := by simpa using hi1
  obtain ⟨G, e, g1, g2, g3, c0, c1, hr⟩ := h1.at hi2
  have e2 : stA (ps.map (·.1)) i = ps[i].1 := by rw [← stA_at hi1, List.getElem_map]
  rw [e2, List.length_map]
  exact ⟨G, _, e, g1, g2, g3, c0, c1, hr⟩
end
theorem up_int {i : Nat} (h : 1 ≤ i) : ((i : Int) + 1).tdiv 2 - 1 = (upN i : Int) := by
  rw [Int.tdiv_eq_ediv_of_nonneg (by omega)]
  unfold upN
  omega
theorem above_any (i : Nat) (w : World) (h : 1 ≤ i) (h2 : i ≤ 4611686018427387904) : Calls Try.prog 33 #[.int .i64 i] w fun e w' => e = .returned (.int .i64 (upN i)) ∧ w' = w := by
  have HU := Lib.hid (up_int h)
  go_enter Try.func33, Try.ntmps33
  go_wp2
  go_ret
  exact ⟨by rw [← HU.out]; first | rfl | simp, rfl⟩
theorem keep4 {w w1 w2 : World} {a0 a1 a2 a3 : Addr} {u0 u1 u2 u3 : Value} (h : w1.cell? a0 = some u0 ∧ w1.cell? a1 = some u1 ∧ w1.cell? a2 = some u2 ∧ w1.cell? a3 = some u3 ∧ Below w.heap.size w w1) (hb : Below w1.heap.size w1 w2) :
    w2.cell? a0 = some u0 ∧ w2.cell? a1 = some u1 ∧ w2.cell? a2 = some u2 ∧ w2.cell? a3 = some u3 ∧ Below w.heap.size w w2 :=
  ⟨(hb.cell (World.block_lt_of_cell? w1 _ h.1)).trans h.1, (hb.cell (World.block_lt_of_cell? w1 _ h.2.1)).trans h.2.1, (hb.cell (World.block_lt_of_cell? w1 _ h.2.2.1)).trans h.2.2.1, (hb.cell (World.block_lt_of_cell? w1 _ h.2.2.2.1)).trans h.2.2.2.1, h.2.2.2.2.trans (hb.mono h.2.2.2.2.size)⟩
theorem heapL_no {l : List StL} {i : Nat} (h : i < l.length) (h0 : 0 < i) (hl : lessL (stA l i) (stA l (upN i)) = true) : heapL l = false := by
  rw [← Bool.not_eq_true, heapL_iff]
  intro c
  have := c i h h0
  unfold LeS at this
  rw [hl] at this
  cases this
theorem heapL_yes {l : List StL} (h : ∀ i, i < l.length → 0 < i → lessL (stA l i) (stA l (upN i)) = false) : heapL l = true := heapL_iff.2 fun i hi h0 => h i hi h0
set_option maxHeartbeats 2000000 in
set_option maxRecDepth 100000 in
theorem heapOk_impl (xs : List StL) (v : Value) (lo hi : Nat) (w : World) (hr : HOwn lo hi w v xs) (hh : hi ≤ w.heap.size) (hl : xs.length ≤ 1048576) :
    Calls Try.prog 14 #[v] w fun e w' => e = .returned (.bool (heapL xs)) ∧ Below w.heap.size w w' := by
  obtain ⟨a, c, rfl, h2, h3⟩ := hr.form
  unfold maxLen at h3
  have HR := Lib.hid (fun w4 (h4 : Below w.heap.size w w4) => hr.below h4 hh)
  go_enter Try.func14, Try.ntmps14
  go_wp2
  go_loopw [3] (fun i wr => ∃ k : Nat, 1 ≤ k ∧ k ≤ xs.length + 1 ∧ i = .int .i64 k ∧ Below w.heap.size w wr ∧ Hid (∀ i, i < k → i < xs.length → 0 < i → lessL (stA xs i) (stA xs (upN i)) = false)) (fun i _ => xs.length + 1 - (intOf i).toNat)
  case atStart => exact ⟨1, Nat.le_refl _, by omega, rfl, Below.refl _ _, fun i h1 _ h3 => by omega⟩
  case round =>
    obtain ⟨k, hk1, hk, rfl, hb, HA⟩ := hrel
    have hsz := hb.size
    by_cases hlt : k < xs.length
    · have hki : (k : Int) < (xs.length : Int) := by omega
      have hkz : (0 : Int) ≤ (k : Int) := by omega
      have hul := up_lt (show 0 < k by omega)
      obtain ⟨G, u, rfl, g1, g2, _, c0, c1, hru⟩ := (HR.out wr hb).at hlt
      obtain ⟨G', u', e, _, _, _, d0, d1, hru'⟩ := (HR.out wr hb).at (show upN k < xs.length by omega)
      injection e with e
      injection e with e1 _ _
      subst e1
      have HAB := Lib.hid (fun w => above_any k w hk1 (by omega))
      have HNO := Lib.hid (fun h => heapL_no (l := xs) hlt (show 0 < k by omega) h)
      have HYE : Hid (lessL (stA xs k) (stA xs (upN k)) = false → Hid (∀ i, i < k + 1 → i < xs.length → 0 < i → lessL (stA xs i) (stA xs (upN i)) = false)) := fun h i h1 h2 h3 => by
        by_cases e : i = k
        · subst e; exact h
        · exact HA.out i (by omega) h2 h3
      have HLS := Lib.hid (less_impl (w := wr.drew) (stA xs k) (stA xs (upN k)) hru (show hi ≤ wr.heap.size by omega) hru' (show hi ≤ wr.heap.size by omega))
      generalize upN k = m at *
      have hmi : (m : Int) < (xs.length : Int) := by omega
      have hmz : (0 : Int) ≤ (m : Int) := by omega
      clear hru hru'
      generalize stA xs k = x at *
      generalize stA xs m = y at *
      obtain ⟨bq, hbq⟩ : ∃ bq, Hid (lessL x y = bq) := ⟨_, rfl⟩
      rw [hbq.out] at HNO HYE HLS
      go_wp2_with fail
      refine wp_region_held_drew (S := fun w' => w'.cell? ⟨G, k * 2, none⟩ = some u ∧ w'.cell? ⟨G, k * 2 + 1, none⟩ = some (.int .i64 x.sum) ∧ w'.cell? ⟨G, m * 2, none⟩ = some u' ∧ w'.cell? ⟨G, m * 2 + 1, none⟩ = some (.int .i64 y.sum) ∧ Below w.heap.size w w') (by kernel_rfl) ?_ (fun hHeld => ?_)
      · exact ⟨c0, c1, d0, d1, hb.drew⟩
      refine wpAnyH_take (i := 0) (v := ?v1) (at_op rfl) (by kernel_rfl) (by kernel_rfl) (by kernel_rfl) (fun _ _ _ h => h) (Or.inl ⟨by rfl, ?y1⟩) (by assumption) ?r1
      case y1 =>
        intro wx hSx
        go_simp
        try with_reducible rfl
      try simp only [Act.put, List.setIfInBounds_toArray, List.set_cons_zero, List.set_cons_succ]
      refine wpAnyH_take (i := 1) (v := ?v2) (at_op rfl) (by kernel_rfl) (by kernel_rfl) (by kernel_rfl) (fun _ _ _ h => h) (Or.inl ⟨by rfl, ?y2⟩) (by assumption) ?r2
      case y2 =>
        intro wx hSx
        go_simp
        try with_reducible rfl
      try simp only [Act.put, List.setIfInBounds_toArray, List.set_cons_zero, List.set_cons_succ]
      refine wpAnyH_take (i := 2) (v := ?v3) (at_op rfl) (by kernel_rfl) (by kernel_rfl) (by kernel_rfl) (fun _ _ _ h => h) (Or.inl ⟨by rfl, ?y3⟩) (by assumption) ?r3
      case y3 =>
        intro wx hSx
        go_simp
        try with_reducible rfl
      try simp only [Act.put, List.setIfInBounds_toArray, List.set_cons_zero, List.set_cons_succ]
      refine wpAnyH_take (i := 3) (v := ?v4) (at_op rfl) (by kernel_rfl) (by kernel_rfl) (by kernel_rfl) (fun _ _ _ h => h) (Or.inl ⟨by rfl, ?y4⟩) (by assumption) ?r4
      case y4 =>
        intro wx hSx
        go_simp
        try with_reducible rfl
      try simp only [Act.put, List.setIfInBounds_toArray, List.set_cons_zero, List.set_cons_succ]
      refine wpAnyH_take (i := 4) (v := ?v5) (at_op rfl) (by kernel_rfl) (by kernel_rfl) (by kernel_rfl) (fun _ _ _ h => h) (Or.inl ⟨by rfl, ?y5⟩) (by assumption) ?r5
      case y5 =>
        intro wx hSx
        go_simp
        try with_reducible rfl
      try simp only [Act.put, List.setIfInBounds_toArray, List.set_cons_zero, List.set_cons_succ]
      refine wpAnyH_take (i := 5) (v := ?v6) (at_op rfl) (by kernel_rfl) (by kernel_rfl) (by kernel_rfl) (fun _ _ _ h => h) (Or.inl ⟨by rfl, ?y6⟩) (by assumption) ?r6
      case y6 =>
        intro wx hSx
        go_simp
        try with_reducible rfl
      try simp only [Act.put, List.setIfInBounds_toArray, List.set_cons_zero, List.set_cons_succ]
      refine wpAnyH_ready (rs := [6]) (by kernel_rfl) (by simp) ?_
      refine AllReadyH.cons (at_op rfl) (fun K hK => ?_) AllReadyH.nil
      go_simp
      refine (HAB.out _).mono ?_
      rintro e w' ⟨rfl, rfl⟩
      go_wp2_with fail
      refine hK.out _ _ hHeld (fun _ => ?_)
      clear hK K
      try simp only [Act.put, List.setIfInBounds_toArray, List.set_cons_zero, List.set_cons_succ]
      refine wpAnyH_take (i := 7) (v := ?v7) (at_op rfl) (by kernel_rfl) (by kernel_rfl) (by kernel_rfl) (fun _ _ _ h => h) (Or.inl ⟨by rfl, ?y7⟩) (by assumption) ?r7
      case y7 =>
        intro wx hSx
        go_simp
        try with_reducible rfl
      try simp only [Act.put, List.setIfInBounds_toArray, List.set_cons_zero, List.set_cons_succ]
      refine wpAnyH_take (i := 8) (v := ?v8) (at_op rfl) (by kernel_rfl) (by kernel_rfl) (by kernel_rfl) (fun _ _ _ h => h) (Or.inl ⟨by rfl, ?y8⟩) (by assumption) ?r8
      case y8 =>
        intro wx hSx
        go_simp
        try with_reducible rfl
      try simp only [Act.put, List.setIfInBounds_toArray, List.set_cons_zero, List.set_cons_succ]
      refine wpAnyH_ready (rs := [9]) (by kernel_rfl) (by simp) ?_
      refine AllReadyH.cons (at_op rfl) (fun K hK => ?_) AllReadyH.nil
      go_simp
      refine HLS.out.mono ?_
      rintro e w5 ⟨rfl, hb5⟩
      go_wp2_with fail
      refine hK.out _ _ (keep4 hHeld hb5) (fun _ => ?_)
      clear hK K
      try simp only [Act.put, List.setIfInBounds_toArray, List.set_cons_zero, List.set_cons_succ]
      refine wpAnyH_done (by kernel_rfl) ?_ _
      have hb9 : Below w.heap.size w w5 := (hb.drew).trans (hb5.mono hsz)
      cases bq with
      | true =>
        have HF := Lib.hid (HNO.out rfl)
        go_wp2
        go_ret
        exact ⟨by rw [HF.out]; rfl, hb9⟩
      | false =>
        have HF := Lib.hid (HYE.out rfl)
        go_wp2
        go_roundw
        case rel => exact ⟨k + 1, by omega, by omega, by go_num, hb9, HF.out.out⟩
        case measure => simp [intOf]; omega
    · have hki : ¬ (k : Int) < (xs.length : Int) := by omega
      have HF : Hid (heapL xs = true) := heapL_yes fun i h1 h0 => HA.out i (by omega) h1 h0
      go_wp2
      go_ret
      exact ⟨by rw [HF.out]; rfl, hb⟩
set_option maxHeartbeats 2000000 in
set_option maxRecDepth 100000 in
theorem heapOk_spec (xs : List StL) (v : Value) (lo hi : Nat) (w : World) (hr : HOwn lo hi w v xs) (hh : hi ≤ w.heap.size) (hl : xs.length ≤ 1048576) :
    Calls Try.prog 19 #[v] w fun e w' => e = .returned (.bool (heapL xs)) ∧ Below w.heap.size w w' := by
  obtain ⟨a, c, rfl, h2, h3⟩ := hr.form
  unfold maxLen at h3
  have HR := Lib.hid (fun w4 (h4 : Below w.heap.size w w4) => hr.below h4 hh)
  go_enter Try.func19, Try.ntmps19
  go_wp2
  go_loopw [3] (fun i wr => ∃ k : Nat, 1 ≤ k ∧ k ≤ xs.length + 1 ∧ i = .int .i64 k ∧ Below w.heap.size w wr ∧ Hid (∀ i, i < k → i < xs.length → 0 < i → lessL (stA xs i) (stA xs (upN i)) = false)) (fun i _ => xs.length + 1 - (intOf i).toNat)
  case atStart => exact ⟨1, Nat.le_refl _, by omega, rfl, Below.refl _ _, fun i h1 _ h3 => by omega⟩
  case round =>
    obtain ⟨k, hk1, hk, rfl, hb, HA⟩ := hrel
    have hsz := hb.size
    by_cases hlt : k < xs.length
    · have hki : (k : Int) < (xs.length : Int) := by omega
      have hkz : (0 : Int) ≤ (k : Int) := by omega
      have hul := up_lt (show 0 < k by omega)
      obtain ⟨G, u, rfl, g1, g2, _, c0, c1, hru⟩ := (HR.out wr hb).at hlt
      obtain ⟨G', u', e, _, _, _, d0, d1, hru'⟩ := (HR.out wr hb).at (show upN k < xs.length by omega)
      injection e with e
      injection e with e1 _ _
      subst e1
      have HUI := Lib.hid (up_int hk1)
      have HNO := Lib.hid (fun h => heapL_no (l := xs) hlt (show 0 < k by omega) h)
      have HYE : Hid (lessL (stA xs k) (stA xs (upN k)) = false → Hid (∀ i, i < k + 1 → i < xs.length → 0 < i → lessL (stA xs i) (stA xs (upN i)) = false)) := fun h i h1 h2 h3 => by
        by_cases e : i = k
        · subst e; exact h
        · exact HA.out i (by omega) h2 h3
      have HLS := Lib.hid (less_spec (w := wr.drew) (stA xs k) (stA xs (upN k)) hru (show hi ≤ wr.heap.size by omega) hru' (show hi ≤ wr.heap.size by omega))
      generalize upN k = m at *
      have hmi : (m : Int) < (xs.length : Int) := by omega
      have hmz : (0 : Int) ≤ (m : Int) := by omega
      clear hru hru'
      generalize stA xs k = x at *
      generalize stA xs m = y at *
      obtain ⟨bq, hbq⟩ : ∃ bq, Hid (lessL x y = bq) := ⟨_, rfl⟩
      rw [hbq.out] at HNO HYE HLS
      have e2 : IntKind.i64.wrap ((k : Int) + 1) = (k : Int) + 1 := IntWalk.i64_in _ (by omega)
      have e3 : IntKind.i64.wrap (((k : Int) + 1).tdiv 2) = (m : Int) + 1 := by have := HUI.out; rw [IntWalk.i64_in _ (by omega)]; omega
      have e5 : IntKind.i64.wrap (m : Int) = (m : Int) := IntWalk.i64_in _ (by omega)
      go_wp2_with fail
      refine wp_region_held_drew (S := fun w' => w'.cell? ⟨G, k * 2, none⟩ = some u ∧ w'.cell? ⟨G, k * 2 + 1, none⟩ = some (.int .i64 x.sum) ∧ w'.cell? ⟨G, m * 2, none⟩ = some u' ∧ w'.cell? ⟨G, m * 2 + 1, none⟩ = some (.int .i64 y.sum) ∧ Below w.heap.size w w') (by kernel_rfl) ?_ (fun hHeld => ?_)
      · exact ⟨c0, c1, d0, d1, hb.drew⟩
      refine wpAnyH_take (i := 0) (v := ?v9) (at_op rfl) (by kernel_rfl) (by kernel_rfl) (by kernel_rfl) (fun _ _ _ h => h) (Or.inl ⟨by rfl, ?y9⟩) (by assumption) ?r9
      case y9 =>
        intro wx hSx
        go_simp
        try with_reducible rfl
      try simp only [Act.put, List.setIfInBounds_toArray, List.set_cons_zero, List.set_cons_succ]
      refine wpAnyH_take (i := 1) (v := ?v10) (at_op rfl) (by kernel_rfl) (by kernel_rfl) (by kernel_rfl) (fun _ _ _ h => h) (Or.inl ⟨by rfl, ?y10⟩) (by assumption) ?r10
      case y10 =>
        intro wx hSx
        go_simp
        try with_reducible rfl
      try simp only [Act.put, List.setIfInBounds_toArray, List.set_cons_zero, List.set_cons_succ]
      refine wpAnyH_take (i := 2) (v := ?v11) (at_op rfl) (by kernel_rfl) (by kernel_rfl) (by kernel_rfl) (fun _ _ _ h => h) (Or.inl ⟨by rfl, ?y11⟩) (by assumption) ?r11
      case y11 =>
        intro wx hSx
        go_simp
        try with_reducible rfl
      try simp only [Act.put, List.setIfInBounds_toArray, List.set_cons_zero, List.set_cons_succ]
      refine wpAnyH_take (i := 3) (v := ?v12) (at_op rfl) (by kernel_rfl) (by kernel_rfl) (by kernel_rfl) (fun _ _ _ h => h) (Or.inl ⟨by rfl, ?y12⟩) (by assumption) ?r12
      case y12 =>
        intro wx hSx
        go_simp
        try with_reducible rfl
      try simp only [Act.put, List.setIfInBounds_toArray, List.set_cons_zero, List.set_cons_succ]
      refine wpAnyH_take (i := 4) (v := ?v13) (at_op rfl) (by kernel_rfl) (by kernel_rfl) (by kernel_rfl) (fun _ _ _ h => h) (Or.inl ⟨by rfl, ?y13⟩) (by assumption) ?r13
      case y13 =>
        intro wx hSx
        go_simp
        try with_reducible rfl
      try simp only [Act.put, List.setIfInBounds_toArray, List.set_cons_zero, List.set_cons_succ]
      refine wpAnyH_take (i := 5) (v := ?v14) (at_op rfl) (by kernel_rfl) (by kernel_rfl) (by kernel_rfl) (fun _ _ _ h => h) (Or.inl ⟨by rfl, ?y14⟩) (by assumption) ?r14
      case y14 =>
        intro wx hSx
        go_simp
        try with_reducible rfl
      try simp only [Act.put, List.setIfInBounds_toArray, List.set_cons_zero, List.set_cons_succ]
      refine wpAnyH_take (i := 6) (v := ?v15) (at_op rfl) (by kernel_rfl) (by kernel_rfl) (by kernel_rfl) (fun _ _ _ h => h) (Or.inl ⟨by rfl, ?y15⟩) (by assumption) ?r15
      case y15 =>
        intro wx hSx
        go_simp
        try with_reducible rfl
      try simp only [Act.put, List.setIfInBounds_toArray, List.set_cons_zero, List.set_cons_succ]
      refine wpAnyH_take (i := 7) (v := ?v16) (at_op rfl) (by kernel_rfl) (by kernel_rfl) (by kernel_rfl) (fun _ _ _ h => h) (Or.inl ⟨by rfl, ?y16⟩) (by assumption) ?r16
      case y16 =>
        intro wx hSx
        go_simp
        try with_reducible rfl
      try simp only [Act.put, List.setIfInBounds_toArray, List.set_cons_zero, List.set_cons_succ]
      refine wpAnyH_take (i := 8) (v := ?v17) (at_op rfl) (by kernel_rfl) (by kernel_rfl) (by kernel_rfl) (fun _ _ _ h => h) (Or.inl ⟨by rfl, ?y17⟩) (by assumption) ?r17
      case y17 =>
        intro wx hSx
        go_simp
        try with_reducible rfl
      try simp only [Act.put, List.setIfInBounds_toArray, List.set_cons_zero, List.set_cons_succ]
      refine wpAnyH_take (i := 9) (v := ?v18) (at_op rfl) (by kernel_rfl) (by kernel_rfl) (by kernel_rfl) (fun _ _ _ h => h) (Or.inl ⟨by rfl, ?y18⟩) (by assumption) ?r18
      case y18 =>
        intro wx hSx
        go_simp
        try with_reducible rfl
      try simp only [Act.put, List.setIfInBounds_toArray, List.set_cons_zero, List.set_cons_succ]
      refine wpAnyH_take (i := 10) (v := ?v19) (at_op rfl) (by kernel_rfl) (by kernel_rfl) (by kernel_rfl) (fun _ _ _ h => h) (Or.inl ⟨by rfl, ?y19⟩) (by assumption) ?r19
      case y19 =>
        intro wx hSx
        go_simp
        try with_reducible rfl
      try simp only [Act.put, List.setIfInBounds_toArray, List.set_cons_zero, List.set_cons_succ]
      refine wpAnyH_ready (rs := [11]) (by kernel_rfl) (by simp) ?_
      refine AllReadyH.cons (at_op rfl) (fun K hK => ?_) AllReadyH.nil
      go_simp
      refine HLS.out.mono ?_
      rintro e w5 ⟨rfl, hb5⟩
      go_wp2_with fail
      refine hK.out _ _ (keep4 hHeld hb5) (fun _ => ?_)
      clear hK K
      try simp only [Act.put, List.setIfInBounds_toArray, List.set_cons_zero, List.set_cons_succ]
      refine wpAnyH_done (by kernel_rfl) ?_ _
      have hb9 : Below w.heap.size w w5 := (hb.drew).trans (hb5.mono hsz)
      cases bq with
      | true =>
        have HF := Lib.hid (HNO.out rfl)
        go_wp2
        go_ret
        exact ⟨by rw [HF.out]; rfl, hb9⟩
      | false =>
        have HF := Lib.hid (HYE.out rfl)
        go_wp2
        go_roundw
        case rel => exact ⟨k + 1, by omega, by omega, by go_num, hb9, HF.out.out⟩
        case measure => simp [intOf]; omega
    · have hki : ¬ (k : Int) < (xs.length : Int) := by omega
      have HF : Hid (heapL xs = true) := heapL_yes fun i h1 h0 => HA.out i (by omega) h1 h0
      go_wp2
      go_ret
      exact ⟨by rw [HF.out]; rfl, hb⟩
end Go.Proofs.Ytjaginciejljkaa
