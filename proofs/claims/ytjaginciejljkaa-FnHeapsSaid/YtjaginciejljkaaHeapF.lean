/- Pushed of the reference. -/
import Derived.Test.YtjaginciejljkaaHeapE
namespace Go.Proofs.Ytjaginciejljkaa
open Go.RowKit

section
variable {α : Type} {P : Program} {F : Flat α} {T : TypeId} {B : Nat} {hi : Nat} {w : World} {ops : Array Oper} {rest : List Oper} {o : Oper} {a : Act} {Q : Exit → Act → World → Prop} {v : Value} {xs : List α}
theorem same_grown {lo hi : Nat} {w w' : World} {row : Option Nat} (hg : w.grownBy w' row) (hh : hi ≤ w.heap.size) (hr : ∀ k, lo ≤ k → k < hi → row ≠ some k) : Same lo hi w w' := fun b h1 h2 => hg.block b (by omega) (Ne.symm (hr b h1 h2))
/-- 'out = append(out, ys...)', and nothing but out's own block turns -/
theorem wp_appAllg (hgd : o.guard = none) (s x : Operand) (t : TypeId) (ho : o.op = .call { callee := .builtin .append, args := #[s, x], argTypes := #[t, t] })
    {i : TypeInfo} {z : Value} {bytes : Nat} (ht : P.underlying t = some (.slice T)) (hi0 : P.info? T = some i) (hz : i.zero = some z) (hsize : i.size = F.size) (hby : i.bytes = bytes) (hzs : z.cells.size = F.size) (hsz : 0 < F.size)
    (hs : a.eval s = v) (hO : Own F T B hi w v xs) {u : Value} {ys : List α} {lo' hi' : Nat} (hx : a.eval x = u) (hr : Rd F.shape lo' hi' w u ys)
    (hbytes : (xs.length + ys.length) * bytes ≤ 140737488355328) (h63 : xs.length + ys.length ≤ 1000000000000) (hbase : B ≤ w.heap.size)
    (h : ∀ v' w', Own F T B w'.heap.size w' v' (xs ++ ys) → Below B w w' → w.grownBy w' v.ownBlock → wpList P ops Q rest (a.put o.dst v') w') : wpList P ops Q (o :: rest) a w := by
  obtain ⟨ao, c, rfl, h2, h3, h4, h5⟩ := hr
  cases ao with
  | none =>
    have hc := h4 rfl
    have hy : ys = [] := List.eq_nil_of_length_eq_zero (by omega)
    subst hy
    subst hc
    refine wpList_append_own_none (w := w) hgd s x t ho B T i F.size ht hi0 v xs.length (F.cells xs) hs hO.1 hx ?_
    have hv := h v w (by rw [List.append_nil]; exact hO.up) (Below.refl _ _) (World.grownBy.refl _ _)
    exact hv
  | some ad =>
    refine wpList_append_own w hgd s x t ho B T i z F.size bytes ht hi0 hz hsize hby hzs hsz v xs.length (F.cells xs) hs hO.1 ad ys.length c (F.cells ys) hx Flat.cells_len ?_ Flat.cells_oneCell ?_ hbytes hbase ?_
    · intro j q hq
      have hj : j < ys.length * F.size := by
        have := (List.getElem?_eq_some_iff.1 hq).1
        rwa [Flat.cells_len] at this
      have hk : j / F.size < ys.length := Nat.div_lt_of_lt_mul (by rw [Nat.mul_comm]; exact hj)
      have hm : j % F.size < F.size := Nat.mod_lt _ hsz
      have e : j = j / F.size * F.size + j % F.size := by rw [Nat.mul_comm]; exact (Nat.div_add_mod j F.size).symm
      obtain ⟨b, off, cs, e1, _, _, rfl, e5⟩ := h5 _ hk
      obtain rfl := Option.some.inj e1
      have h6 := e5 (j % F.size) q (by
        rw [e, Flat.cells_at hk hm] at hq
        exact hq)
      rw [Addr.add_lit]
      have e2 : off + j / F.size * F.shape.size + j % F.size = off + j := by
        show off + j / F.size * F.size + j % F.size = off + j
        omega
      rwa [e2] at h6
    · unfold maxLen; omega
    · intro v' w' h1 h2 _
      exact h v' w' (Own.of_row h1 (by simp) Flat.cells_append.symm (Nat.le_refl _)) (grown_below h2 (fun g hg => (hO.1.lt g hg).1) hbase) h2
end
set_option maxHeartbeats 2000000 in
set_option maxRecDepth 100000 in
theorem pushed_spec (xs : List StL) (x : StL) (v u : Value) (lo hi lo' hi' : Nat) (w : World) (hr : HOwn lo hi w v xs) (hh : hi ≤ w.heap.size) (hx : Rd intS lo' hi' w u x.vals) (hh' : hi' ≤ w.heap.size) (hl : xs.length ≤ 1048576) (hz : ∀ x ∈ xs, x.vals.length ≤ 1048576) (hxl : x.vals.length ≤ 1048576) :
    Calls Try.prog 16 #[v, .agg #[u, .int .i64 x.sum]] w fun e w' => ∃ u', e = .returned u' ∧ HOwn w.heap.size w'.heap.size w' u' (pushL xs x) ∧ Below w.heap.size w w' := by
  obtain ⟨a, c, rfl, h2, h3⟩ := hr.form
  unfold maxLen at h3
  obtain ⟨ua, uc, rfl⟩ := hx.sl
  go_enter Try.func16, Try.ntmps16
  go_wp2_with fail
  have hA := heap_alloc_new w (.cells #[.slice ua x.vals.length uc, .int .i64 x.sum] 28)
  have hb1 : Below w.heap.size w (w.alloc (.cells #[.slice ua x.vals.length uc, .int .i64 x.sum] 28)) := (Below.refl _ _).alloc (Nat.le_refl _) _
  have hs1 : w.heap.size < (w.alloc (.cells #[.slice ua x.vals.length uc, .int .i64 x.sum] 28)).heap.size := by simp
  generalize w.alloc (.cells #[.slice ua x.vals.length uc, .int .i64 x.sum] 28) = w1 at *
  have c0 : w1.cell? ⟨w.heap.size, 0, none⟩ = some (.slice ua x.vals.length uc) := cell_heap0 hA rfl
  have c1 : w1.cell? ⟨w.heap.size, 1, none⟩ = some (.int .i64 x.sum) := cell_heap0 hA rfl
  have HCS := Lib.hid (fun w4 (h4 : Below w1.drew.heap.size w1.drew w4) => l11Copy_spec xs _ lo hi w4 (hr.below (hb1.drew.trans (h4.mono (show w.heap.size ≤ w1.heap.size by omega))) hh) (Nat.le_trans (show hi ≤ w1.heap.size by omega) h4.size) hl hz)
  obtain ⟨j0, hj0, hy0, hy1, hy2⟩ := info_parts Try.infoInt1
  have HRV := Lib.hid (fun w4 (h4 : Below w1.drew.heap.size w1.drew w4) => (hx.below (hb1.drew.trans (h4.mono (show w.heap.size ≤ w1.heap.size by omega))) hh'))
  have hwd : w.heap.size < w1.drew.heap.size ∧ (⟨w.heap.size, 0, none⟩ : Addr).block = w.heap.size ∧ (⟨w.heap.size, 1, none⟩ : Addr).block = w.heap.size := ⟨hs1, rfl, rfl⟩
  have hbd := hb1.drew
  clear hA hb1 hs1
  refine wp_region_held_drew (S := fun w' => w'.cell? ⟨w.heap.size, 0, none⟩ = some (.slice ua x.vals.length uc) ∧ w'.cell? ⟨w.heap.size, 1, none⟩ = some (.int .i64 x.sum)) (by kernel_rfl) ?_ (fun hHeld => ?_)
  · exact ⟨c0, c1⟩
  generalize w1.drew = wd at *
  refine wpAnyH_take (i := 0) (v := ?v1) (at_op rfl) (by kernel_rfl) (by kernel_rfl) (by kernel_rfl) (fun _ _ _ h => h) (Or.inl ⟨by rfl, ?y1⟩) (by assumption) ?r1
  case y1 =>
    intro wx hSx
    go_simp
    try with_reducible rfl
  try simp only [Act.put, List.setIfInBounds_toArray, List.set_cons_zero, List.set_cons_succ]
  refine wpAnyH_take (i := 3) (v := ?v2) (at_op rfl) (by kernel_rfl) (by kernel_rfl) (by kernel_rfl) (fun _ _ _ h => h) (Or.inl ⟨by rfl, ?y2⟩) (by assumption) ?r2
  case y2 =>
    intro wx hSx
    go_simp
    try with_reducible rfl
  try simp only [Act.put, List.setIfInBounds_toArray, List.set_cons_zero, List.set_cons_succ]
  refine wpAnyH_take (i := 4) (v := ?v3) (at_op rfl) (by kernel_rfl) (by kernel_rfl) (by kernel_rfl) (fun _ _ _ h => h) (Or.inl ⟨by rfl, ?y3⟩) (by assumption) ?r3
  case y3 =>
    intro wx hSx
    go_simp
    try with_reducible rfl
  try simp only [Act.put, List.setIfInBounds_toArray, List.set_cons_zero, List.set_cons_succ]
  refine wpAnyH_take (i := 6) (v := ?v4) (at_op rfl) (by kernel_rfl) (by kernel_rfl) (by kernel_rfl) (fun _ _ _ h => h) (Or.inl ⟨by rfl, ?y4⟩) (by assumption) ?r4
  case y4 =>
    intro wx hSx
    go_simp
    try with_reducible rfl
  try simp only [Act.put, List.setIfInBounds_toArray, List.set_cons_zero, List.set_cons_succ]
  refine wpAnyH_take (i := 7) (v := ?v5) (at_op rfl) (by kernel_rfl) (by kernel_rfl) (by kernel_rfl) (fun _ _ _ h => h) (Or.inl ⟨by rfl, ?y5⟩) (by assumption) ?r5
  case y5 =>
    intro wx hSx
    go_simp
    try with_reducible rfl
  try simp only [Act.put, List.setIfInBounds_toArray, List.set_cons_zero, List.set_cons_succ]
  refine wpAnyH_ready (rs := [1, 2]) (by kernel_rfl) (by simp) ?_
  refine AllReadyH.cons (at_op rfl) (fun K hK => ?_) (AllReadyH.cons (at_op rfl) (fun K hK => ?_) AllReadyH.nil)
  · go_simp
    refine (HCS.out wd (Below.refl _ _)).mono ?_
    rintro e w2 ⟨u2, rfl, hH2, hb2⟩
    have hs2 := hb2.size
    have hk2 := keepC hHeld hb2
    go_wp2_with fail
    refine hK.out _ _ hk2 (fun _ => ?_)
    clear hK K
    try simp only [Act.put, List.setIfInBounds_toArray, List.set_cons_zero, List.set_cons_succ]
    refine wpAnyH_ready (rs := [2]) (by kernel_rfl) (by simp) ?_
    refine AllReadyH.cons (at_op rfl) (fun K hK => ?_) AllReadyH.nil
    go_simp
    have hbE : Below w2.heap.size w2 (w2.alloc (.cells #[] 3)) := (Below.refl _ _).alloc (Nat.le_refl _) _
    have hkE := keepC hk2 hbE
    have hOE := Own.empty intF 3 w2.heap.size w2 (Nat.le_refl _)
    have hsE : w2.heap.size ≤ (w2.alloc (.cells #[] 3)).heap.size := hbE.size
    refine hK.out _ _ hkE (fun _ => ?_)
    clear hK K
    try simp only [Act.put, List.setIfInBounds_toArray, List.set_cons_zero, List.set_cons_succ]
    refine wpAnyH_ready (rs := [5]) (by kernel_rfl) (by simp) ?_
    refine ready_list (at_op rfl) (fun K hK => ?_)
    refine wp_appAllg (F := intF) (P := Try.prog) (ys := x.vals) (lo' := lo') (hi' := hi') rfl (.tmp 7) (.tmp 9) 26 rfl Try.underlying26 hj0 hy0 hy1 hy2 rfl (by decide) rfl hOE rfl (HRV.out _ (hb2.trans (hbE.mono hs2))) (by simp; omega) (by simp; omega) hsE ?_
    intro v7 w3 hO3 hb7 hg7
    rw [List.nil_append] at hO3
    obtain ⟨sa, sc, rfl, -, -, -⟩ := hO3.form
    have hb3 : Below w2.heap.size w2 w3 := hbE.trans hb7
    have hs3 := hb3.size
    have hk3 := keepC hk2 hb3
    obtain ⟨qs, hS2, hq2⟩ := hH2
    have hS3 := ((hS2.below hb3 (Nat.le_refl _)).wide (lo' := wd.heap.size) (hi' := w3.heap.size) (Nat.le_refl _) hs3)
    have hO4 := hO3.wide (lo' := wd.heap.size) (hi' := w3.heap.size) hs2 (Nat.le_refl _)
    have hbT : Below wd.heap.size wd w3 := hb2.trans (hb3.mono hs2)
    refine hK.out _ _ hk3 (fun _ => ?_)
    clear hK K
    try simp only [Act.put, List.setIfInBounds_toArray, List.set_cons_zero, List.set_cons_succ]
    refine wpAnyH_take (i := 8) (v := ?v6) (at_op rfl) (by kernel_rfl) (by kernel_rfl) (by kernel_rfl) (fun _ _ _ h => h) (Or.inl ⟨by rfl, ?y6⟩) (by assumption) ?r6
    case y6 =>
      intro wx hSx
      go_simp
      try with_reducible rfl
    try simp only [Act.put, List.setIfInBounds_toArray, List.set_cons_zero, List.set_cons_succ]
    refine wpAnyH_ready (rs := [9]) (by kernel_rfl) (by simp) ?_
    refine AllReadyH.cons (at_op rfl) (fun K hK => ?_) AllReadyH.nil
    go_simp
    refine (push_spec qs ((x, ((sa, x.vals.length, sc) : SV)) : StL × SV) u2 wd.heap.size w3.heap.size w3 hS3 hO4 hbT.size (Nat.le_refl _) (by have e := congrArg List.length hq2; rw [List.length_map] at e; omega)).mono ?_
    rintro e w4 ⟨u4, rfl, hH4, hb4⟩
    have hk4 := keepF (C := w.heap.size) hk3 hb4 ⟨hwd.1, rfl, rfl⟩
    go_wp2_with fail
    refine hK.out _ _ hk4 (fun _ => ?_)
    clear hK K
    try simp only [Act.put, List.setIfInBounds_toArray, List.set_cons_zero, List.set_cons_succ]
    refine wpAnyH_take (i := 10) (v := ?v7) (at_op rfl) (by kernel_rfl) (by kernel_rfl) (by kernel_rfl) (fun _ _ _ h => h) (Or.inl ⟨by rfl, ?y7⟩) (by assumption) ?r7
    case y7 =>
      intro wx hSx
      go_simp
      try with_reducible rfl
    try simp only [Act.put, List.setIfInBounds_toArray, List.set_cons_zero, List.set_cons_succ]
    refine wpAnyH_done (by kernel_rfl) ?_ _
    go_wp2
    go_ret
    have HP : HOwn w.heap.size w4.heap.size w4 u4 (pushL xs x) := by
      have e := hH4.wide (lo' := w.heap.size) (by omega) (Nat.le_refl _)
      rwa [hq2] at e
    exact ⟨_, rfl, HP, hbd.trans ((hbT.mono (by omega)).trans (hb4.mono (by omega)))⟩
  · go_simp
    have hbE : Below wd.heap.size wd (wd.alloc (.cells #[] 3)) := (Below.refl _ _).alloc (Nat.le_refl _) _
    have hkE := keepC hHeld hbE
    have hOE := Own.empty intF 3 wd.heap.size wd (Nat.le_refl _)
    have hsE : wd.heap.size < (wd.alloc (.cells #[] 3)).heap.size := by simp
    refine hK.out _ _ hkE (fun _ => ?_)
    clear hK K
    try simp only [Act.put, List.setIfInBounds_toArray, List.set_cons_zero, List.set_cons_succ]
    refine wpAnyH_ready (rs := [1]) (by kernel_rfl) (by simp) ?_
    refine AllReadyH.cons (at_op rfl) (fun K hK => ?_) AllReadyH.nil
    go_simp
    refine (HCS.out _ hbE).mono ?_
    rintro e w2 ⟨u2, rfl, hH2, hb2⟩
    generalize wd.alloc (.cells #[] 3) = wE at *
    have hs2 := hb2.size
    have hk2 := keepC hkE hb2
    go_wp2_with fail
    refine hK.out _ _ hk2 (fun _ => ?_)
    clear hK K
    try simp only [Act.put, List.setIfInBounds_toArray, List.set_cons_zero, List.set_cons_succ]
    refine wpAnyH_ready (rs := [5]) (by kernel_rfl) (by simp) ?_
    refine ready_list (at_op rfl) (fun K hK => ?_)
    refine wp_appAllg (F := intF) (P := Try.prog) (ys := x.vals) (lo' := lo') (hi' := hi') rfl (.tmp 7) (.tmp 9) 26 rfl Try.underlying26 hj0 hy0 hy1 hy2 rfl (by decide) rfl (hOE.same (.of_below hb2 (Nat.le_refl _))) rfl (HRV.out _ (hbE.trans (hb2.mono (Nat.le_of_lt hsE)))) (by simp; omega) (by simp; omega) (Nat.le_trans (Nat.le_of_lt hsE) hs2) ?_
    intro v7 w3 hO3 hb7 hg7
    rw [List.nil_append] at hO3
    obtain ⟨sa, sc, rfl, -, -, -⟩ := hO3.form
    have hs3 := hb7.size
    have hk3 := keepE hk2 hg7 (fun e => absurd (show wd.heap.size = w.heap.size from Option.some.inj e) (Nat.ne_of_gt hwd.1))
    obtain ⟨qs, hS2, hq2⟩ := hH2
    have hS3 := ((hS2.same (same_grown hg7 (Nat.le_refl _) (fun k h1 h2 e => by have e1 : wd.heap.size = k := Option.some.inj e; omega))).wide (lo' := wd.heap.size) (hi' := w3.heap.size) (Nat.le_of_lt hsE) hs3)
    have hO4 := hO3
    have hbT : Below wd.heap.size wd w3 := (hbE.trans (hb2.mono (Nat.le_of_lt hsE))).trans hb7
    refine hK.out _ _ hk3 (fun _ => ?_)
    clear hK K
    try simp only [Act.put, List.setIfInBounds_toArray, List.set_cons_zero, List.set_cons_succ]
    refine wpAnyH_take (i := 8) (v := ?v8) (at_op rfl) (by kernel_rfl) (by kernel_rfl) (by kernel_rfl) (fun _ _ _ h => h) (Or.inl ⟨by rfl, ?y8⟩) (by assumption) ?r8
    case y8 =>
      intro wx hSx
      go_simp
      try with_reducible rfl
    try simp only [Act.put, List.setIfInBounds_toArray, List.set_cons_zero, List.set_cons_succ]
    refine wpAnyH_ready (rs := [9]) (by kernel_rfl) (by simp) ?_
    refine AllReadyH.cons (at_op rfl) (fun K hK => ?_) AllReadyH.nil
    go_simp
    refine (push_spec qs ((x, ((sa, x.vals.length, sc) : SV)) : StL × SV) u2 wd.heap.size w3.heap.size w3 hS3 hO4 hbT.size (Nat.le_refl _) (by have e := congrArg List.length hq2; rw [List.length_map] at e; omega)).mono ?_
    rintro e w4 ⟨u4, rfl, hH4, hb4⟩
    have hk4 := keepF (C := w.heap.size) hk3 hb4 ⟨hwd.1, rfl, rfl⟩
    go_wp2_with fail
    refine hK.out _ _ hk4 (fun _ => ?_)
    clear hK K
    try simp only [Act.put, List.setIfInBounds_toArray, List.set_cons_zero, List.set_cons_succ]
    refine wpAnyH_take (i := 10) (v := ?v9) (at_op rfl) (by kernel_rfl) (by kernel_rfl) (by kernel_rfl) (fun _ _ _ h => h) (Or.inl ⟨by rfl, ?y9⟩) (by assumption) ?r9
    case y9 =>
      intro wx hSx
      go_simp
      try with_reducible rfl
    try simp only [Act.put, List.setIfInBounds_toArray, List.set_cons_zero, List.set_cons_succ]
    refine wpAnyH_done (by kernel_rfl) ?_ _
    go_wp2
    go_ret
    have HP : HOwn w.heap.size w4.heap.size w4 u4 (pushL xs x) := by
      have e := hH4.wide (lo' := w.heap.size) (by omega) (Nat.le_refl _)
      rwa [hq2] at e
    exact ⟨_, rfl, HP, hbd.trans ((hbT.mono (by omega)).trans (hb4.mono (by omega)))⟩
end Go.Proofs.Ytjaginciejljkaa
