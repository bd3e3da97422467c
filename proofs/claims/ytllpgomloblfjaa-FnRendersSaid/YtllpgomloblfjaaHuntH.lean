/- The first state taken out of a row of the call's own, of the program. -/
import Derived.Test.YtllpgomloblfjaaHuntV
import Derived.Lib.SlicesS
import Derived.Deep.Cut
import Derived.BigRegion
namespace Go.Proofs.Ytllpgomloblfjaa
open Go.RowKit
theorem Try.infoInt1 : (Try.prog.info? 3).map (fun i => (i.zero, i.size, i.bytes)) = some (some (.int .i64 0), 1, 8) := by kernel_rfl
set_option maxHeartbeats 400000 in
theorem cloneInt_any {xs : List Int} {v : Value} {lo hi : Nat} {w : World} (hr : Rd intS lo hi w v xs) (hh : hi ≤ w.heap.size) (hl : xs.length ≤ 1048576) :
    Calls Try.prog 130 #[v] w fun e w' => ∃ u, e = .returned u ∧ Below w.heap.size w w' ∧ Own intF 3 w.heap.size w'.heap.size w' u xs := by
  obtain ⟨i0, hi0, hz0, hz1, hz2⟩ := info_parts Try.infoInt1
  obtain ⟨a, c, rfl, h2, h3, h4, h5⟩ := id hr
  have hne := fun (w : World) (a : Option Addr) (n c : Nat) => Lib.run_eql_slice_nil (P := Try.prog) w 32 3 a n c 0 0 Try.underlying32
  cases a with
  | none =>
    obtain rfl := h4 rfl
    have hx : xs = [] := List.eq_nil_of_length_eq_zero (by omega)
    subst hx
    go_enter Try.func130, Try.ntmps130
    go_wp2
    go_ret
    exact ⟨_, rfl, Below.refl _ _, Own.nil _ _ _ _ _⟩
  | some ad =>
    go_enter Try.func130, Try.ntmps130
    go_wp2_with (at_builtin; refine wp_appAll (F := intF) (P := Try.prog) (ys := xs) (lo' := lo) (hi' := hi) rfl (.tmp 5) (.tmp 6) 32 rfl Try.underlying32 hi0 hz0 hz1 hz2 rfl (by decide) rfl (Own.empty intF 3 w.heap.size w (Nat.le_refl _)) rfl (hr.below ((Below.refl w.heap.size w).alloc (Nat.le_refl _) _) hh) (by simp; omega) (by simp; omega) (by simp) ?_; intro v' w' hO' hb')
    go_ret
    exact ⟨_, rfl, blw_al1 hb' (Nat.le_refl _), hO'⟩
theorem keepC {w5 w6 : World} {a0 a1 : Addr} {u0 u1 : Value} (h : w5.cell? a0 = some u0 ∧ w5.cell? a1 = some u1) (hb : Below w5.heap.size w5 w6) : w6.cell? a0 = some u0 ∧ w6.cell? a1 = some u1 :=
  ⟨(hb.cell (World.block_lt_of_cell? w5 _ h.1)).trans h.1, (hb.cell (World.block_lt_of_cell? w5 _ h.2)).trans h.2⟩
theorem take_stA {xs : List StL} {k : Nat} (h : k < xs.length) : xs.take (k + 1) = xs.take k ++ [stA xs k] := by
  rw [List.take_succ_eq_append_getElem h, stA_at h]
def Qx (K : Act → World → Prop) (Q : Exit → Act → World → Prop) : Exit → Act → World → Prop
  | .normal, a, w => K a w
  | .panic c, a, w => Q (.panic c) a w
  | .outgrown, a, w => Q .outgrown a w
  | e, a, w => Q e a w
theorem upon_x {P : Program} {ops : Array Oper} {o : Oper} {a : Act} {K : Act → World → Prop} {Q : Exit → Act → World → Prop} {r : Result Next}
    (h : o.upon P a (wpList P ops (Qx K Q) []) (Qx K Q) r) : o.upon P a K Q r := by
  cases r with
  | ok n w' => cases n <;> exact h
  | halt x w' => cases x <;> exact h
/-- an operation of a drawn region that is carried out by a law on lists of operations -/
theorem ready_list {P : Program} {md : Region.Mode} {ops : Array Oper} {Q : Exit → Act → World → Prop} {S : World → Prop} {fuel : Nat} {listed : Array Bool} {a : Act} {w : World} {i : Nat} {o : Oper} (ho : ops[i]? = some o)
    (h : ∀ K : Act → World → Prop, Shut (∀ a w, S w → (S w → wpAnyH P md ops Q S fuel (listed.setIfInBounds i true) a w) → K a w) → wpList P ops (Qx K Q) [o] a w) : AllReadyH P md ops Q S fuel listed a w [i] := by
  intro j hj
  obtain rfl : j = i := by simpa using hj
  have h' := h (fun a' w' => S w' ∧ wpAnyH P md ops Q S fuel (listed.setIfInBounds j true) a' w') (fun a w hS hW => ⟨hS, hW hS⟩)
  unfold wpOp
  rw [ho]
  rw [wpList] at h'
  show if Region.wanted o (yielded ops a.tmps) = true then _ else _
  split
  · rename_i hw
    rw [if_pos hw] at h'
    rcases h' with h' | h'
    · exact .inl (upon_x h')
    · exact .inr h'
  · rename_i hw
    rw [if_neg hw] at h'
    exact h'
theorem keepE {w w' : World} {G i j : Nat} {u0 u1 : Value} {row : Option Nat} (h : w.cell? ⟨G, i, none⟩ = some u0 ∧ w.cell? ⟨G, j, none⟩ = some u1) (hg : w.grownBy w' row) (hne : row ≠ some G) : w'.cell? ⟨G, i, none⟩ = some u0 ∧ w'.cell? ⟨G, j, none⟩ = some u1 := by
  have hb := hg.block G (World.block_lt_of_cell? w _ h.1) (Ne.symm hne)
  exact ⟨(World.cell?_of_block (a := ⟨G, i, none⟩) hb).trans h.1, (World.cell?_of_block (a := ⟨G, j, none⟩) hb).trans h.2⟩
theorem keepF {w w' : World} {a0 a1 : Addr} {u0 u1 : Value} {B C : Nat} (h : w.cell? a0 = some u0 ∧ w.cell? a1 = some u1) (hb : Below B w w') (hB : C < B ∧ a0.block = C ∧ a1.block = C) : w'.cell? a0 = some u0 ∧ w'.cell? a1 = some u1 :=
  ⟨(hb.cell (by omega)).trans h.1, (hb.cell (by omega)).trans h.2⟩
section
variable {α : Type} {P : Program} {F : Flat α} {T : TypeId} {B : Nat} {hi : Nat} {w : World} {ops : Array Oper} {rest : List Oper} {o : Oper} {a : Act} {Q : Exit → Act → World → Prop} {v : Value} {xs : List α}
theorem same_grown {lo hi : Nat} {w w' : World} {row : Option Nat} (hg : w.grownBy w' row) (hh : hi ≤ w.heap.size) (hr : ∀ k, lo ≤ k → k < hi → row ≠ some k) : Same lo hi w w' := fun b h1 h2 => hg.block b (by omega) (Ne.symm (hr b h1 h2))
/-- 'out = append(out, ys...)', and nothing but out's own block turns -/
theorem wp_appAllg (hgd : o.guard = none) (s x : Operand) (t : TypeId) (ho : o.op = .call { callee := .builtin .append, args := #[s, x], argTypes := #[t, t] })
    {i : TypeInfo} {z : Value} {bytes : Nat} (ht : P.underlying t = some (.slice T)) (hi0 : P.info? T = some i) (hz : i.zero = some z) (hsize : i.size = F.size) (hby : i.bytes = bytes) (hzs : z.cells.size = F.size) (hsz : 0 < F.size)
    (hs : a.eval s = v) (hO : Own F T B hi w v xs) {u : Value} {ys : List α} {lo' hi' : Nat} (hx : a.eval x = u) (hr : Rd F.shape lo' hi' w u ys)
    (hbytes : (xs.length + ys.length) * bytes ≤ 140737488355328) (h63 : xs.length + ys.length ≤ 1000000000000) (hbase : B ≤ w.heap.size)
    (h : ∀ v' w', Own F T B w'.heap.size w' v' (xs ++ ys) → Below B w w' → w.grownBy w' v.ownBlock → wpList P ops Q rest (a.put o.dst v') w') : wpList P ops Q (o :: rest) a w := by
  obtain ⟨ao, c, rfl, h2, h3, h4, h5⟩ := hr
  cases ao with
  | none =>
    have hc := h4 rfl
    have hy : ys = [] := List.eq_nil_of_length_eq_zero (by omega)
    subst hy
    subst hc
    refine wpList_append_own_none (w := w) hgd s x t ho B T i F.size ht hi0 v xs.length (F.cells xs) hs hO.1 hx ?_
    have hv := h v w (by rw [List.append_nil]; exact hO.up) (Below.refl _ _) (World.grownBy.refl _ _)
    exact hv
  | some ad =>
    refine wpList_append_own w hgd s x t ho B T i z F.size bytes ht hi0 hz hsize hby hzs hsz v xs.length (F.cells xs) hs hO.1 ad ys.length c (F.cells ys) hx Flat.cells_len ?_ Flat.cells_oneCell ?_ hbytes hbase ?_
    · intro j q hq
      have hj : j < ys.length * F.size := by
        have := (List.getElem?_eq_some_iff.1 hq).1
        rwa [Flat.cells_len] at this
      have hk : j / F.size < ys.length := Nat.div_lt_of_lt_mul (by rw [Nat.mul_comm]; exact hj)
      have hm : j % F.size < F.size := Nat.mod_lt _ hsz
      have e : j = j / F.size * F.size + j % F.size := by rw [Nat.mul_comm]; exact (Nat.div_add_mod j F.size).symm
      obtain ⟨b, off, cs, e1, _, _, rfl, e5⟩ := h5 _ hk
      obtain rfl := Option.some.inj e1
      have h6 := e5 (j % F.size) q (by
        rw [e, Flat.cells_at hk hm] at hq
        exact hq)
      rw [Addr.add_lit]
      have e2 : off + j / F.size * F.shape.size + j % F.size = off + j := by
        show off + j / F.size * F.size + j % F.size = off + j
        omega
      rwa [e2] at h6
    · unfold maxLen; omega
    · intro v' w' h1 h2 _
      exact h v' w' (Own.of_row h1 (by simp) Flat.cells_append.symm (Nat.le_refl _)) (grown_below h2 (fun g hg => (hO.1.lt g hg).1) hbase) h2
end
end Go.Proofs.Ytllpgomloblfjaa
namespace Go.Proofs.Ytllpgomloblfjaa
open Go.RowKit

/-- the state of the loop: what is to be moved down still -/
def PopSt (goal : List StL) (l : List StL) (k : Nat) : Prop := ∃ f, l.length ≤ k + f ∧ downF f l k = goal
theorem pop_stop {goal l : List StL} {k : Nat} (h : PopSt goal l k) (hc : ¬ (2 * k + 1 < l.length ∧ lessL (stA l (downN l k)) (stA l k) = true)) : l = goal := by
  obtain ⟨f, hf, e⟩ := h
  cases f with
  | zero => exact e
  | succ f => rw [downF, if_neg hc] at e; exact e
theorem down_gt {l : List StL} {k : Nat} : k < downN l k := by unfold downN; split <;> omega
theorem pop_go {goal l : List StL} {k : Nat} (h : PopSt goal l k) (h0 : 2 * k + 1 < l.length) (hl : lessL (stA l (downN l k)) (stA l k) = true) : PopSt goal (swapS l k (downN l k)) (downN l k) := by
  obtain ⟨f, hf, e⟩ := h
  have := down_gt (l := l) (k := k)
  cases f with
  | zero => omega
  | succ f => rw [downF, if_pos ⟨h0, hl⟩] at e; exact ⟨f, by rw [swap_len]; omega, e⟩
theorem pop_start (l : List StL) : PopSt (popL l) ((l.set 0 (stA l (l.length - 1))).take (l.length - 1)) 0 := ⟨l.length, by rw [List.length_take, List.length_set]; omega, rfl⟩
theorem same_storeAll {lo hi g : Nat} (h : g < lo ∨ hi ≤ g) (cs : List Value) : ∀ (o : Nat) (w : World), Same lo hi w (storeAll g cs o w) := by
  induction cs with
  | nil => exact fun o w => Same.refl _ _ _
  | cons a cs ih =>
    intro o w
    refine Same.trans (fun b h1 h2 => ?_) (ih (o + 1) (w.setCell ⟨g, o, none⟩ a))
    exact Below.heap_setCell _ _ _ _ (by show b ≠ g; omega)
end Go.Proofs.Ytllpgomloblfjaa
namespace Go.Proofs.Ytllpgomloblfjaa
open Go.RowKit
variable {M : Kept}

theorem cells_same {lo hi : Nat} {w w' : World} (h : Same lo hi w w') {b j : Nat} (h1 : lo ≤ b) (h2 : b < hi) : w'.cell? ⟨b, j, none⟩ = w.cell? ⟨b, j, none⟩ := World.cell?_of_block (a := ⟨b, j, none⟩) (h b h1 h2)
theorem frz_same {lo hi : Nat} {w w' : World} (h : Same lo hi w w') {b j : Nat} (h1 : lo ≤ b) (h2 : b < hi) : w'.frozen? ⟨b, j, none⟩ = w.frozen? ⟨b, j, none⟩ := World.frozen?_of_block (a := ⟨b, j, none⟩) (h b h1 h2)
theorem keepG {w : World} {A B : Nat} {u0 u1 v0 v1 : Value} (h : w.cell? ⟨B, 0, none⟩ = some u0 ∧ w.cell? ⟨B, 1, none⟩ = some u1) (hAB : A < B) :
    ((w.setCell ⟨A, 0, none⟩ v0).setCell ⟨A, 1, none⟩ v1).cell? ⟨B, 0, none⟩ = some u0 ∧ ((w.setCell ⟨A, 0, none⟩ v0).setCell ⟨A, 1, none⟩ v1).cell? ⟨B, 1, none⟩ = some u1 :=
  ⟨(World.cell?_setCell_other _ _ _ _ (fun c => by injection c with c _ _; omega)).trans ((World.cell?_setCell_other _ _ _ _ (fun c => by injection c with c _ _; omega)).trans h.1),
   (World.cell?_setCell_other _ _ _ _ (fun c => by injection c with c _ _; omega)).trans ((World.cell?_setCell_other _ _ _ _ (fun c => by injection c with c _ _; omega)).trans h.2)⟩
set_option maxHeartbeats 4000000 in
set_option maxRecDepth 100000 in
theorem pop_impl (ps : List (StL × SV)) (v : Value) (lo hi : Nat) (w : World) (hS : SOwn M lo hi w v ps) (hp : 0 < ps.length) (hlo : lo ≤ w.heap.size) (hh : hi ≤ w.heap.size) (hl : ps.length ≤ 1048576) :
    Calls Try.prog 101 #[v] w fun e w' => ∃ u a n c, e = .returned (.tuple #[u, .agg #[.slice a n c, .int .i64 (stA (ps.map (·.1)) 0).sum]]) ∧ HOwn M lo w'.heap.size w' u (popL (ps.map (·.1))) ∧ Own intF 3 lo w'.heap.size w' (.slice a n c) (stA (ps.map (·.1)) 0).vals ∧ Below lo w w' := by
  have HG := Lib.hid (pop_start (ps.map (·.1)))
  generalize popL (ps.map (·.1)) = goal at *
  rw [stA_map hp]
  obtain ⟨G, c, rfl, gl, gh, gc1, gc2⟩ := own_some hS.outer (by intro h; rw [h] at hp; exact absurd hp (Nat.lt_irrefl _))
  unfold maxLen at gc2
  obtain ⟨m, hm⟩ : ∃ m, ps.length = m + 1 := ⟨ps.length - 1, by omega⟩
  have hm1 : m < ps.length := by omega
  obtain ⟨G1, e1, -, -, -, c0, c1, -⟩ := hS.at hp
  obtain ⟨G2, e2, -, -, -, d0, d1, -⟩ := hS.at hm1
  injection e1 with e1
  injection e1 with e1 _ _
  subst e1
  injection e2 with e2
  injection e2 with e2 _ _
  subst e2
  have HO0 := hS.inner _ (List.getElem_mem hp)
  have hne0 := own_ne hS.outer HO0 (by decide) (show (Value.slice (some ⟨G, 0, none⟩) ps.length c).ownBlock = some G from rfl)
  have HP2 := Lib.hid (fun (w' : World) (h : SOwn M lo hi w' (.slice (some ⟨G, 0, none⟩) ps.length c) ps) => (h.put rfl hp ps[m] (List.getElem_mem hm1)).take (m := m) (by rw [List.length_set]; omega) (by rw [List.length_set]; omega))
  have HMP : Hid (((ps.set 0 ps[m]).take m).map (·.1) = ((ps.map (·.1)).set 0 (stA (ps.map (·.1)) ((ps.map (·.1)).length - 1))).take ((ps.map (·.1)).length - 1)) := by
    show _ = _
    rw [List.map_take, List.map_set, List.length_map, show ps.length - 1 = m by omega, stA_map hm1]
  have HLN : Hid (((ps.set 0 ps[m]).take m).length = m) := by show _ = _; rw [List.length_take, List.length_set]; omega
  have hlo2 : Hid (G < w.heap.size) := by show _ < _; omega
  generalize hp0 : ps[0] = p0 at *
  generalize hpm : ps[m] = pm at *
  clear hp0 hpm
  obtain ⟨o1, oa, on, oc⟩ := p0
  obtain ⟨y1, ya, yn, yc⟩ := pm
  replace c0 : w.cell? ⟨G, 0, none⟩ = some (.slice oa on oc) := c0
  replace c1 : w.cell? ⟨G, 1, none⟩ = some (.int .i64 o1.sum) := c1
  replace d0 : w.cell? ⟨G, m * 2, none⟩ = some (.slice ya yn yc) := d0
  replace d1 : w.cell? ⟨G, m * 2 + 1, none⟩ = some (.int .i64 y1.sum) := d1
  have HSw := Lib.hid hS
  clear hS
  obtain ⟨qz, hqz⟩ : ∃ qz, Hid (qz = (ps.set 0 (y1, (ya, yn, yc))).take m) := ⟨_, rfl⟩
  rw [← hqz.out] at HP2 HMP HLN
  have hx1 : IntKind.i64.wrap (m : Int) = (m : Int) := IntWalk.i64_in _ (by omega)
  rw [hm]
  rw [hm] at gc1
  have hmz : (0 : Int) ≤ (m : Int) := by omega
  go_enter Try.func101, Try.ntmps101
  go_upto_region 1 with fail
  have hA := heap_alloc_new w (.cells #[.slice none 0 0, .int .i64 0] 96)
  have hbA : Below w.heap.size w (w.alloc (.cells #[.slice none 0 0, .int .i64 0] 96)) := (Below.refl _ _).alloc (Nat.le_refl _) _
  have hsA : w.heap.size < (w.alloc (.cells #[.slice none 0 0, .int .i64 0] 96)).heap.size := by simp
  have hsA2 : (w.alloc (.cells #[.slice none 0 0, .int .i64 0] 96)).heap.size ≤ w.heap.size + 1 := by simp
  generalize w.alloc (.cells #[.slice none 0 0, .int .i64 0] 96) = wA at *
  have z0 : wA.cell? ⟨w.heap.size, 0, none⟩ = some (.slice none 0 0) := cell_heap0 hA rfl
  have z1 : wA.cell? ⟨w.heap.size, 1, none⟩ = some (.int .i64 0) := cell_heap0 hA rfl
  replace c0 := (hbA.cell (p := ⟨G, 0, none⟩) hlo2.out).trans c0
  replace c1 := (hbA.cell (p := ⟨G, 1, none⟩) hlo2.out).trans c1
  replace d0 := (hbA.cell (p := ⟨G, m * 2, none⟩) hlo2.out).trans d0
  replace d1 := (hbA.cell (p := ⟨G, m * 2 + 1, none⟩) hlo2.out).trans d1
  have hSA := HSw.out.below hbA hh
  have HOA : Own intF 3 lo hi wA (.slice oa on oc) o1.vals := HO0.same (.of_below hbA hh)
  have hlA : hi ≤ wA.heap.size := by omega
  go_upto_region 2 with fail
  have hB := heap_alloc_new wA (.cells #[.slice oa on oc, .int .i64 o1.sum] 96)
  have hbB : Below wA.heap.size wA (wA.alloc (.cells #[.slice oa on oc, .int .i64 o1.sum] 96)) := (Below.refl _ _).alloc (Nat.le_refl _) _
  have hsB : wA.heap.size < (wA.alloc (.cells #[.slice oa on oc, .int .i64 o1.sum] 96)).heap.size := by simp
  generalize wA.alloc (.cells #[.slice oa on oc, .int .i64 o1.sum] 96) = w1 at *
  have s0 : w1.cell? ⟨wA.heap.size, 0, none⟩ = some (.slice oa on oc) := cell_heap0 hB rfl
  have s1 : w1.cell? ⟨wA.heap.size, 1, none⟩ = some (.int .i64 o1.sum) := cell_heap0 hB rfl
  have g0 : w1.frozen? ⟨w.heap.size, 0, none⟩ = false := frozen_heap0 ((hbB.block w.heap.size (by omega)).trans hA)
  have g1 : w1.frozen? ⟨w.heap.size, 1, none⟩ = false := frozen_heap0 ((hbB.block w.heap.size (by omega)).trans hA)
  replace z0 := (hbB.cell (p := ⟨w.heap.size, 0, none⟩) (by show w.heap.size < _; omega)).trans z0
  replace z1 := (hbB.cell (p := ⟨w.heap.size, 1, none⟩) (by show w.heap.size < _; omega)).trans z1
  have hGA : G < wA.heap.size := by have := hlo2.out; omega
  replace c0 := (hbB.cell (p := ⟨G, 0, none⟩) hGA).trans c0
  replace c1 := (hbB.cell (p := ⟨G, 1, none⟩) hGA).trans c1
  replace d0 := (hbB.cell (p := ⟨G, m * 2, none⟩) hGA).trans d0
  replace d1 := (hbB.cell (p := ⟨G, m * 2 + 1, none⟩) hGA).trans d1
  have hS1 := hSA.below hbB hlA
  have HO1 := HOA.same (.of_below hbB hlA)
  have hB1 : Below lo w w1 := (hbA.mono hlo).trans (hbB.mono (by omega))
  clear hA hB hSA HOA HO0 hbA hbB HSw
  have f0 := hS1.frz rfl 0
  have f1 := hS1.frz rfl 1
  have HW : storeAll G (stF.enc (y1, (ya, yn, yc))) (0 * 2) w1 = (w1.setCell ⟨G, 0, none⟩ (.slice ya yn yc)).setCell ⟨G, 1, none⟩ (.int .i64 y1.sum) := rfl
  have hS2 := HP2.out w1 hS1
  have HO2 := own_keepFarAll hne0 (stF.enc (y1, (ya, yn, yc))) (0 * 2) HO1
  have hB2 := blw_storeAll hB1 gl (stF.enc (y1, (ya, yn, yc))) (0 * 2)
  have hsm2 : Same w.heap.size (wA.heap.size + 1) w1 (storeAll G (stF.enc (y1, (ya, yn, yc))) (0 * 2) w1) := same_storeAll (.inl hlo2.out) _ _ _
  have hsz2 := size_storeAll G (stF.enc (y1, (ya, yn, yc))) (0 * 2) w1
  rw [HW] at hS2 HO2 hB2 hsm2 hsz2
  clear HW hS1 HO1 HP2
  go_wp2_with fail
  clear c0 c1
  obtain ⟨A, HAe⟩ : ∃ A, Hid (A = w.heap.size) := ⟨_, rfl⟩
  obtain ⟨B, HBe⟩ : ∃ B, Hid (B = wA.heap.size) := ⟨_, rfl⟩
  rw [← HAe.out, ← HBe.out]
  have HMP2 : Hid (PopSt goal (qz.map (·.1)) 0) := by show PopSt _ _ _; rw [HMP.out]; exact HG.out
  have hAB : A < B := by have h1 := HAe.out; have h2 := HBe.out; omega
  have hhA : hi ≤ A := by have h1 := HAe.out; omega
  have hloA : lo ≤ A := by have h1 := HAe.out; omega
  have hGA2 : G < A := by have h1 := HAe.out; have h2 := hlo2.out; omega
  rw [← HAe.out] at z0 z1 g0 g1 hsm2
  rw [← HBe.out] at s0 s1 hsm2
  have hw1 : B < w1.heap.size := by have h2 := HBe.out; omega
  replace z0 := (cells_same hsm2 (j := 0) (Nat.le_refl A) (by omega)).trans z0
  replace z1 := (cells_same hsm2 (j := 1) (Nat.le_refl A) (by omega)).trans z1
  replace s0 := (cells_same hsm2 (j := 0) (Nat.le_of_lt hAB) (Nat.lt_succ_self B)).trans s0
  replace s1 := (cells_same hsm2 (j := 1) (Nat.le_of_lt hAB) (Nat.lt_succ_self B)).trans s1
  replace g0 := (frz_same hsm2 (j := 0) (Nat.le_refl A) (by omega)).trans g0
  replace g1 := (frz_same hsm2 (j := 1) (Nat.le_refl A) (by omega)).trans g1
  clear hsm2 HMP HG hGA hsA hsA2 hlA d0 d1 f0 f1
  generalize (w1.setCell ⟨G, 0, none⟩ (.slice ya yn yc)).setCell ⟨G, 1, none⟩ (.int .i64 y1.sum) = w2 at *
  have hw2 : B < w2.heap.size := by omega
  clear hsz2 hw1 hsB hqz
  clear hB1 HAe HBe
  have HZ := Lib.hid (show (w2.cell? ⟨A, 0, none⟩ = some (.slice none 0 0) ∧ w2.cell? ⟨A, 1, none⟩ = some (.int .i64 0)) ∧ (w2.cell? ⟨B, 0, none⟩ = some (.slice oa on oc) ∧ w2.cell? ⟨B, 1, none⟩ = some (.int .i64 o1.sum)) ∧ w2.frozen? ⟨A, 0, none⟩ = false ∧ w2.frozen? ⟨A, 1, none⟩ = false from ⟨⟨z0, z1⟩, ⟨s0, s1⟩, g0, g1⟩)
  clear z0 z1 s0 s1 g0 g1
  go_loopw [6] (fun i wr => ∃ (k : Nat) (qs : List (StL × SV)), qs.length = m ∧ k ≤ m ∧ i = .int .i64 k ∧ SOwn M lo hi wr (.slice (some ⟨G, 0, none⟩) m c) qs ∧ Own intF 3 lo hi wr (.slice oa on oc) o1.vals ∧ Same A (B + 1) w2 wr ∧ Hid (PopSt goal (qs.map (·.1)) k) ∧ Below lo w wr ∧ w2.heap.size ≤ wr.heap.size) (fun i _ => m - (intOf i).toNat)
  case atStart => exact ⟨0, _, HLN.out, Nat.zero_le _, rfl, hS2, HO2, Same.refl _ _ _, HMP2.out, hB2, Nat.le_refl _⟩
  case round =>
    clear hS2 HO2 HMP2 hB2
    obtain ⟨k, qs, hql, hk, rfl, hQ, hO, hsm, HS, hb, hsw⟩ := hrel
    obtain ⟨b, HBK⟩ : ∃ b : Nat, Hid (b = 2 * k + 1) := ⟨_, rfl⟩
    obtain ⟨a, HAK⟩ : ∃ a : Nat, Hid (a = 2 * k + 2) := ⟨_, rfl⟩
    have hkz : (0 : Int) ≤ (k : Int) := by omega
    have hu1 : IntKind.i64.wrap (2 * (k : Int)) = (b : Int) - 1 := by have := HBK.out; rw [IntWalk.i64_in _ (by omega)]; omega
    have hu2 : IntKind.i64.wrap ((b : Int) - 1 + 1) = (b : Int) := by have := HBK.out; rw [IntWalk.i64_in _ (by omega)]; omega
    have hu3 : IntKind.i64.wrap (b : Int) = (b : Int) := by have := HBK.out; exact IntWalk.i64_in _ (by omega)
    have hu4 : IntKind.i64.wrap ((b : Int) + 1) = (a : Int) := by have := HBK.out; have := HAK.out; rw [IntWalk.i64_in _ (by omega)]; omega
    have HQL := Lib.hid hql
    by_cases hlt : b < m
    · have hbi : (b : Int) < (m : Int) := by omega
      have hbz : (0 : Int) ≤ (b : Int) := by omega
      have hki : (k : Int) < (m : Int) := by have := HBK.out; omega
      have hhw : hi ≤ wr.heap.size := by omega
      have hBw : B + 1 ≤ wr.heap.size := by omega
      have hLN : Hid ((qs.map (·.1)).length = m) := by show _ = _; rw [List.length_map]; exact hql
      by_cases h2 : a < m
      · have hai : (a : Int) < (m : Int) := by omega
        have haz : (0 : Int) ≤ (a : Int) := by omega
        have had1 : decide ((a : Int) < (m : Int)) = true := decide_eq_true hai
        have had2 : decide (a < m) = true := decide_eq_true h2
        obtain ⟨G1, e1, -, -, -, c0, c1, hru⟩ := hQ.at (show a < qs.length by omega)
        obtain ⟨G2, e2, -, -, -, d0, d1, hru'⟩ := hQ.at (show b < qs.length by omega)
        injection e1 with e1
        injection e1 with e1 _ _
        subst e1
        injection e2 with e2
        injection e2 with e2 _ _
        subst e2
        have HDT : Hid (lessL (qs[a]'(by omega)).1 (qs[b]'(by omega)).1 = true → a = downN (qs.map (·.1)) k) := fun h => by
          unfold downN
          rw [← HBK.out, ← HAK.out, hLN.out, stA_map (by omega), stA_map (by omega), if_pos ⟨h2, h⟩]
        have HDF : Hid (lessL (qs[a]'(by omega)).1 (qs[b]'(by omega)).1 = false → b = downN (qs.map (·.1)) k) := fun h => by
          unfold downN
          rw [← HBK.out, ← HAK.out, hLN.out, stA_map (by omega), stA_map (by omega), if_neg (by rw [h]; exact fun c => absurd c.2 (by decide))]
        have HLS := Lib.hid (less_impl (w := wr.drew) (qs[a]'(by omega)).1 (qs[b]'(by omega)).1 hru hhw hru' hhw)
        clear hru hru'
        generalize qs[a]'(by omega) = px at *
        generalize qs[b]'(by omega) = py at *
        obtain ⟨x1, xa, xn, xc⟩ := px
        obtain ⟨y1, ya, yn, yc⟩ := py
        replace c0 : wr.cell? ⟨G, a * 2, none⟩ = some (.slice xa xn xc) := c0
        replace c1 : wr.cell? ⟨G, a * 2 + 1, none⟩ = some (.int .i64 x1.sum) := c1
        replace d0 : wr.cell? ⟨G, b * 2, none⟩ = some (.slice ya yn yc) := d0
        replace d1 : wr.cell? ⟨G, b * 2 + 1, none⟩ = some (.int .i64 y1.sum) := d1
        replace HLS : Hid (Calls Try.prog 129 #[.agg #[.slice xa xn xc, .int .i64 x1.sum], .agg #[.slice ya yn yc, .int .i64 y1.sum]] wr.drew fun e w' => e = .returned (.bool (lessL x1 y1)) ∧ Below wr.drew.heap.size wr.drew w') := HLS
        replace HDT : Hid (lessL x1 y1 = true → a = downN (qs.map (·.1)) k) := HDT
        replace HDF : Hid (lessL x1 y1 = false → b = downN (qs.map (·.1)) k) := HDF
        obtain ⟨bq, hbq⟩ : ∃ bq, Hid (lessL x1 y1 = bq) := ⟨_, rfl⟩
        rw [hbq.out] at HDT HDF HLS
        go_wp2_with fail
        refine wp_region_held_drew (S := fun w' => w'.cell? ⟨G, a * 2, none⟩ = some (.slice xa xn xc) ∧ w'.cell? ⟨G, a * 2 + 1, none⟩ = some (.int .i64 x1.sum) ∧ w'.cell? ⟨G, b * 2, none⟩ = some (.slice ya yn yc) ∧ w'.cell? ⟨G, b * 2 + 1, none⟩ = some (.int .i64 y1.sum) ∧ Below wr.heap.size wr w') (by kernel_rfl) ?_ (fun hHeld => ?_)
        · exact ⟨c0, c1, d0, d1, (Below.refl _ _).drew⟩
        refine wpAnyH_take (i := 0) (v := ?v1) (at_op rfl) (by kernel_rfl) (by kernel_rfl) (by kernel_rfl) (fun _ _ _ h => h) (Or.inl ⟨by rfl, ?y1⟩) (by assumption) ?r1
        case y1 =>
          intro wx hSx
          go_simp
          try with_reducible rfl
        try simp only [Act.put, List.setIfInBounds_toArray, List.set_cons_zero, List.set_cons_succ]
        refine wpAnyH_take (i := 1) (v := ?v2) (at_op rfl) (by kernel_rfl) (by kernel_rfl) (by kernel_rfl) (fun _ _ _ h => h) (Or.inl ⟨by rfl, ?y2⟩) (by assumption) ?r2
        case y2 =>
          intro wx hSx
          go_simp
          try with_reducible rfl
        try simp only [Act.put, List.setIfInBounds_toArray, List.set_cons_zero, List.set_cons_succ]
        refine wpAnyH_take (i := 2) (v := ?v3) (at_op rfl) (by kernel_rfl) (by kernel_rfl) (by kernel_rfl) (fun _ _ _ h => h) (Or.inl ⟨by rfl, ?y3⟩) (by assumption) ?r3
        case y3 =>
          intro wx hSx
          go_simp
          try with_reducible rfl
        try simp only [Act.put, List.setIfInBounds_toArray, List.set_cons_zero, List.set_cons_succ]
        refine wpAnyH_take (i := 3) (v := ?v4) (at_op rfl) (by kernel_rfl) (by kernel_rfl) (by kernel_rfl) (fun _ _ _ h => h) (Or.inl ⟨by rfl, ?y4⟩) (by assumption) ?r4
        case y4 =>
          intro wx hSx
          go_simp
          try with_reducible rfl
        try simp only [Act.put, List.setIfInBounds_toArray, List.set_cons_zero, List.set_cons_succ]
        refine wpAnyH_take (i := 4) (v := ?v5) (at_op rfl) (by kernel_rfl) (by kernel_rfl) (by kernel_rfl) (fun _ _ _ h => h) (Or.inl ⟨by rfl, ?y5⟩) (by assumption) ?r5
        case y5 =>
          intro wx hSx
          go_simp
          try with_reducible rfl
        try simp only [Act.put, List.setIfInBounds_toArray, List.set_cons_zero, List.set_cons_succ]
        refine wpAnyH_take (i := 5) (v := ?v6) (at_op rfl) (by kernel_rfl) (by kernel_rfl) (by kernel_rfl) (fun _ _ _ h => h) (Or.inl ⟨by rfl, ?y6⟩) (by assumption) ?r6
        case y6 =>
          intro wx hSx
          go_simp
          try with_reducible rfl
        try simp only [Act.put, List.setIfInBounds_toArray, List.set_cons_zero, List.set_cons_succ]
        refine wpAnyH_take (i := 6) (v := ?v7) (at_op rfl) (by kernel_rfl) (by kernel_rfl) (by kernel_rfl) (fun _ _ _ h => h) (Or.inl ⟨by rfl, ?y7⟩) (by assumption) ?r7
        case y7 =>
          intro wx hSx
          go_simp
          try with_reducible rfl
        try simp only [Act.put, List.setIfInBounds_toArray, List.set_cons_zero, List.set_cons_succ]
        refine wpAnyH_take (i := 7) (v := ?v8) (at_op rfl) (by kernel_rfl) (by kernel_rfl) (by kernel_rfl) (fun _ _ _ h => h) (Or.inl ⟨by rfl, ?y8⟩) (by assumption) ?r8
        case y8 =>
          intro wx hSx
          go_simp
          try with_reducible rfl
        try simp only [Act.put, List.setIfInBounds_toArray, List.set_cons_zero, List.set_cons_succ]
        refine wpAnyH_take (i := 8) (v := ?v9) (at_op rfl) (by kernel_rfl) (by kernel_rfl) (by kernel_rfl) (fun _ _ _ h => h) (Or.inl ⟨by rfl, ?y9⟩) (by assumption) ?r9
        case y9 =>
          intro wx hSx
          go_simp
          try with_reducible rfl
        try simp only [Act.put, List.setIfInBounds_toArray, List.set_cons_zero, List.set_cons_succ]
        refine wpAnyH_take (i := 9) (v := ?v10) (at_op rfl) (by kernel_rfl) (by kernel_rfl) (by kernel_rfl) (fun _ _ _ h => h) (Or.inl ⟨by rfl, ?y10⟩) (by assumption) ?r10
        case y10 =>
          intro wx hSx
          go_simp
          try with_reducible rfl
        try simp only [Act.put, List.setIfInBounds_toArray, List.set_cons_zero, List.set_cons_succ]
        refine wpAnyH_take (i := 10) (v := ?v11) (at_op rfl) (by kernel_rfl) (by kernel_rfl) (by kernel_rfl) (fun _ _ _ h => h) (Or.inl ⟨by rfl, ?y11⟩) (by assumption) ?r11
        case y11 =>
          intro wx hSx
          go_simp
          try with_reducible rfl
        try simp only [Act.put, List.setIfInBounds_toArray, List.set_cons_zero, List.set_cons_succ]
        refine wpAnyH_take (i := 11) (v := ?v12) (at_op rfl) (by kernel_rfl) (by kernel_rfl) (by kernel_rfl) (fun _ _ _ h => h) (Or.inl ⟨by rfl, ?y12⟩) (by assumption) ?r12
        case y12 =>
          intro wx hSx
          go_simp
          try with_reducible rfl
        try simp only [Act.put, List.setIfInBounds_toArray, List.set_cons_zero, List.set_cons_succ]
        refine wpAnyH_take (i := 12) (v := ?v13) (at_op rfl) (by kernel_rfl) (by kernel_rfl) (by kernel_rfl) (fun _ _ _ h => h) (Or.inl ⟨by rfl, ?y13⟩) (by assumption) ?r13
        case y13 =>
          intro wx hSx
          go_simp
          try with_reducible rfl
        try simp only [Act.put, List.setIfInBounds_toArray, List.set_cons_zero, List.set_cons_succ]
        refine wpAnyH_take (i := 13) (v := ?v14) (at_op rfl) (by kernel_rfl) (by kernel_rfl) (by kernel_rfl) (fun _ _ _ h => h) (Or.inl ⟨by rfl, ?y14⟩) (by assumption) ?r14
        case y14 =>
          intro wx hSx
          go_simp
          try with_reducible rfl
        try simp only [Act.put, List.setIfInBounds_toArray, List.set_cons_zero, List.set_cons_succ]
        refine wpAnyH_take (i := 14) (v := ?v15) (at_op rfl) (by kernel_rfl) (by kernel_rfl) (by kernel_rfl) (fun _ _ _ h => h) (Or.inl ⟨by rfl, ?y15⟩) (by assumption) ?r15
        case y15 =>
          intro wx hSx
          go_simp
          try with_reducible rfl
        try simp only [Act.put, List.setIfInBounds_toArray, List.set_cons_zero, List.set_cons_succ]
        refine wpAnyH_ready (rs := [15]) (by kernel_rfl) (by simp) ?_
        refine AllReadyH.cons (at_op rfl) (fun K hK => ?_) AllReadyH.nil
        go_simp
        refine HLS.out.mono ?_
        rintro e w6 ⟨rfl, hb5⟩
        go_wp2_with fail
        refine hK.out _ _ (keep4 hHeld hb5) (fun _ => ?_)
        clear hK K
        try simp only [Act.put, List.setIfInBounds_toArray, List.set_cons_zero, List.set_cons_succ]
        refine wpAnyH_take (i := 16) (v := ?v16) (at_op rfl) (by kernel_rfl) (by kernel_rfl) (by kernel_rfl) (fun _ _ _ h => h) (Or.inl ⟨by rfl, ?y16⟩) (by assumption) ?r16
        case y16 =>
          intro wx hSx
          go_simp
          try with_reducible rfl
        try simp only [Act.put, List.setIfInBounds_toArray, List.set_cons_zero, List.set_cons_succ]
        refine wpAnyH_done (by kernel_rfl) ?_ _
        have hQ6 := hQ.drew.below hb5 (show hi ≤ wr.heap.size from hhw)
        have hO6 : Own intF 3 lo hi w6 (.slice oa on oc) o1.vals := (show Own intF 3 lo hi wr.drew (.slice oa on oc) o1.vals from hO).same (.of_below hb5 hhw)
        have hsm6 : Same A (B + 1) w2 w6 := (show Same A (B + 1) w2 wr.drew from hsm).trans (.of_below hb5 hBw)
        have hb6 : Below lo w w6 := hb.drew.trans (hb5.mono (by show lo ≤ wr.heap.size; omega))
        have hsw6 : w2.heap.size ≤ w6.heap.size := Nat.le_trans hsw hb5.size
        clear hQ hO hsm hb hsw hb5 c0 c1 d0 d1 HLS had1 had2
        cases bq with
        | true =>
          have HDN := Lib.hid (HDT.out rfl)
          clear HDT HDF
          obtain ⟨G1, e1, -, -, -, c0, c1, hru⟩ := hQ6.at (show a < qs.length by omega)
          obtain ⟨G2, e2, -, -, -, d0, d1, hru'⟩ := hQ6.at (show k < qs.length by omega)
          injection e1 with e1
          injection e1 with e1 _ _
          subst e1
          injection e2 with e2
          injection e2 with e2 _ _
          subst e2
          have hh6 : hi ≤ w6.heap.size := by omega
          have HST : Hid (lessL (qs[a]'(by omega)).1 (qs[k]'(by omega)).1 = false → qs.map (·.1) = goal) := fun h => pop_stop HS.out (fun c => by rw [← HDN.out, stA_map (by omega), stA_map (by omega), h] at c; exact absurd c.2 (by decide))
          have HGO : Hid (lessL (qs[a]'(by omega)).1 (qs[k]'(by omega)).1 = true → PopSt goal (swapS (qs.map (·.1)) k a) a) := fun h => by
            have e := pop_go HS.out (by rw [hLN.out, ← HBK.out]; exact hlt) (by rw [← HDN.out, stA_map (by omega), stA_map (by omega)]; exact h)
            rwa [← HDN.out] at e
          have HSW := Lib.hid (swap_map (ps := qs) (i := k) (j := a) (by omega) (by omega))
          have HXK : Hid (∀ w, SOwn M lo hi w (.slice (some ⟨G, 0, none⟩) m c) qs → SOwn M lo hi (storeAll G (stF.enc (qs[k]'(by omega))) (a * 2) (storeAll G (stF.enc (qs[a]'(by omega))) (k * 2) w)) (.slice (some ⟨G, 0, none⟩) m c) ((qs.set k (qs[a]'(by omega))).set a (qs[k]'(by omega)))) := fun w h => h.swap hql.symm (by omega) (by omega)
          have HLS := Lib.hid (less_impl (w := w6.drew) (qs[a]'(by omega)).1 (qs[k]'(by omega)).1 hru hh6 hru' hh6)
          have hkd : Hid (k < a ∧ a < m) := ⟨by have := HBK.out; have := HAK.out; omega, by omega⟩
          clear hru hru'
          generalize qs[a]'(by omega) = py at *
          generalize qs[k]'(by omega) = px at *
          obtain ⟨x1, xa, xn, xc⟩ := px
          obtain ⟨y1, ya, yn, yc⟩ := py
          replace d0 : w6.cell? ⟨G, k * 2, none⟩ = some (.slice xa xn xc) := d0
          replace d1 : w6.cell? ⟨G, k * 2 + 1, none⟩ = some (.int .i64 x1.sum) := d1
          replace c0 : w6.cell? ⟨G, a * 2, none⟩ = some (.slice ya yn yc) := c0
          replace c1 : w6.cell? ⟨G, a * 2 + 1, none⟩ = some (.int .i64 y1.sum) := c1
          replace HLS : Hid (Calls Try.prog 129 #[.agg #[.slice ya yn yc, .int .i64 y1.sum], .agg #[.slice xa xn xc, .int .i64 x1.sum]] w6.drew fun e w' => e = .returned (.bool (lessL y1 x1)) ∧ Below w6.drew.heap.size w6.drew w') := HLS
          replace HST : Hid (lessL y1 x1 = false → qs.map (·.1) = goal) := HST
          replace HGO : Hid (lessL y1 x1 = true → PopSt goal (swapS (qs.map (·.1)) k a) a) := HGO
          obtain ⟨br, hbr⟩ : ∃ br, Hid (lessL y1 x1 = br) := ⟨_, rfl⟩
          rw [hbr.out] at HST HGO HLS
          go_wp2_with fail
          refine wp_region_held_drew (S := fun w' => w'.cell? ⟨G, k * 2, none⟩ = some (.slice xa xn xc) ∧ w'.cell? ⟨G, k * 2 + 1, none⟩ = some (.int .i64 x1.sum) ∧ w'.cell? ⟨G, a * 2, none⟩ = some (.slice ya yn yc) ∧ w'.cell? ⟨G, a * 2 + 1, none⟩ = some (.int .i64 y1.sum) ∧ Below w6.heap.size w6 w') (by kernel_rfl) ?_ (fun hHeld => ?_)
          · exact ⟨d0, d1, c0, c1, (Below.refl _ _).drew⟩
          refine wpAnyH_take (i := 0) (v := ?v17) (at_op rfl) (by kernel_rfl) (by kernel_rfl) (by kernel_rfl) (fun _ _ _ h => h) (Or.inl ⟨by rfl, ?y17⟩) (by assumption) ?r17
          case y17 =>
            intro wx hSx
            go_simp
            try with_reducible rfl
          try simp only [Act.put, List.setIfInBounds_toArray, List.set_cons_zero, List.set_cons_succ]
          refine wpAnyH_take (i := 1) (v := ?v18) (at_op rfl) (by kernel_rfl) (by kernel_rfl) (by kernel_rfl) (fun _ _ _ h => h) (Or.inl ⟨by rfl, ?y18⟩) (by assumption) ?r18
          case y18 =>
            intro wx hSx
            go_simp
            try with_reducible rfl
          try simp only [Act.put, List.setIfInBounds_toArray, List.set_cons_zero, List.set_cons_succ]
          refine wpAnyH_take (i := 2) (v := ?v19) (at_op rfl) (by kernel_rfl) (by kernel_rfl) (by kernel_rfl) (fun _ _ _ h => h) (Or.inl ⟨by rfl, ?y19⟩) (by assumption) ?r19
          case y19 =>
            intro wx hSx
            go_simp
            try with_reducible rfl
          try simp only [Act.put, List.setIfInBounds_toArray, List.set_cons_zero, List.set_cons_succ]
          refine wpAnyH_take (i := 3) (v := ?v20) (at_op rfl) (by kernel_rfl) (by kernel_rfl) (by kernel_rfl) (fun _ _ _ h => h) (Or.inl ⟨by rfl, ?y20⟩) (by assumption) ?r20
          case y20 =>
            intro wx hSx
            go_simp
            try with_reducible rfl
          try simp only [Act.put, List.setIfInBounds_toArray, List.set_cons_zero, List.set_cons_succ]
          refine wpAnyH_take (i := 4) (v := ?v21) (at_op rfl) (by kernel_rfl) (by kernel_rfl) (by kernel_rfl) (fun _ _ _ h => h) (Or.inl ⟨by rfl, ?y21⟩) (by assumption) ?r21
          case y21 =>
            intro wx hSx
            go_simp
            try with_reducible rfl
          try simp only [Act.put, List.setIfInBounds_toArray, List.set_cons_zero, List.set_cons_succ]
          refine wpAnyH_take (i := 5) (v := ?v22) (at_op rfl) (by kernel_rfl) (by kernel_rfl) (by kernel_rfl) (fun _ _ _ h => h) (Or.inl ⟨by rfl, ?y22⟩) (by assumption) ?r22
          case y22 =>
            intro wx hSx
            go_simp
            try with_reducible rfl
          try simp only [Act.put, List.setIfInBounds_toArray, List.set_cons_zero, List.set_cons_succ]
          refine wpAnyH_take (i := 6) (v := ?v23) (at_op rfl) (by kernel_rfl) (by kernel_rfl) (by kernel_rfl) (fun _ _ _ h => h) (Or.inl ⟨by rfl, ?y23⟩) (by assumption) ?r23
          case y23 =>
            intro wx hSx
            go_simp
            try with_reducible rfl
          try simp only [Act.put, List.setIfInBounds_toArray, List.set_cons_zero, List.set_cons_succ]
          refine wpAnyH_take (i := 7) (v := ?v24) (at_op rfl) (by kernel_rfl) (by kernel_rfl) (by kernel_rfl) (fun _ _ _ h => h) (Or.inl ⟨by rfl, ?y24⟩) (by assumption) ?r24
          case y24 =>
            intro wx hSx
            go_simp
            try with_reducible rfl
          try simp only [Act.put, List.setIfInBounds_toArray, List.set_cons_zero, List.set_cons_succ]
          refine wpAnyH_ready (rs := [8]) (by kernel_rfl) (by simp) ?_
          refine AllReadyH.cons (at_op rfl) (fun K hK => ?_) AllReadyH.nil
          go_simp
          refine HLS.out.mono ?_
          rintro e w7 ⟨rfl, hb5⟩
          go_wp2_with fail
          refine hK.out _ _ (keep4 hHeld hb5) (fun _ => ?_)
          clear hK K
          try simp only [Act.put, List.setIfInBounds_toArray, List.set_cons_zero, List.set_cons_succ]
          refine wpAnyH_take (i := 9) (v := ?v25) (at_op rfl) (by kernel_rfl) (by kernel_rfl) (by kernel_rfl) (fun _ _ _ h => h) (Or.inl ⟨by rfl, ?y25⟩) (by assumption) ?r25
          case y25 =>
            intro wx hSx
            go_simp
            try with_reducible rfl
          try simp only [Act.put, List.setIfInBounds_toArray, List.set_cons_zero, List.set_cons_succ]
          refine wpAnyH_done (by kernel_rfl) ?_ _
          have hh7 : hi ≤ w6.drew.heap.size := hh6
          have hB7 : B + 1 ≤ w6.drew.heap.size := by show B + 1 ≤ w6.heap.size; omega
          have hl7 : lo ≤ w6.drew.heap.size := by show lo ≤ w6.heap.size; omega
          have hQ8 := hQ6.drew.below hb5 hh7
          have hO8 : Own intF 3 lo hi w7 (.slice oa on oc) o1.vals := (show Own intF 3 lo hi w6.drew (.slice oa on oc) o1.vals from hO6).same (.of_below hb5 hh7)
          have hsm8 : Same A (B + 1) w2 w7 := (show Same A (B + 1) w2 w6.drew from hsm6).trans (.of_below hb5 hB7)
          have hb8 : Below lo w w7 := hb6.drew.trans (hb5.mono hl7)
          have hsw8 : w2.heap.size ≤ w7.heap.size := Nat.le_trans hsw6 hb5.size
          cases br with
          | false =>
            have HF := Lib.hid (HST.out rfl)
            have hQ6 := hQ8
            have hO6 := hO8
            have hsm6 := hsm8
            have hb6 := hb8
            clear hQ8 hO8 hsm8 hb8 c0 c1 d0 d1 HLS hb5
            obtain ⟨w6, rfl⟩ : ∃ w6, w6 = w7 := ⟨_, rfl⟩
            have z0 : w6.drew.cell? ⟨A, 0, none⟩ = some (.slice none 0 0) := (cells_same hsm6 (j := 0) (Nat.le_refl A) (by omega)).trans HZ.out.1.1
            have z1 : w6.drew.cell? ⟨A, 1, none⟩ = some (.int .i64 0) := (cells_same hsm6 (j := 1) (Nat.le_refl A) (by omega)).trans HZ.out.1.2
            have s0 : w6.drew.cell? ⟨B, 0, none⟩ = some (.slice oa on oc) := (cells_same hsm6 (j := 0) (Nat.le_of_lt hAB) (Nat.lt_succ_self B)).trans HZ.out.2.1.1
            have s1 : w6.drew.cell? ⟨B, 1, none⟩ = some (.int .i64 o1.sum) := (cells_same hsm6 (j := 1) (Nat.le_of_lt hAB) (Nat.lt_succ_self B)).trans HZ.out.2.1.2
            have g0 : w6.drew.frozen? ⟨A, 0, none⟩ = false := (frz_same hsm6 (j := 0) (Nat.le_refl A) (by omega)).trans HZ.out.2.2.1
            have g1 : w6.drew.frozen? ⟨A, 1, none⟩ = false := (frz_same hsm6 (j := 1) (Nat.le_refl A) (by omega)).trans HZ.out.2.2.2
            have hQ7 := hQ6.drew
            have hO7 : Own intF 3 lo hi w6.drew (.slice oa on oc) o1.vals := hO6
            have hb7 : Below lo w w6.drew := hb6.drew
            clear hQ6 hO6 hb6
            go_wp2_with fail
            refine wp_region_held_drew (S := fun w' => w'.cell? ⟨B, 0, none⟩ = some (.slice oa on oc) ∧ w'.cell? ⟨B, 1, none⟩ = some (.int .i64 o1.sum)) (by kernel_rfl) ?_ (fun hHeld => ?_)
            · exact ⟨s0, s1⟩
            generalize w6.drew = wX at *
            refine wpAnyH_take (i := 0) (v := ?v26) (at_op rfl) (by kernel_rfl) (by kernel_rfl) (by kernel_rfl) (fun _ _ _ h => h) (Or.inl ⟨by rfl, ?y26⟩) (by assumption) ?r26
            case y26 =>
              intro wx hSx
              go_simp
              try with_reducible rfl
            try simp only [Act.put, List.setIfInBounds_toArray, List.set_cons_zero, List.set_cons_succ]
            refine wpAnyH_take (i := 1) (v := ?v27) (at_op rfl) (by kernel_rfl) (by kernel_rfl) (by kernel_rfl) (fun _ _ _ h => h) (Or.inl ⟨by rfl, ?y27⟩) (by assumption) ?r27
            case y27 =>
              intro wx hSx
              go_simp
              try with_reducible rfl
            try simp only [Act.put, List.setIfInBounds_toArray, List.set_cons_zero, List.set_cons_succ]
            refine wpAnyH_take (i := 2) (v := ?v28) (at_op rfl) (by kernel_rfl) (by kernel_rfl) (by kernel_rfl) (fun _ _ _ h => h) (Or.inl ⟨by rfl, ?y28⟩) (by assumption) ?r28
            case y28 =>
              intro wx hSx
              go_simp
              try with_reducible rfl
            try simp only [Act.put, List.setIfInBounds_toArray, List.set_cons_zero, List.set_cons_succ]
            refine wpAnyH_ready (rs := [3]) (by kernel_rfl) (by simp) ?_
            refine AllReadyH.cons (at_op rfl) (fun K hK => ?_) AllReadyH.nil
            go_wp2_with fail
            refine hK.out _ _ (keepG hHeld hAB) (fun _ => ?_)
            clear hK K
            try simp only [Act.put, List.setIfInBounds_toArray, List.set_cons_zero, List.set_cons_succ]
            refine wpAnyH_done (by kernel_rfl) ?_ _
            have r0 : ((wX.setCell ⟨A, 0, none⟩ (.slice oa on oc)).setCell ⟨A, 1, none⟩ (.int .i64 o1.sum)).cell? ⟨A, 0, none⟩ = some (.slice oa on oc) :=
              (World.cell?_setCell_other _ _ _ _ (fun c => by injection c with _ c _; omega)).trans (World.cell?_setCell_same (w := wX) (a := ⟨A, 0, none⟩) (v := .slice oa on oc) z0)
            have r1 : ((wX.setCell ⟨A, 0, none⟩ (.slice oa on oc)).setCell ⟨A, 1, none⟩ (.int .i64 o1.sum)).cell? ⟨A, 1, none⟩ = some (.int .i64 o1.sum) :=
              World.cell?_setCell_same (w := wX.setCell ⟨A, 0, none⟩ (.slice oa on oc)) (a := ⟨A, 1, none⟩) (v := .int .i64 o1.sum) ((World.cell?_setCell_other _ _ _ _ (fun c => by injection c with _ c _; omega)).trans z1)
            have HSm : Hid (Same lo hi wX ((wX.setCell ⟨A, 0, none⟩ (.slice oa on oc)).setCell ⟨A, 1, none⟩ (.int .i64 o1.sum))) := same_storeAll (g := A) (.inr hhA) [.slice oa on oc, .int .i64 o1.sum] 0 wX
            have HBB : Hid (Below lo w ((wX.setCell ⟨A, 0, none⟩ (.slice oa on oc)).setCell ⟨A, 1, none⟩ (.int .i64 o1.sum))) := (hb7.setCell (p := ⟨A, 0, none⟩) hloA _).setCell (p := ⟨A, 1, none⟩) hloA _
            have HHI : Hid (hi ≤ ((wX.setCell ⟨A, 0, none⟩ (.slice oa on oc)).setCell ⟨A, 1, none⟩ (.int .i64 o1.sum)).heap.size) := Nat.le_trans hh HBB.out.size
            go_wp2
            refine bodyPost_ret (v := .tuple #[.slice (some ⟨G, 0, none⟩) m c, .agg #[.slice oa on oc, .int .i64 o1.sum]]) (by simp [results, Try.results101, go_sem, r0, r1]) rfl ?_
            exact ⟨_, _, _, _, rfl, ⟨qs, (hQ7.same HSm.out).wide (Nat.le_refl _) HHI.out, HF.out⟩, (hO7.same HSm.out).wide (Nat.le_refl _) HHI.out, HBB.out⟩
          | true =>
            have HGT := Lib.hid (HGO.out rfl)
            have hGw : G < w6.heap.size := by omega
            have q0 : w7.drew.cell? ⟨G, k * 2, none⟩ = some (.slice xa xn xc) := (hb5.cell (p := ⟨G, _, none⟩) hGw).trans d0
            have q1 : w7.drew.cell? ⟨G, k * 2 + 1, none⟩ = some (.int .i64 x1.sum) := (hb5.cell (p := ⟨G, _, none⟩) hGw).trans d1
            have q2 : w7.drew.cell? ⟨G, a * 2, none⟩ = some (.slice ya yn yc) := (hb5.cell (p := ⟨G, _, none⟩) hGw).trans c0
            have q3 : w7.drew.cell? ⟨G, a * 2 + 1, none⟩ = some (.int .i64 y1.sum) := (hb5.cell (p := ⟨G, _, none⟩) hGw).trans c1
            clear HLS HST HGO c0 c1 d0 d1 hb5 hQ6 hO6 hsm6 hb6
            have hQ9 := hQ8.drew
            have hO9 : Own intF 3 lo hi w7.drew (.slice oa on oc) o1.vals := hO8
            have hsm9 : Same A (B + 1) w2 w7.drew := hsm8
            have hb9 : Below lo w w7.drew := hb8.drew
            have hsw9 : w2.heap.size ≤ w7.drew.heap.size := hsw8
            clear hQ8 hO8 hsm8 hb8 hsw8
            have HSd := Lib.hid (HXK.out w7.drew hQ9)
            have HO10 := Lib.hid (own_keepFarAll hne0 (stF.enc (x1, (xa, xn, xc))) (a * 2) (own_keepFarAll hne0 (stF.enc (y1, (ya, yn, yc))) (k * 2) hO9))
            have HSM := Lib.hid ((hsm9.trans (same_storeAll (.inl hGA2) (stF.enc (y1, (ya, yn, yc))) (k * 2) _)).trans (same_storeAll (.inl hGA2) (stF.enc (x1, (xa, xn, xc))) (a * 2) _))
            have HBF : Hid (Below lo w (storeAll G (stF.enc (x1, (xa, xn, xc))) (a * 2) (storeAll G (stF.enc (y1, (ya, yn, yc))) (k * 2) w7.drew))) := blw_storeAll (blw_storeAll hb9 gl _ _) gl _ _
            have HSZ : Hid (w2.heap.size ≤ (storeAll G (stF.enc (x1, (xa, xn, xc))) (a * 2) (storeAll G (stF.enc (y1, (ya, yn, yc))) (k * 2) w7.drew)).heap.size) := by show _ ≤ _; rw [size_storeAll, size_storeAll]; exact hsw9
            have p0 : w7.cell? ⟨G, k * 2, none⟩ = some (.slice xa xn xc) := q0
            have p1 : w7.cell? ⟨G, k * 2 + 1, none⟩ = some (.int .i64 x1.sum) := q1
            have p2 : w7.cell? ⟨G, a * 2, none⟩ = some (.slice ya yn yc) := q2
            have p3 : w7.cell? ⟨G, a * 2 + 1, none⟩ = some (.int .i64 y1.sum) := q3
            have f0 := hQ9.frz HQL.out.symm (k * 2)
            have f1 := hQ9.frz HQL.out.symm (k * 2 + 1)
            have f2 := hQ9.frz HQL.out.symm (a * 2)
            have f3 := hQ9.frz HQL.out.symm (a * 2 + 1)
            have g0 : w7.frozen? ⟨G, k * 2, none⟩ = false := f0
            have g1 : w7.frozen? ⟨G, k * 2 + 1, none⟩ = false := f1
            have g2 : w7.frozen? ⟨G, a * 2, none⟩ = false := f2
            have g3 : w7.frozen? ⟨G, a * 2 + 1, none⟩ = false := f3
            have hkD := hkd.out.1
            have y2 : ((w7.drew.setCell ⟨G, k * 2, none⟩ (.slice ya yn yc)).setCell ⟨G, k * 2 + 1, none⟩ (.int .i64 y1.sum)).cell? ⟨G, a * 2, none⟩ = some (.slice ya yn yc) :=
              (World.cell?_setCell_other _ _ _ _ (fun c => by injection c with _ c _; omega)).trans ((World.cell?_setCell_other _ _ _ _ (fun c => by injection c with _ c _; omega)).trans q2)
            have y3 : ((w7.drew.setCell ⟨G, k * 2, none⟩ (.slice ya yn yc)).setCell ⟨G, k * 2 + 1, none⟩ (.int .i64 y1.sum)).cell? ⟨G, a * 2 + 1, none⟩ = some (.int .i64 y1.sum) :=
              (World.cell?_setCell_other _ _ _ _ (fun c => by injection c with _ c _; omega)).trans ((World.cell?_setCell_other _ _ _ _ (fun c => by injection c with _ c _; omega)).trans q3)
            have y4 : ((w7.setCell ⟨G, k * 2, none⟩ (.slice ya yn yc)).setCell ⟨G, k * 2 + 1, none⟩ (.int .i64 y1.sum)).cell? ⟨G, a * 2, none⟩ = some (.slice ya yn yc) :=
              (World.cell?_setCell_other _ _ _ _ (fun c => by injection c with _ c _; omega)).trans ((World.cell?_setCell_other _ _ _ _ (fun c => by injection c with _ c _; omega)).trans p2)
            have y5 : ((w7.setCell ⟨G, k * 2, none⟩ (.slice ya yn yc)).setCell ⟨G, k * 2 + 1, none⟩ (.int .i64 y1.sum)).cell? ⟨G, a * 2 + 1, none⟩ = some (.int .i64 y1.sum) :=
              (World.cell?_setCell_other _ _ _ _ (fun c => by injection c with _ c _; omega)).trans ((World.cell?_setCell_other _ _ _ _ (fun c => by injection c with _ c _; omega)).trans p3)
            have n1 : ¬ a * 2 = k * 2 := by omega
            have n2 : ¬ a * 2 = k * 2 + 1 := by omega
            have n3 : ¬ a * 2 + 1 = k * 2 := by omega
            have n4 : ¬ k * 2 = a * 2 := by omega
            have n5 : ¬ k * 2 + 1 = a * 2 := by omega
            have n6 : ¬ k * 2 = a * 2 + 1 := by omega
            have n7 : ¬ a = k := by omega
            have n8 : ¬ k = a := by omega
            clear hkD hQ9 hO9 hsm9 hb9 hsw9 hql HXK HDN
            go_wp2_with fail
            go_region
            all_goals
              go_wp2
              go_roundw
              case rel => exact ⟨a, (qs.set k (y1, (ya, yn, yc))).set a (x1, (xa, xn, xc)), (by rw [List.length_set, List.length_set]; exact HQL.out), by have := hkd.out; omega, rfl, HSd.out, HO10.out, HSM.out, (by rw [HSW.out]; exact HGT.out), HBF.out, HSZ.out⟩
              case measure => have := hkd.out; simp [intOf]; omega
        | false =>
          have HDN := Lib.hid (HDF.out rfl)
          clear HDT HDF
          obtain ⟨G1, e1, -, -, -, c0, c1, hru⟩ := hQ6.at (show b < qs.length by omega)
          obtain ⟨G2, e2, -, -, -, d0, d1, hru'⟩ := hQ6.at (show k < qs.length by omega)
          injection e1 with e1
          injection e1 with e1 _ _
          subst e1
          injection e2 with e2
          injection e2 with e2 _ _
          subst e2
          have hh6 : hi ≤ w6.heap.size := by omega
          have HST : Hid (lessL (qs[b]'(by omega)).1 (qs[k]'(by omega)).1 = false → qs.map (·.1) = goal) := fun h => pop_stop HS.out (fun c => by rw [← HDN.out, stA_map (by omega), stA_map (by omega), h] at c; exact absurd c.2 (by decide))
          have HGO : Hid (lessL (qs[b]'(by omega)).1 (qs[k]'(by omega)).1 = true → PopSt goal (swapS (qs.map (·.1)) k b) b) := fun h => by
            have e := pop_go HS.out (by rw [hLN.out, ← HBK.out]; exact hlt) (by rw [← HDN.out, stA_map (by omega), stA_map (by omega)]; exact h)
            rwa [← HDN.out] at e
          have HSW := Lib.hid (swap_map (ps := qs) (i := k) (j := b) (by omega) (by omega))
          have HXK : Hid (∀ w, SOwn M lo hi w (.slice (some ⟨G, 0, none⟩) m c) qs → SOwn M lo hi (storeAll G (stF.enc (qs[k]'(by omega))) (b * 2) (storeAll G (stF.enc (qs[b]'(by omega))) (k * 2) w)) (.slice (some ⟨G, 0, none⟩) m c) ((qs.set k (qs[b]'(by omega))).set b (qs[k]'(by omega)))) := fun w h => h.swap hql.symm (by omega) (by omega)
          have HLS := Lib.hid (less_impl (w := w6.drew) (qs[b]'(by omega)).1 (qs[k]'(by omega)).1 hru hh6 hru' hh6)
          have hkd : Hid (k < b ∧ b < m) := ⟨by have := HBK.out; have := HAK.out; omega, by omega⟩
          clear hru hru'
          generalize qs[b]'(by omega) = py at *
          generalize qs[k]'(by omega) = px at *
          obtain ⟨x1, xa, xn, xc⟩ := px
          obtain ⟨y1, ya, yn, yc⟩ := py
          replace d0 : w6.cell? ⟨G, k * 2, none⟩ = some (.slice xa xn xc) := d0
          replace d1 : w6.cell? ⟨G, k * 2 + 1, none⟩ = some (.int .i64 x1.sum) := d1
          replace c0 : w6.cell? ⟨G, b * 2, none⟩ = some (.slice ya yn yc) := c0
          replace c1 : w6.cell? ⟨G, b * 2 + 1, none⟩ = some (.int .i64 y1.sum) := c1
          replace HLS : Hid (Calls Try.prog 129 #[.agg #[.slice ya yn yc, .int .i64 y1.sum], .agg #[.slice xa xn xc, .int .i64 x1.sum]] w6.drew fun e w' => e = .returned (.bool (lessL y1 x1)) ∧ Below w6.drew.heap.size w6.drew w') := HLS
          replace HST : Hid (lessL y1 x1 = false → qs.map (·.1) = goal) := HST
          replace HGO : Hid (lessL y1 x1 = true → PopSt goal (swapS (qs.map (·.1)) k b) b) := HGO
          obtain ⟨br, hbr⟩ : ∃ br, Hid (lessL y1 x1 = br) := ⟨_, rfl⟩
          rw [hbr.out] at HST HGO HLS
          go_wp2_with fail
          refine wp_region_held_drew (S := fun w' => w'.cell? ⟨G, k * 2, none⟩ = some (.slice xa xn xc) ∧ w'.cell? ⟨G, k * 2 + 1, none⟩ = some (.int .i64 x1.sum) ∧ w'.cell? ⟨G, b * 2, none⟩ = some (.slice ya yn yc) ∧ w'.cell? ⟨G, b * 2 + 1, none⟩ = some (.int .i64 y1.sum) ∧ Below w6.heap.size w6 w') (by kernel_rfl) ?_ (fun hHeld => ?_)
          · exact ⟨d0, d1, c0, c1, (Below.refl _ _).drew⟩
          refine wpAnyH_take (i := 0) (v := ?v29) (at_op rfl) (by kernel_rfl) (by kernel_rfl) (by kernel_rfl) (fun _ _ _ h => h) (Or.inl ⟨by rfl, ?y29⟩) (by assumption) ?r29
          case y29 =>
            intro wx hSx
            go_simp
            try with_reducible rfl
          try simp only [Act.put, List.setIfInBounds_toArray, List.set_cons_zero, List.set_cons_succ]
          refine wpAnyH_take (i := 1) (v := ?v30) (at_op rfl) (by kernel_rfl) (by kernel_rfl) (by kernel_rfl) (fun _ _ _ h => h) (Or.inl ⟨by rfl, ?y30⟩) (by assumption) ?r30
          case y30 =>
            intro wx hSx
            go_simp
            try with_reducible rfl
          try simp only [Act.put, List.setIfInBounds_toArray, List.set_cons_zero, List.set_cons_succ]
          refine wpAnyH_take (i := 2) (v := ?v31) (at_op rfl) (by kernel_rfl) (by kernel_rfl) (by kernel_rfl) (fun _ _ _ h => h) (Or.inl ⟨by rfl, ?y31⟩) (by assumption) ?r31
          case y31 =>
            intro wx hSx
            go_simp
            try with_reducible rfl
          try simp only [Act.put, List.setIfInBounds_toArray, List.set_cons_zero, List.set_cons_succ]
          refine wpAnyH_take (i := 3) (v := ?v32) (at_op rfl) (by kernel_rfl) (by kernel_rfl) (by kernel_rfl) (fun _ _ _ h => h) (Or.inl ⟨by rfl, ?y32⟩) (by assumption) ?r32
          case y32 =>
            intro wx hSx
            go_simp
            try with_reducible rfl
          try simp only [Act.put, List.setIfInBounds_toArray, List.set_cons_zero, List.set_cons_succ]
          refine wpAnyH_take (i := 4) (v := ?v33) (at_op rfl) (by kernel_rfl) (by kernel_rfl) (by kernel_rfl) (fun _ _ _ h => h) (Or.inl ⟨by rfl, ?y33⟩) (by assumption) ?r33
          case y33 =>
            intro wx hSx
            go_simp
            try with_reducible rfl
          try simp only [Act.put, List.setIfInBounds_toArray, List.set_cons_zero, List.set_cons_succ]
          refine wpAnyH_take (i := 5) (v := ?v34) (at_op rfl) (by kernel_rfl) (by kernel_rfl) (by kernel_rfl) (fun _ _ _ h => h) (Or.inl ⟨by rfl, ?y34⟩) (by assumption) ?r34
          case y34 =>
            intro wx hSx
            go_simp
            try with_reducible rfl
          try simp only [Act.put, List.setIfInBounds_toArray, List.set_cons_zero, List.set_cons_succ]
          refine wpAnyH_take (i := 6) (v := ?v35) (at_op rfl) (by kernel_rfl) (by kernel_rfl) (by kernel_rfl) (fun _ _ _ h => h) (Or.inl ⟨by rfl, ?y35⟩) (by assumption) ?r35
          case y35 =>
            intro wx hSx
            go_simp
            try with_reducible rfl
          try simp only [Act.put, List.setIfInBounds_toArray, List.set_cons_zero, List.set_cons_succ]
          refine wpAnyH_take (i := 7) (v := ?v36) (at_op rfl) (by kernel_rfl) (by kernel_rfl) (by kernel_rfl) (fun _ _ _ h => h) (Or.inl ⟨by rfl, ?y36⟩) (by assumption) ?r36
          case y36 =>
            intro wx hSx
            go_simp
            try with_reducible rfl
          try simp only [Act.put, List.setIfInBounds_toArray, List.set_cons_zero, List.set_cons_succ]
          refine wpAnyH_ready (rs := [8]) (by kernel_rfl) (by simp) ?_
          refine AllReadyH.cons (at_op rfl) (fun K hK => ?_) AllReadyH.nil
          go_simp
          refine HLS.out.mono ?_
          rintro e w7 ⟨rfl, hb5⟩
          go_wp2_with fail
          refine hK.out _ _ (keep4 hHeld hb5) (fun _ => ?_)
          clear hK K
          try simp only [Act.put, List.setIfInBounds_toArray, List.set_cons_zero, List.set_cons_succ]
          refine wpAnyH_take (i := 9) (v := ?v37) (at_op rfl) (by kernel_rfl) (by kernel_rfl) (by kernel_rfl) (fun _ _ _ h => h) (Or.inl ⟨by rfl, ?y37⟩) (by assumption) ?r37
          case y37 =>
            intro wx hSx
            go_simp
            try with_reducible rfl
          try simp only [Act.put, List.setIfInBounds_toArray, List.set_cons_zero, List.set_cons_succ]
          refine wpAnyH_done (by kernel_rfl) ?_ _
          have hh7 : hi ≤ w6.drew.heap.size := hh6
          have hB7 : B + 1 ≤ w6.drew.heap.size := by show B + 1 ≤ w6.heap.size; omega
          have hl7 : lo ≤ w6.drew.heap.size := by show lo ≤ w6.heap.size; omega
          have hQ8 := hQ6.drew.below hb5 hh7
          have hO8 : Own intF 3 lo hi w7 (.slice oa on oc) o1.vals := (show Own intF 3 lo hi w6.drew (.slice oa on oc) o1.vals from hO6).same (.of_below hb5 hh7)
          have hsm8 : Same A (B + 1) w2 w7 := (show Same A (B + 1) w2 w6.drew from hsm6).trans (.of_below hb5 hB7)
          have hb8 : Below lo w w7 := hb6.drew.trans (hb5.mono hl7)
          have hsw8 : w2.heap.size ≤ w7.heap.size := Nat.le_trans hsw6 hb5.size
          cases br with
          | false =>
            have HF := Lib.hid (HST.out rfl)
            have hQ6 := hQ8
            have hO6 := hO8
            have hsm6 := hsm8
            have hb6 := hb8
            clear hQ8 hO8 hsm8 hb8 c0 c1 d0 d1 HLS hb5
            obtain ⟨w6, rfl⟩ : ∃ w6, w6 = w7 := ⟨_, rfl⟩
            have z0 : w6.drew.cell? ⟨A, 0, none⟩ = some (.slice none 0 0) := (cells_same hsm6 (j := 0) (Nat.le_refl A) (by omega)).trans HZ.out.1.1
            have z1 : w6.drew.cell? ⟨A, 1, none⟩ = some (.int .i64 0) := (cells_same hsm6 (j := 1) (Nat.le_refl A) (by omega)).trans HZ.out.1.2
            have s0 : w6.drew.cell? ⟨B, 0, none⟩ = some (.slice oa on oc) := (cells_same hsm6 (j := 0) (Nat.le_of_lt hAB) (Nat.lt_succ_self B)).trans HZ.out.2.1.1
            have s1 : w6.drew.cell? ⟨B, 1, none⟩ = some (.int .i64 o1.sum) := (cells_same hsm6 (j := 1) (Nat.le_of_lt hAB) (Nat.lt_succ_self B)).trans HZ.out.2.1.2
            have g0 : w6.drew.frozen? ⟨A, 0, none⟩ = false := (frz_same hsm6 (j := 0) (Nat.le_refl A) (by omega)).trans HZ.out.2.2.1
            have g1 : w6.drew.frozen? ⟨A, 1, none⟩ = false := (frz_same hsm6 (j := 1) (Nat.le_refl A) (by omega)).trans HZ.out.2.2.2
            have hQ7 := hQ6.drew
            have hO7 : Own intF 3 lo hi w6.drew (.slice oa on oc) o1.vals := hO6
            have hb7 : Below lo w w6.drew := hb6.drew
            clear hQ6 hO6 hb6
            go_wp2_with fail
            refine wp_region_held_drew (S := fun w' => w'.cell? ⟨B, 0, none⟩ = some (.slice oa on oc) ∧ w'.cell? ⟨B, 1, none⟩ = some (.int .i64 o1.sum)) (by kernel_rfl) ?_ (fun hHeld => ?_)
            · exact ⟨s0, s1⟩
            generalize w6.drew = wX at *
            refine wpAnyH_take (i := 0) (v := ?v38) (at_op rfl) (by kernel_rfl) (by kernel_rfl) (by kernel_rfl) (fun _ _ _ h => h) (Or.inl ⟨by rfl, ?y38⟩) (by assumption) ?r38
            case y38 =>
              intro wx hSx
              go_simp
              try with_reducible rfl
            try simp only [Act.put, List.setIfInBounds_toArray, List.set_cons_zero, List.set_cons_succ]
            refine wpAnyH_take (i := 1) (v := ?v39) (at_op rfl) (by kernel_rfl) (by kernel_rfl) (by kernel_rfl) (fun _ _ _ h => h) (Or.inl ⟨by rfl, ?y39⟩) (by assumption) ?r39
            case y39 =>
              intro wx hSx
              go_simp
              try with_reducible rfl
            try simp only [Act.put, List.setIfInBounds_toArray, List.set_cons_zero, List.set_cons_succ]
            refine wpAnyH_take (i := 2) (v := ?v40) (at_op rfl) (by kernel_rfl) (by kernel_rfl) (by kernel_rfl) (fun _ _ _ h => h) (Or.inl ⟨by rfl, ?y40⟩) (by assumption) ?r40
            case y40 =>
              intro wx hSx
              go_simp
              try with_reducible rfl
            try simp only [Act.put, List.setIfInBounds_toArray, List.set_cons_zero, List.set_cons_succ]
            refine wpAnyH_ready (rs := [3]) (by kernel_rfl) (by simp) ?_
            refine AllReadyH.cons (at_op rfl) (fun K hK => ?_) AllReadyH.nil
            go_wp2_with fail
            refine hK.out _ _ (keepG hHeld hAB) (fun _ => ?_)
            clear hK K
            try simp only [Act.put, List.setIfInBounds_toArray, List.set_cons_zero, List.set_cons_succ]
            refine wpAnyH_done (by kernel_rfl) ?_ _
            have r0 : ((wX.setCell ⟨A, 0, none⟩ (.slice oa on oc)).setCell ⟨A, 1, none⟩ (.int .i64 o1.sum)).cell? ⟨A, 0, none⟩ = some (.slice oa on oc) :=
              (World.cell?_setCell_other _ _ _ _ (fun c => by injection c with _ c _; omega)).trans (World.cell?_setCell_same (w := wX) (a := ⟨A, 0, none⟩) (v := .slice oa on oc) z0)
            have r1 : ((wX.setCell ⟨A, 0, none⟩ (.slice oa on oc)).setCell ⟨A, 1, none⟩ (.int .i64 o1.sum)).cell? ⟨A, 1, none⟩ = some (.int .i64 o1.sum) :=
              World.cell?_setCell_same (w := wX.setCell ⟨A, 0, none⟩ (.slice oa on oc)) (a := ⟨A, 1, none⟩) (v := .int .i64 o1.sum) ((World.cell?_setCell_other _ _ _ _ (fun c => by injection c with _ c _; omega)).trans z1)
            have HSm : Hid (Same lo hi wX ((wX.setCell ⟨A, 0, none⟩ (.slice oa on oc)).setCell ⟨A, 1, none⟩ (.int .i64 o1.sum))) := same_storeAll (g := A) (.inr hhA) [.slice oa on oc, .int .i64 o1.sum] 0 wX
            have HBB : Hid (Below lo w ((wX.setCell ⟨A, 0, none⟩ (.slice oa on oc)).setCell ⟨A, 1, none⟩ (.int .i64 o1.sum))) := (hb7.setCell (p := ⟨A, 0, none⟩) hloA _).setCell (p := ⟨A, 1, none⟩) hloA _
            have HHI : Hid (hi ≤ ((wX.setCell ⟨A, 0, none⟩ (.slice oa on oc)).setCell ⟨A, 1, none⟩ (.int .i64 o1.sum)).heap.size) := Nat.le_trans hh HBB.out.size
            go_wp2
            refine bodyPost_ret (v := .tuple #[.slice (some ⟨G, 0, none⟩) m c, .agg #[.slice oa on oc, .int .i64 o1.sum]]) (by simp [results, Try.results101, go_sem, r0, r1]) rfl ?_
            exact ⟨_, _, _, _, rfl, ⟨qs, (hQ7.same HSm.out).wide (Nat.le_refl _) HHI.out, HF.out⟩, (hO7.same HSm.out).wide (Nat.le_refl _) HHI.out, HBB.out⟩
          | true =>
            have HGT := Lib.hid (HGO.out rfl)
            have hGw : G < w6.heap.size := by omega
            have q0 : w7.drew.cell? ⟨G, k * 2, none⟩ = some (.slice xa xn xc) := (hb5.cell (p := ⟨G, _, none⟩) hGw).trans d0
            have q1 : w7.drew.cell? ⟨G, k * 2 + 1, none⟩ = some (.int .i64 x1.sum) := (hb5.cell (p := ⟨G, _, none⟩) hGw).trans d1
            have q2 : w7.drew.cell? ⟨G, b * 2, none⟩ = some (.slice ya yn yc) := (hb5.cell (p := ⟨G, _, none⟩) hGw).trans c0
            have q3 : w7.drew.cell? ⟨G, b * 2 + 1, none⟩ = some (.int .i64 y1.sum) := (hb5.cell (p := ⟨G, _, none⟩) hGw).trans c1
            clear HLS HST HGO c0 c1 d0 d1 hb5 hQ6 hO6 hsm6 hb6
            have hQ9 := hQ8.drew
            have hO9 : Own intF 3 lo hi w7.drew (.slice oa on oc) o1.vals := hO8
            have hsm9 : Same A (B + 1) w2 w7.drew := hsm8
            have hb9 : Below lo w w7.drew := hb8.drew
            have hsw9 : w2.heap.size ≤ w7.drew.heap.size := hsw8
            clear hQ8 hO8 hsm8 hb8 hsw8
            have HSd := Lib.hid (HXK.out w7.drew hQ9)
            have HO10 := Lib.hid (own_keepFarAll hne0 (stF.enc (x1, (xa, xn, xc))) (b * 2) (own_keepFarAll hne0 (stF.enc (y1, (ya, yn, yc))) (k * 2) hO9))
            have HSM := Lib.hid ((hsm9.trans (same_storeAll (.inl hGA2) (stF.enc (y1, (ya, yn, yc))) (k * 2) _)).trans (same_storeAll (.inl hGA2) (stF.enc (x1, (xa, xn, xc))) (b * 2) _))
            have HBF : Hid (Below lo w (storeAll G (stF.enc (x1, (xa, xn, xc))) (b * 2) (storeAll G (stF.enc (y1, (ya, yn, yc))) (k * 2) w7.drew))) := blw_storeAll (blw_storeAll hb9 gl _ _) gl _ _
            have HSZ : Hid (w2.heap.size ≤ (storeAll G (stF.enc (x1, (xa, xn, xc))) (b * 2) (storeAll G (stF.enc (y1, (ya, yn, yc))) (k * 2) w7.drew)).heap.size) := by show _ ≤ _; rw [size_storeAll, size_storeAll]; exact hsw9
            have p0 : w7.cell? ⟨G, k * 2, none⟩ = some (.slice xa xn xc) := q0
            have p1 : w7.cell? ⟨G, k * 2 + 1, none⟩ = some (.int .i64 x1.sum) := q1
            have p2 : w7.cell? ⟨G, b * 2, none⟩ = some (.slice ya yn yc) := q2
            have p3 : w7.cell? ⟨G, b * 2 + 1, none⟩ = some (.int .i64 y1.sum) := q3
            have f0 := hQ9.frz HQL.out.symm (k * 2)
            have f1 := hQ9.frz HQL.out.symm (k * 2 + 1)
            have f2 := hQ9.frz HQL.out.symm (b * 2)
            have f3 := hQ9.frz HQL.out.symm (b * 2 + 1)
            have g0 : w7.frozen? ⟨G, k * 2, none⟩ = false := f0
            have g1 : w7.frozen? ⟨G, k * 2 + 1, none⟩ = false := f1
            have g2 : w7.frozen? ⟨G, b * 2, none⟩ = false := f2
            have g3 : w7.frozen? ⟨G, b * 2 + 1, none⟩ = false := f3
            have hkD := hkd.out.1
            have y2 : ((w7.drew.setCell ⟨G, k * 2, none⟩ (.slice ya yn yc)).setCell ⟨G, k * 2 + 1, none⟩ (.int .i64 y1.sum)).cell? ⟨G, b * 2, none⟩ = some (.slice ya yn yc) :=
              (World.cell?_setCell_other _ _ _ _ (fun c => by injection c with _ c _; omega)).trans ((World.cell?_setCell_other _ _ _ _ (fun c => by injection c with _ c _; omega)).trans q2)
            have y3 : ((w7.drew.setCell ⟨G, k * 2, none⟩ (.slice ya yn yc)).setCell ⟨G, k * 2 + 1, none⟩ (.int .i64 y1.sum)).cell? ⟨G, b * 2 + 1, none⟩ = some (.int .i64 y1.sum) :=
              (World.cell?_setCell_other _ _ _ _ (fun c => by injection c with _ c _; omega)).trans ((World.cell?_setCell_other _ _ _ _ (fun c => by injection c with _ c _; omega)).trans q3)
            have y4 : ((w7.setCell ⟨G, k * 2, none⟩ (.slice ya yn yc)).setCell ⟨G, k * 2 + 1, none⟩ (.int .i64 y1.sum)).cell? ⟨G, b * 2, none⟩ = some (.slice ya yn yc) :=
              (World.cell?_setCell_other _ _ _ _ (fun c => by injection c with _ c _; omega)).trans ((World.cell?_setCell_other _ _ _ _ (fun c => by injection c with _ c _; omega)).trans p2)
            have y5 : ((w7.setCell ⟨G, k * 2, none⟩ (.slice ya yn yc)).setCell ⟨G, k * 2 + 1, none⟩ (.int .i64 y1.sum)).cell? ⟨G, b * 2 + 1, none⟩ = some (.int .i64 y1.sum) :=
              (World.cell?_setCell_other _ _ _ _ (fun c => by injection c with _ c _; omega)).trans ((World.cell?_setCell_other _ _ _ _ (fun c => by injection c with _ c _; omega)).trans p3)
            have n1 : ¬ b * 2 = k * 2 := by omega
            have n2 : ¬ b * 2 = k * 2 + 1 := by omega
            have n3 : ¬ b * 2 + 1 = k * 2 := by omega
            have n4 : ¬ k * 2 = b * 2 := by omega
            have n5 : ¬ k * 2 + 1 = b * 2 := by omega
            have n6 : ¬ k * 2 = b * 2 + 1 := by omega
            have n7 : ¬ b = k := by omega
            have n8 : ¬ k = b := by omega
            clear hkD hQ9 hO9 hsm9 hb9 hsw9 hql HXK HDN
            go_wp2_with fail
            go_region
            all_goals
              go_wp2
              go_roundw
              case rel => exact ⟨b, (qs.set k (y1, (ya, yn, yc))).set b (x1, (xa, xn, xc)), (by rw [List.length_set, List.length_set]; exact HQL.out), by have := hkd.out; omega, rfl, HSd.out, HO10.out, HSM.out, (by rw [HSW.out]; exact HGT.out), HBF.out, HSZ.out⟩
              case measure => have := hkd.out; simp [intOf]; omega
      · have hai : ¬ (a : Int) < (m : Int) := by omega
        have had1 : decide ((a : Int) < (m : Int)) = false := decide_eq_false hai
        have had2 : decide (a < m) = false := decide_eq_false h2
        have HDN : Hid (b = downN (qs.map (·.1)) k) := by
          show _ = _
          unfold downN
          rw [← HBK.out, ← HAK.out, hLN.out, if_neg (fun c => h2 c.1)]
        go_wp2_with fail
        refine wp_region_held_drew (S := fun w' => w' = wr.drew) (by kernel_rfl) ?_ (fun hHeld => ?_)
        · exact rfl
        refine wpAnyH_take (i := 0) (v := ?v41) (at_op rfl) (by kernel_rfl) (by kernel_rfl) (by kernel_rfl) (fun _ _ _ h => h) (Or.inl ⟨by rfl, ?y41⟩) (by assumption) ?r41
        case y41 =>
          intro wx hSx
          subst hSx
          go_simp
          try with_reducible rfl
        try simp only [Act.put, List.setIfInBounds_toArray, List.set_cons_zero, List.set_cons_succ]
        refine wpAnyH_take (i := 1) (v := ?v42) (at_op rfl) (by kernel_rfl) (by kernel_rfl) (by kernel_rfl) (fun _ _ _ h => h) (Or.inl ⟨by rfl, ?y42⟩) (by assumption) ?r42
        case y42 =>
          intro wx hSx
          subst hSx
          go_simp
          try with_reducible rfl
        try simp only [Act.put, List.setIfInBounds_toArray, List.set_cons_zero, List.set_cons_succ]
        refine wpAnyH_take (i := 2) (v := ?v43) (at_op rfl) (by kernel_rfl) (by kernel_rfl) (by kernel_rfl) (fun _ _ _ h => h) (Or.inl ⟨by rfl, ?y43⟩) (by assumption) ?r43
        case y43 =>
          intro wx hSx
          subst hSx
          go_simp
          try with_reducible rfl
        try simp only [Act.put, List.setIfInBounds_toArray, List.set_cons_zero, List.set_cons_succ]
        refine wpAnyH_take (i := 3) (v := ?v44) (at_op rfl) (by kernel_rfl) (by kernel_rfl) (by kernel_rfl) (fun _ _ _ h => h) (Or.inl ⟨by rfl, ?y44⟩) (by assumption) ?r44
        case y44 =>
          intro wx hSx
          subst hSx
          go_simp
          try with_reducible rfl
        try simp only [Act.put, List.setIfInBounds_toArray, List.set_cons_zero, List.set_cons_succ]
        refine wpAnyH_take (i := 4) (v := ?v45) (at_op rfl) (by kernel_rfl) (by kernel_rfl) (by kernel_rfl) (fun _ _ _ h => h) (Or.inl ⟨by rfl, ?y45⟩) (by assumption) ?r45
        case y45 =>
          intro wx hSx
          subst hSx
          go_simp
          try with_reducible rfl
        try simp only [Act.put, List.setIfInBounds_toArray, List.set_cons_zero, List.set_cons_succ]
        refine wpAnyH_take (i := 5) (v := ?v46) (at_op rfl) (by kernel_rfl) (by kernel_rfl) (by kernel_rfl) (fun _ _ _ h => h) (Or.inl ⟨by rfl, ?y46⟩) (by assumption) ?r46
        case y46 =>
          intro wx hSx
          subst hSx
          go_simp
          try with_reducible rfl
        try simp only [Act.put, List.setIfInBounds_toArray, List.set_cons_zero, List.set_cons_succ]
        refine wpAnyH_take (i := 6) (v := undef) (at_op rfl) (by kernel_rfl) (by kernel_rfl) (by kernel_rfl) (fun _ _ _ h => h) (Or.inr ⟨by rfl, rfl⟩) (by assumption) ?_
        try simp only [Act.put, List.setIfInBounds_toArray, List.set_cons_zero, List.set_cons_succ]
        refine wpAnyH_take (i := 7) (v := undef) (at_op rfl) (by kernel_rfl) (by kernel_rfl) (by kernel_rfl) (fun _ _ _ h => h) (Or.inr ⟨by rfl, rfl⟩) (by assumption) ?_
        try simp only [Act.put, List.setIfInBounds_toArray, List.set_cons_zero, List.set_cons_succ]
        refine wpAnyH_take (i := 8) (v := undef) (at_op rfl) (by kernel_rfl) (by kernel_rfl) (by kernel_rfl) (fun _ _ _ h => h) (Or.inr ⟨by rfl, rfl⟩) (by assumption) ?_
        try simp only [Act.put, List.setIfInBounds_toArray, List.set_cons_zero, List.set_cons_succ]
        refine wpAnyH_take (i := 9) (v := undef) (at_op rfl) (by kernel_rfl) (by kernel_rfl) (by kernel_rfl) (fun _ _ _ h => h) (Or.inr ⟨by rfl, rfl⟩) (by assumption) ?_
        try simp only [Act.put, List.setIfInBounds_toArray, List.set_cons_zero, List.set_cons_succ]
        refine wpAnyH_take (i := 10) (v := undef) (at_op rfl) (by kernel_rfl) (by kernel_rfl) (by kernel_rfl) (fun _ _ _ h => h) (Or.inr ⟨by rfl, rfl⟩) (by assumption) ?_
        try simp only [Act.put, List.setIfInBounds_toArray, List.set_cons_zero, List.set_cons_succ]
        refine wpAnyH_take (i := 11) (v := undef) (at_op rfl) (by kernel_rfl) (by kernel_rfl) (by kernel_rfl) (fun _ _ _ h => h) (Or.inr ⟨by rfl, rfl⟩) (by assumption) ?_
        try simp only [Act.put, List.setIfInBounds_toArray, List.set_cons_zero, List.set_cons_succ]
        refine wpAnyH_take (i := 12) (v := undef) (at_op rfl) (by kernel_rfl) (by kernel_rfl) (by kernel_rfl) (fun _ _ _ h => h) (Or.inr ⟨by rfl, rfl⟩) (by assumption) ?_
        try simp only [Act.put, List.setIfInBounds_toArray, List.set_cons_zero, List.set_cons_succ]
        refine wpAnyH_take (i := 13) (v := undef) (at_op rfl) (by kernel_rfl) (by kernel_rfl) (by kernel_rfl) (fun _ _ _ h => h) (Or.inr ⟨by rfl, rfl⟩) (by assumption) ?_
        try simp only [Act.put, List.setIfInBounds_toArray, List.set_cons_zero, List.set_cons_succ]
        refine wpAnyH_take (i := 14) (v := undef) (at_op rfl) (by kernel_rfl) (by kernel_rfl) (by kernel_rfl) (fun _ _ _ h => h) (Or.inr ⟨by rfl, rfl⟩) (by assumption) ?_
        try simp only [Act.put, List.setIfInBounds_toArray, List.set_cons_zero, List.set_cons_succ]
        refine wpAnyH_take (i := 15) (v := undef) (at_op rfl) (by kernel_rfl) (by kernel_rfl) (by kernel_rfl) (fun _ _ _ h => h) (Or.inr ⟨by rfl, rfl⟩) (by assumption) ?_
        try simp only [Act.put, List.setIfInBounds_toArray, List.set_cons_zero, List.set_cons_succ]
        refine wpAnyH_take (i := 16) (v := ?v47) (at_op rfl) (by kernel_rfl) (by kernel_rfl) (by kernel_rfl) (fun _ _ _ h => h) (Or.inl ⟨by rfl, ?y47⟩) (by assumption) ?r47
        case y47 =>
          intro wx hSx
          subst hSx
          go_simp
          try with_reducible rfl
        try simp only [Act.put, List.setIfInBounds_toArray, List.set_cons_zero, List.set_cons_succ]
        refine wpAnyH_done (by kernel_rfl) ?_ _
        have hQ6 := hQ.drew
        have hO6 : Own intF 3 lo hi wr.drew (.slice oa on oc) o1.vals := hO
        have hsm6 : Same A (B + 1) w2 wr.drew := hsm
        have hb6 : Below lo w wr.drew := hb.drew
        have hsw6 : w2.heap.size ≤ wr.drew.heap.size := hsw
        clear hQ hO hsm hb hsw had1 had2
        generalize wr.drew = w6 at *
        obtain ⟨G1, e1, -, -, -, c0, c1, hru⟩ := hQ6.at (show b < qs.length by omega)
        obtain ⟨G2, e2, -, -, -, d0, d1, hru'⟩ := hQ6.at (show k < qs.length by omega)
        injection e1 with e1
        injection e1 with e1 _ _
        subst e1
        injection e2 with e2
        injection e2 with e2 _ _
        subst e2
        have hh6 : hi ≤ w6.heap.size := by omega
        have HST : Hid (lessL (qs[b]'(by omega)).1 (qs[k]'(by omega)).1 = false → qs.map (·.1) = goal) := fun h => pop_stop HS.out (fun c => by rw [← HDN.out, stA_map (by omega), stA_map (by omega), h] at c; exact absurd c.2 (by decide))
        have HGO : Hid (lessL (qs[b]'(by omega)).1 (qs[k]'(by omega)).1 = true → PopSt goal (swapS (qs.map (·.1)) k b) b) := fun h => by
          have e := pop_go HS.out (by rw [hLN.out, ← HBK.out]; exact hlt) (by rw [← HDN.out, stA_map (by omega), stA_map (by omega)]; exact h)
          rwa [← HDN.out] at e
        have HSW := Lib.hid (swap_map (ps := qs) (i := k) (j := b) (by omega) (by omega))
        have HXK : Hid (∀ w, SOwn M lo hi w (.slice (some ⟨G, 0, none⟩) m c) qs → SOwn M lo hi (storeAll G (stF.enc (qs[k]'(by omega))) (b * 2) (storeAll G (stF.enc (qs[b]'(by omega))) (k * 2) w)) (.slice (some ⟨G, 0, none⟩) m c) ((qs.set k (qs[b]'(by omega))).set b (qs[k]'(by omega)))) := fun w h => h.swap hql.symm (by omega) (by omega)
        have HLS := Lib.hid (less_impl (w := w6.drew) (qs[b]'(by omega)).1 (qs[k]'(by omega)).1 hru hh6 hru' hh6)
        have hkd : Hid (k < b ∧ b < m) := ⟨by have := HBK.out; have := HAK.out; omega, by omega⟩
        clear hru hru'
        generalize qs[b]'(by omega) = py at *
        generalize qs[k]'(by omega) = px at *
        obtain ⟨x1, xa, xn, xc⟩ := px
        obtain ⟨y1, ya, yn, yc⟩ := py
        replace d0 : w6.cell? ⟨G, k * 2, none⟩ = some (.slice xa xn xc) := d0
        replace d1 : w6.cell? ⟨G, k * 2 + 1, none⟩ = some (.int .i64 x1.sum) := d1
        replace c0 : w6.cell? ⟨G, b * 2, none⟩ = some (.slice ya yn yc) := c0
        replace c1 : w6.cell? ⟨G, b * 2 + 1, none⟩ = some (.int .i64 y1.sum) := c1
        replace HLS : Hid (Calls Try.prog 129 #[.agg #[.slice ya yn yc, .int .i64 y1.sum], .agg #[.slice xa xn xc, .int .i64 x1.sum]] w6.drew fun e w' => e = .returned (.bool (lessL y1 x1)) ∧ Below w6.drew.heap.size w6.drew w') := HLS
        replace HST : Hid (lessL y1 x1 = false → qs.map (·.1) = goal) := HST
        replace HGO : Hid (lessL y1 x1 = true → PopSt goal (swapS (qs.map (·.1)) k b) b) := HGO
        obtain ⟨br, hbr⟩ : ∃ br, Hid (lessL y1 x1 = br) := ⟨_, rfl⟩
        rw [hbr.out] at HST HGO HLS
        go_wp2_with fail
        refine wp_region_held_drew (S := fun w' => w'.cell? ⟨G, k * 2, none⟩ = some (.slice xa xn xc) ∧ w'.cell? ⟨G, k * 2 + 1, none⟩ = some (.int .i64 x1.sum) ∧ w'.cell? ⟨G, b * 2, none⟩ = some (.slice ya yn yc) ∧ w'.cell? ⟨G, b * 2 + 1, none⟩ = some (.int .i64 y1.sum) ∧ Below w6.heap.size w6 w') (by kernel_rfl) ?_ (fun hHeld => ?_)
        · exact ⟨d0, d1, c0, c1, (Below.refl _ _).drew⟩
        refine wpAnyH_take (i := 0) (v := ?v48) (at_op rfl) (by kernel_rfl) (by kernel_rfl) (by kernel_rfl) (fun _ _ _ h => h) (Or.inl ⟨by rfl, ?y48⟩) (by assumption) ?r48
        case y48 =>
          intro wx hSx
          go_simp
          try with_reducible rfl
        try simp only [Act.put, List.setIfInBounds_toArray, List.set_cons_zero, List.set_cons_succ]
        refine wpAnyH_take (i := 1) (v := ?v49) (at_op rfl) (by kernel_rfl) (by kernel_rfl) (by kernel_rfl) (fun _ _ _ h => h) (Or.inl ⟨by rfl, ?y49⟩) (by assumption) ?r49
        case y49 =>
          intro wx hSx
          go_simp
          try with_reducible rfl
        try simp only [Act.put, List.setIfInBounds_toArray, List.set_cons_zero, List.set_cons_succ]
        refine wpAnyH_take (i := 2) (v := ?v50) (at_op rfl) (by kernel_rfl) (by kernel_rfl) (by kernel_rfl) (fun _ _ _ h => h) (Or.inl ⟨by rfl, ?y50⟩) (by assumption) ?r50
        case y50 =>
          intro wx hSx
          go_simp
          try with_reducible rfl
        try simp only [Act.put, List.setIfInBounds_toArray, List.set_cons_zero, List.set_cons_succ]
        refine wpAnyH_take (i := 3) (v := ?v51) (at_op rfl) (by kernel_rfl) (by kernel_rfl) (by kernel_rfl) (fun _ _ _ h => h) (Or.inl ⟨by rfl, ?y51⟩) (by assumption) ?r51
        case y51 =>
          intro wx hSx
          go_simp
          try with_reducible rfl
        try simp only [Act.put, List.setIfInBounds_toArray, List.set_cons_zero, List.set_cons_succ]
        refine wpAnyH_take (i := 4) (v := ?v52) (at_op rfl) (by kernel_rfl) (by kernel_rfl) (by kernel_rfl) (fun _ _ _ h => h) (Or.inl ⟨by rfl, ?y52⟩) (by assumption) ?r52
        case y52 =>
          intro wx hSx
          go_simp
          try with_reducible rfl
        try simp only [Act.put, List.setIfInBounds_toArray, List.set_cons_zero, List.set_cons_succ]
        refine wpAnyH_take (i := 5) (v := ?v53) (at_op rfl) (by kernel_rfl) (by kernel_rfl) (by kernel_rfl) (fun _ _ _ h => h) (Or.inl ⟨by rfl, ?y53⟩) (by assumption) ?r53
        case y53 =>
          intro wx hSx
          go_simp
          try with_reducible rfl
        try simp only [Act.put, List.setIfInBounds_toArray, List.set_cons_zero, List.set_cons_succ]
        refine wpAnyH_take (i := 6) (v := ?v54) (at_op rfl) (by kernel_rfl) (by kernel_rfl) (by kernel_rfl) (fun _ _ _ h => h) (Or.inl ⟨by rfl, ?y54⟩) (by assumption) ?r54
        case y54 =>
          intro wx hSx
          go_simp
          try with_reducible rfl
        try simp only [Act.put, List.setIfInBounds_toArray, List.set_cons_zero, List.set_cons_succ]
        refine wpAnyH_take (i := 7) (v := ?v55) (at_op rfl) (by kernel_rfl) (by kernel_rfl) (by kernel_rfl) (fun _ _ _ h => h) (Or.inl ⟨by rfl, ?y55⟩) (by assumption) ?r55
        case y55 =>
          intro wx hSx
          go_simp
          try with_reducible rfl
        try simp only [Act.put, List.setIfInBounds_toArray, List.set_cons_zero, List.set_cons_succ]
        refine wpAnyH_ready (rs := [8]) (by kernel_rfl) (by simp) ?_
        refine AllReadyH.cons (at_op rfl) (fun K hK => ?_) AllReadyH.nil
        go_simp
        refine HLS.out.mono ?_
        rintro e w7 ⟨rfl, hb5⟩
        go_wp2_with fail
        refine hK.out _ _ (keep4 hHeld hb5) (fun _ => ?_)
        clear hK K
        try simp only [Act.put, List.setIfInBounds_toArray, List.set_cons_zero, List.set_cons_succ]
        refine wpAnyH_take (i := 9) (v := ?v56) (at_op rfl) (by kernel_rfl) (by kernel_rfl) (by kernel_rfl) (fun _ _ _ h => h) (Or.inl ⟨by rfl, ?y56⟩) (by assumption) ?r56
        case y56 =>
          intro wx hSx
          go_simp
          try with_reducible rfl
        try simp only [Act.put, List.setIfInBounds_toArray, List.set_cons_zero, List.set_cons_succ]
        refine wpAnyH_done (by kernel_rfl) ?_ _
        have hh7 : hi ≤ w6.drew.heap.size := hh6
        have hB7 : B + 1 ≤ w6.drew.heap.size := by show B + 1 ≤ w6.heap.size; omega
        have hl7 : lo ≤ w6.drew.heap.size := by show lo ≤ w6.heap.size; omega
        have hQ8 := hQ6.drew.below hb5 hh7
        have hO8 : Own intF 3 lo hi w7 (.slice oa on oc) o1.vals := (show Own intF 3 lo hi w6.drew (.slice oa on oc) o1.vals from hO6).same (.of_below hb5 hh7)
        have hsm8 : Same A (B + 1) w2 w7 := (show Same A (B + 1) w2 w6.drew from hsm6).trans (.of_below hb5 hB7)
        have hb8 : Below lo w w7 := hb6.drew.trans (hb5.mono hl7)
        have hsw8 : w2.heap.size ≤ w7.heap.size := Nat.le_trans hsw6 hb5.size
        cases br with
        | false =>
          have HF := Lib.hid (HST.out rfl)
          have hQ6 := hQ8
          have hO6 := hO8
          have hsm6 := hsm8
          have hb6 := hb8
          clear hQ8 hO8 hsm8 hb8 c0 c1 d0 d1 HLS hb5
          obtain ⟨w6, rfl⟩ : ∃ w6, w6 = w7 := ⟨_, rfl⟩
          have z0 : w6.drew.cell? ⟨A, 0, none⟩ = some (.slice none 0 0) := (cells_same hsm6 (j := 0) (Nat.le_refl A) (by omega)).trans HZ.out.1.1
          have z1 : w6.drew.cell? ⟨A, 1, none⟩ = some (.int .i64 0) := (cells_same hsm6 (j := 1) (Nat.le_refl A) (by omega)).trans HZ.out.1.2
          have s0 : w6.drew.cell? ⟨B, 0, none⟩ = some (.slice oa on oc) := (cells_same hsm6 (j := 0) (Nat.le_of_lt hAB) (Nat.lt_succ_self B)).trans HZ.out.2.1.1
          have s1 : w6.drew.cell? ⟨B, 1, none⟩ = some (.int .i64 o1.sum) := (cells_same hsm6 (j := 1) (Nat.le_of_lt hAB) (Nat.lt_succ_self B)).trans HZ.out.2.1.2
          have g0 : w6.drew.frozen? ⟨A, 0, none⟩ = false := (frz_same hsm6 (j := 0) (Nat.le_refl A) (by omega)).trans HZ.out.2.2.1
          have g1 : w6.drew.frozen? ⟨A, 1, none⟩ = false := (frz_same hsm6 (j := 1) (Nat.le_refl A) (by omega)).trans HZ.out.2.2.2
          have hQ7 := hQ6.drew
          have hO7 : Own intF 3 lo hi w6.drew (.slice oa on oc) o1.vals := hO6
          have hb7 : Below lo w w6.drew := hb6.drew
          clear hQ6 hO6 hb6
          go_wp2_with fail
          refine wp_region_held_drew (S := fun w' => w'.cell? ⟨B, 0, none⟩ = some (.slice oa on oc) ∧ w'.cell? ⟨B, 1, none⟩ = some (.int .i64 o1.sum)) (by kernel_rfl) ?_ (fun hHeld => ?_)
          · exact ⟨s0, s1⟩
          generalize w6.drew = wX at *
          refine wpAnyH_take (i := 0) (v := ?v57) (at_op rfl) (by kernel_rfl) (by kernel_rfl) (by kernel_rfl) (fun _ _ _ h => h) (Or.inl ⟨by rfl, ?y57⟩) (by assumption) ?r57
          case y57 =>
            intro wx hSx
            go_simp
            try with_reducible rfl
          try simp only [Act.put, List.setIfInBounds_toArray, List.set_cons_zero, List.set_cons_succ]
          refine wpAnyH_take (i := 1) (v := ?v58) (at_op rfl) (by kernel_rfl) (by kernel_rfl) (by kernel_rfl) (fun _ _ _ h => h) (Or.inl ⟨by rfl, ?y58⟩) (by assumption) ?r58
          case y58 =>
            intro wx hSx
            go_simp
            try with_reducible rfl
          try simp only [Act.put, List.setIfInBounds_toArray, List.set_cons_zero, List.set_cons_succ]
          refine wpAnyH_take (i := 2) (v := ?v59) (at_op rfl) (by kernel_rfl) (by kernel_rfl) (by kernel_rfl) (fun _ _ _ h => h) (Or.inl ⟨by rfl, ?y59⟩) (by assumption) ?r59
          case y59 =>
            intro wx hSx
            go_simp
            try with_reducible rfl
          try simp only [Act.put, List.setIfInBounds_toArray, List.set_cons_zero, List.set_cons_succ]
          refine wpAnyH_ready (rs := [3]) (by kernel_rfl) (by simp) ?_
          refine AllReadyH.cons (at_op rfl) (fun K hK => ?_) AllReadyH.nil
          go_wp2_with fail
          refine hK.out _ _ (keepG hHeld hAB) (fun _ => ?_)
          clear hK K
          try simp only [Act.put, List.setIfInBounds_toArray, List.set_cons_zero, List.set_cons_succ]
          refine wpAnyH_done (by kernel_rfl) ?_ _
          have r0 : ((wX.setCell ⟨A, 0, none⟩ (.slice oa on oc)).setCell ⟨A, 1, none⟩ (.int .i64 o1.sum)).cell? ⟨A, 0, none⟩ = some (.slice oa on oc) :=
            (World.cell?_setCell_other _ _ _ _ (fun c => by injection c with _ c _; omega)).trans (World.cell?_setCell_same (w := wX) (a := ⟨A, 0, none⟩) (v := .slice oa on oc) z0)
          have r1 : ((wX.setCell ⟨A, 0, none⟩ (.slice oa on oc)).setCell ⟨A, 1, none⟩ (.int .i64 o1.sum)).cell? ⟨A, 1, none⟩ = some (.int .i64 o1.sum) :=
            World.cell?_setCell_same (w := wX.setCell ⟨A, 0, none⟩ (.slice oa on oc)) (a := ⟨A, 1, none⟩) (v := .int .i64 o1.sum) ((World.cell?_setCell_other _ _ _ _ (fun c => by injection c with _ c _; omega)).trans z1)
          have HSm : Hid (Same lo hi wX ((wX.setCell ⟨A, 0, none⟩ (.slice oa on oc)).setCell ⟨A, 1, none⟩ (.int .i64 o1.sum))) := same_storeAll (g := A) (.inr hhA) [.slice oa on oc, .int .i64 o1.sum] 0 wX
          have HBB : Hid (Below lo w ((wX.setCell ⟨A, 0, none⟩ (.slice oa on oc)).setCell ⟨A, 1, none⟩ (.int .i64 o1.sum))) := (hb7.setCell (p := ⟨A, 0, none⟩) hloA _).setCell (p := ⟨A, 1, none⟩) hloA _
          have HHI : Hid (hi ≤ ((wX.setCell ⟨A, 0, none⟩ (.slice oa on oc)).setCell ⟨A, 1, none⟩ (.int .i64 o1.sum)).heap.size) := Nat.le_trans hh HBB.out.size
          go_wp2
          refine bodyPost_ret (v := .tuple #[.slice (some ⟨G, 0, none⟩) m c, .agg #[.slice oa on oc, .int .i64 o1.sum]]) (by simp [results, Try.results101, go_sem, r0, r1]) rfl ?_
          exact ⟨_, _, _, _, rfl, ⟨qs, (hQ7.same HSm.out).wide (Nat.le_refl _) HHI.out, HF.out⟩, (hO7.same HSm.out).wide (Nat.le_refl _) HHI.out, HBB.out⟩
        | true =>
          have HGT := Lib.hid (HGO.out rfl)
          have hGw : G < w6.heap.size := by omega
          have q0 : w7.drew.cell? ⟨G, k * 2, none⟩ = some (.slice xa xn xc) := (hb5.cell (p := ⟨G, _, none⟩) hGw).trans d0
          have q1 : w7.drew.cell? ⟨G, k * 2 + 1, none⟩ = some (.int .i64 x1.sum) := (hb5.cell (p := ⟨G, _, none⟩) hGw).trans d1
          have q2 : w7.drew.cell? ⟨G, b * 2, none⟩ = some (.slice ya yn yc) := (hb5.cell (p := ⟨G, _, none⟩) hGw).trans c0
          have q3 : w7.drew.cell? ⟨G, b * 2 + 1, none⟩ = some (.int .i64 y1.sum) := (hb5.cell (p := ⟨G, _, none⟩) hGw).trans c1
          clear HLS HST HGO c0 c1 d0 d1 hb5 hQ6 hO6 hsm6 hb6
          have hQ9 := hQ8.drew
          have hO9 : Own intF 3 lo hi w7.drew (.slice oa on oc) o1.vals := hO8
          have hsm9 : Same A (B + 1) w2 w7.drew := hsm8
          have hb9 : Below lo w w7.drew := hb8.drew
          have hsw9 : w2.heap.size ≤ w7.drew.heap.size := hsw8
          clear hQ8 hO8 hsm8 hb8 hsw8
          have HSd := Lib.hid (HXK.out w7.drew hQ9)
          have HO10 := Lib.hid (own_keepFarAll hne0 (stF.enc (x1, (xa, xn, xc))) (b * 2) (own_keepFarAll hne0 (stF.enc (y1, (ya, yn, yc))) (k * 2) hO9))
          have HSM := Lib.hid ((hsm9.trans (same_storeAll (.inl hGA2) (stF.enc (y1, (ya, yn, yc))) (k * 2) _)).trans (same_storeAll (.inl hGA2) (stF.enc (x1, (xa, xn, xc))) (b * 2) _))
          have HBF : Hid (Below lo w (storeAll G (stF.enc (x1, (xa, xn, xc))) (b * 2) (storeAll G (stF.enc (y1, (ya, yn, yc))) (k * 2) w7.drew))) := blw_storeAll (blw_storeAll hb9 gl _ _) gl _ _
          have HSZ : Hid (w2.heap.size ≤ (storeAll G (stF.enc (x1, (xa, xn, xc))) (b * 2) (storeAll G (stF.enc (y1, (ya, yn, yc))) (k * 2) w7.drew)).heap.size) := by show _ ≤ _; rw [size_storeAll, size_storeAll]; exact hsw9
          have p0 : w7.cell? ⟨G, k * 2, none⟩ = some (.slice xa xn xc) := q0
          have p1 : w7.cell? ⟨G, k * 2 + 1, none⟩ = some (.int .i64 x1.sum) := q1
          have p2 : w7.cell? ⟨G, b * 2, none⟩ = some (.slice ya yn yc) := q2
          have p3 : w7.cell? ⟨G, b * 2 + 1, none⟩ = some (.int .i64 y1.sum) := q3
          have f0 := hQ9.frz HQL.out.symm (k * 2)
          have f1 := hQ9.frz HQL.out.symm (k * 2 + 1)
          have f2 := hQ9.frz HQL.out.symm (b * 2)
          have f3 := hQ9.frz HQL.out.symm (b * 2 + 1)
          have g0 : w7.frozen? ⟨G, k * 2, none⟩ = false := f0
          have g1 : w7.frozen? ⟨G, k * 2 + 1, none⟩ = false := f1
          have g2 : w7.frozen? ⟨G, b * 2, none⟩ = false := f2
          have g3 : w7.frozen? ⟨G, b * 2 + 1, none⟩ = false := f3
          have hkD := hkd.out.1
          have y2 : ((w7.drew.setCell ⟨G, k * 2, none⟩ (.slice ya yn yc)).setCell ⟨G, k * 2 + 1, none⟩ (.int .i64 y1.sum)).cell? ⟨G, b * 2, none⟩ = some (.slice ya yn yc) :=
            (World.cell?_setCell_other _ _ _ _ (fun c => by injection c with _ c _; omega)).trans ((World.cell?_setCell_other _ _ _ _ (fun c => by injection c with _ c _; omega)).trans q2)
          have y3 : ((w7.drew.setCell ⟨G, k * 2, none⟩ (.slice ya yn yc)).setCell ⟨G, k * 2 + 1, none⟩ (.int .i64 y1.sum)).cell? ⟨G, b * 2 + 1, none⟩ = some (.int .i64 y1.sum) :=
            (World.cell?_setCell_other _ _ _ _ (fun c => by injection c with _ c _; omega)).trans ((World.cell?_setCell_other _ _ _ _ (fun c => by injection c with _ c _; omega)).trans q3)
          have y4 : ((w7.setCell ⟨G, k * 2, none⟩ (.slice ya yn yc)).setCell ⟨G, k * 2 + 1, none⟩ (.int .i64 y1.sum)).cell? ⟨G, b * 2, none⟩ = some (.slice ya yn yc) :=
            (World.cell?_setCell_other _ _ _ _ (fun c => by injection c with _ c _; omega)).trans ((World.cell?_setCell_other _ _ _ _ (fun c => by injection c with _ c _; omega)).trans p2)
          have y5 : ((w7.setCell ⟨G, k * 2, none⟩ (.slice ya yn yc)).setCell ⟨G, k * 2 + 1, none⟩ (.int .i64 y1.sum)).cell? ⟨G, b * 2 + 1, none⟩ = some (.int .i64 y1.sum) :=
            (World.cell?_setCell_other _ _ _ _ (fun c => by injection c with _ c _; omega)).trans ((World.cell?_setCell_other _ _ _ _ (fun c => by injection c with _ c _; omega)).trans p3)
          have n1 : ¬ b * 2 = k * 2 := by omega
          have n2 : ¬ b * 2 = k * 2 + 1 := by omega
          have n3 : ¬ b * 2 + 1 = k * 2 := by omega
          have n4 : ¬ k * 2 = b * 2 := by omega
          have n5 : ¬ k * 2 + 1 = b * 2 := by omega
          have n6 : ¬ k * 2 = b * 2 + 1 := by omega
          have n7 : ¬ b = k := by omega
          have n8 : ¬ k = b := by omega
          clear hkD hQ9 hO9 hsm9 hb9 hsw9 hql HXK HDN
          go_wp2_with fail
          go_region
          all_goals
            go_wp2
            go_roundw
            case rel => exact ⟨b, (qs.set k (y1, (ya, yn, yc))).set b (x1, (xa, xn, xc)), (by rw [List.length_set, List.length_set]; exact HQL.out), by have := hkd.out; omega, rfl, HSd.out, HO10.out, HSM.out, (by rw [HSW.out]; exact HGT.out), HBF.out, HSZ.out⟩
            case measure => have := hkd.out; simp [intOf]; omega
    · have hbi : ¬ (b : Int) < (m : Int) := by omega
      have HF := Lib.hid (pop_stop HS.out (fun c => by have e := c.1; rw [List.length_map, hql] at e; have := HBK.out; omega))
      have hQ6 := hQ
      have hO6 := hO
      have hsm6 := hsm
      have hb6 := hb
      clear hQ hO hsm hb
      obtain ⟨w6, rfl⟩ : ∃ w6, w6 = wr := ⟨_, rfl⟩
      have z0 : w6.drew.cell? ⟨A, 0, none⟩ = some (.slice none 0 0) := (cells_same hsm6 (j := 0) (Nat.le_refl A) (by omega)).trans HZ.out.1.1
      have z1 : w6.drew.cell? ⟨A, 1, none⟩ = some (.int .i64 0) := (cells_same hsm6 (j := 1) (Nat.le_refl A) (by omega)).trans HZ.out.1.2
      have s0 : w6.drew.cell? ⟨B, 0, none⟩ = some (.slice oa on oc) := (cells_same hsm6 (j := 0) (Nat.le_of_lt hAB) (Nat.lt_succ_self B)).trans HZ.out.2.1.1
      have s1 : w6.drew.cell? ⟨B, 1, none⟩ = some (.int .i64 o1.sum) := (cells_same hsm6 (j := 1) (Nat.le_of_lt hAB) (Nat.lt_succ_self B)).trans HZ.out.2.1.2
      have g0 : w6.drew.frozen? ⟨A, 0, none⟩ = false := (frz_same hsm6 (j := 0) (Nat.le_refl A) (by omega)).trans HZ.out.2.2.1
      have g1 : w6.drew.frozen? ⟨A, 1, none⟩ = false := (frz_same hsm6 (j := 1) (Nat.le_refl A) (by omega)).trans HZ.out.2.2.2
      have hQ7 := hQ6.drew
      have hO7 : Own intF 3 lo hi w6.drew (.slice oa on oc) o1.vals := hO6
      have hb7 : Below lo w w6.drew := hb6.drew
      clear hQ6 hO6 hb6
      go_wp2_with fail
      refine wp_region_held_drew (S := fun w' => w'.cell? ⟨B, 0, none⟩ = some (.slice oa on oc) ∧ w'.cell? ⟨B, 1, none⟩ = some (.int .i64 o1.sum)) (by kernel_rfl) ?_ (fun hHeld => ?_)
      · exact ⟨s0, s1⟩
      generalize w6.drew = wX at *
      refine wpAnyH_take (i := 0) (v := ?v60) (at_op rfl) (by kernel_rfl) (by kernel_rfl) (by kernel_rfl) (fun _ _ _ h => h) (Or.inl ⟨by rfl, ?y60⟩) (by assumption) ?r60
      case y60 =>
        intro wx hSx
        go_simp
        try with_reducible rfl
      try simp only [Act.put, List.setIfInBounds_toArray, List.set_cons_zero, List.set_cons_succ]
      refine wpAnyH_take (i := 1) (v := ?v61) (at_op rfl) (by kernel_rfl) (by kernel_rfl) (by kernel_rfl) (fun _ _ _ h => h) (Or.inl ⟨by rfl, ?y61⟩) (by assumption) ?r61
      case y61 =>
        intro wx hSx
        go_simp
        try with_reducible rfl
      try simp only [Act.put, List.setIfInBounds_toArray, List.set_cons_zero, List.set_cons_succ]
      refine wpAnyH_take (i := 2) (v := ?v62) (at_op rfl) (by kernel_rfl) (by kernel_rfl) (by kernel_rfl) (fun _ _ _ h => h) (Or.inl ⟨by rfl, ?y62⟩) (by assumption) ?r62
      case y62 =>
        intro wx hSx
        go_simp
        try with_reducible rfl
      try simp only [Act.put, List.setIfInBounds_toArray, List.set_cons_zero, List.set_cons_succ]
      refine wpAnyH_ready (rs := [3]) (by kernel_rfl) (by simp) ?_
      refine AllReadyH.cons (at_op rfl) (fun K hK => ?_) AllReadyH.nil
      go_wp2_with fail
      refine hK.out _ _ (keepG hHeld hAB) (fun _ => ?_)
      clear hK K
      try simp only [Act.put, List.setIfInBounds_toArray, List.set_cons_zero, List.set_cons_succ]
      refine wpAnyH_done (by kernel_rfl) ?_ _
      have r0 : ((wX.setCell ⟨A, 0, none⟩ (.slice oa on oc)).setCell ⟨A, 1, none⟩ (.int .i64 o1.sum)).cell? ⟨A, 0, none⟩ = some (.slice oa on oc) :=
        (World.cell?_setCell_other _ _ _ _ (fun c => by injection c with _ c _; omega)).trans (World.cell?_setCell_same (w := wX) (a := ⟨A, 0, none⟩) (v := .slice oa on oc) z0)
      have r1 : ((wX.setCell ⟨A, 0, none⟩ (.slice oa on oc)).setCell ⟨A, 1, none⟩ (.int .i64 o1.sum)).cell? ⟨A, 1, none⟩ = some (.int .i64 o1.sum) :=
        World.cell?_setCell_same (w := wX.setCell ⟨A, 0, none⟩ (.slice oa on oc)) (a := ⟨A, 1, none⟩) (v := .int .i64 o1.sum) ((World.cell?_setCell_other _ _ _ _ (fun c => by injection c with _ c _; omega)).trans z1)
      have HSm : Hid (Same lo hi wX ((wX.setCell ⟨A, 0, none⟩ (.slice oa on oc)).setCell ⟨A, 1, none⟩ (.int .i64 o1.sum))) := same_storeAll (g := A) (.inr hhA) [.slice oa on oc, .int .i64 o1.sum] 0 wX
      have HBB : Hid (Below lo w ((wX.setCell ⟨A, 0, none⟩ (.slice oa on oc)).setCell ⟨A, 1, none⟩ (.int .i64 o1.sum))) := (hb7.setCell (p := ⟨A, 0, none⟩) hloA _).setCell (p := ⟨A, 1, none⟩) hloA _
      have HHI : Hid (hi ≤ ((wX.setCell ⟨A, 0, none⟩ (.slice oa on oc)).setCell ⟨A, 1, none⟩ (.int .i64 o1.sum)).heap.size) := Nat.le_trans hh HBB.out.size
      go_wp2
      refine bodyPost_ret (v := .tuple #[.slice (some ⟨G, 0, none⟩) m c, .agg #[.slice oa on oc, .int .i64 o1.sum]]) (by simp [results, Try.results101, go_sem, r0, r1]) rfl ?_
      exact ⟨_, _, _, _, rfl, ⟨qs, (hQ7.same HSm.out).wide (Nat.le_refl _) HHI.out, HF.out⟩, (hO7.same HSm.out).wide (Nat.le_refl _) HHI.out, HBB.out⟩
end Go.Proofs.Ytllpgomloblfjaa
