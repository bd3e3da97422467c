/- Words for the hunt, out of the heap's texts. -/
import Derived.Test.YtllpgomloblfjaaHuntV
import Derived.Lib.SlicesS
namespace Go.Proofs.Ytllpgomloblfjaa
open Go.RowKit
theorem Try.infoInt1 : (Try.prog.info? 3).map (fun i => (i.zero, i.size, i.bytes)) = some (some (.int .i64 0), 1, 8) := by kernel_rfl
set_option maxHeartbeats 400000 in
theorem cloneInt_any {xs : List Int} {v : Value} {lo hi : Nat} {w : World} (hr : Rd intS lo hi w v xs) (hh : hi ≤ w.heap.size) (hl : xs.length ≤ 1048576) :
    Calls Try.prog 130 #[v] w fun e w' => ∃ u, e = .returned u ∧ Below w.heap.size w w' ∧ Own intF 3 w.heap.size w'.heap.size w' u xs := by
  obtain ⟨i0, hi0, hz0, hz1, hz2⟩ := info_parts Try.infoInt1
  obtain ⟨a, c, rfl, h2, h3, h4, h5⟩ := id hr
  have hne := fun (w : World) (a : Option Addr) (n c : Nat) => Lib.run_eql_slice_nil (P := Try.prog) w 32 3 a n c 0 0 Try.underlying32
  cases a with
  | none =>
    obtain rfl := h4 rfl
    have hx : xs = [] := List.eq_nil_of_length_eq_zero (by omega)
    subst hx
    go_enter Try.func130, Try.ntmps130
    go_wp2
    go_ret
    exact ⟨_, rfl, Below.refl _ _, Own.nil _ _ _ _ _⟩
  | some ad =>
    go_enter Try.func130, Try.ntmps130
    go_wp2_with (at_builtin; refine wp_appAll (F := intF) (P := Try.prog) (ys := xs) (lo' := lo) (hi' := hi) rfl (.tmp 5) (.tmp 6) 32 rfl Try.underlying32 hi0 hz0 hz1 hz2 rfl (by decide) rfl (Own.empty intF 3 w.heap.size w (Nat.le_refl _)) rfl (hr.below ((Below.refl w.heap.size w).alloc (Nat.le_refl _) _) hh) (by simp; omega) (by simp; omega) (by simp) ?_; intro v' w' hO' hb')
    go_ret
    exact ⟨_, rfl, blw_al1 hb' (Nat.le_refl _), hO'⟩
theorem keepC {w5 w6 : World} {a0 a1 : Addr} {u0 u1 : Value} (h : w5.cell? a0 = some u0 ∧ w5.cell? a1 = some u1) (hb : Below w5.heap.size w5 w6) : w6.cell? a0 = some u0 ∧ w6.cell? a1 = some u1 :=
  ⟨(hb.cell (World.block_lt_of_cell? w5 _ h.1)).trans h.1, (hb.cell (World.block_lt_of_cell? w5 _ h.2)).trans h.2⟩
theorem take_stA {xs : List StL} {k : Nat} (h : k < xs.length) : xs.take (k + 1) = xs.take k ++ [stA xs k] := by
  rw [List.take_succ_eq_append_getElem h, stA_at h]
def Qx (K : Act → World → Prop) (Q : Exit → Act → World → Prop) : Exit → Act → World → Prop
  | .normal, a, w => K a w
  | .panic c, a, w => Q (.panic c) a w
  | .outgrown, a, w => Q .outgrown a w
  | e, a, w => Q e a w
theorem upon_x {P : Program} {ops : Array Oper} {o : Oper} {a : Act} {K : Act → World → Prop} {Q : Exit → Act → World → Prop} {r : Result Next}
    (h : o.upon P a (wpList P ops (Qx K Q) []) (Qx K Q) r) : o.upon P a K Q r := by
  cases r with
  | ok n w' => cases n <;> exact h
  | halt x w' => cases x <;> exact h
/-- an operation of a drawn region that is carried out by a law on lists of operations -/
theorem ready_list {P : Program} {md : Region.Mode} {ops : Array Oper} {Q : Exit → Act → World → Prop} {S : World → Prop} {fuel : Nat} {listed : Array Bool} {a : Act} {w : World} {i : Nat} {o : Oper} (ho : ops[i]? = some o)
    (h : ∀ K : Act → World → Prop, Shut (∀ a w, S w → (S w → wpAnyH P md ops Q S fuel (listed.setIfInBounds i true) a w) → K a w) → wpList P ops (Qx K Q) [o] a w) : AllReadyH P md ops Q S fuel listed a w [i] := by
  intro j hj
  obtain rfl : j = i := by simpa using hj
  have h' := h (fun a' w' => S w' ∧ wpAnyH P md ops Q S fuel (listed.setIfInBounds j true) a' w') (fun a w hS hW => ⟨hS, hW hS⟩)
  unfold wpOp
  rw [ho]
  rw [wpList] at h'
  show if Region.wanted o (yielded ops a.tmps) = true then _ else _
  split
  · rename_i hw
    rw [if_pos hw] at h'
    rcases h' with h' | h'
    · exact .inl (upon_x h')
    · exact .inr h'
  · rename_i hw
    rw [if_neg hw] at h'
    exact h'
theorem keepE {w w' : World} {G i j : Nat} {u0 u1 : Value} {row : Option Nat} (h : w.cell? ⟨G, i, none⟩ = some u0 ∧ w.cell? ⟨G, j, none⟩ = some u1) (hg : w.grownBy w' row) (hne : row ≠ some G) : w'.cell? ⟨G, i, none⟩ = some u0 ∧ w'.cell? ⟨G, j, none⟩ = some u1 := by
  have hb := hg.block G (World.block_lt_of_cell? w _ h.1) (Ne.symm hne)
  exact ⟨(World.cell?_of_block (a := ⟨G, i, none⟩) hb).trans h.1, (World.cell?_of_block (a := ⟨G, j, none⟩) hb).trans h.2⟩
theorem keepF {w w' : World} {a0 a1 : Addr} {u0 u1 : Value} {B C : Nat} (h : w.cell? a0 = some u0 ∧ w.cell? a1 = some u1) (hb : Below B w w') (hB : C < B ∧ a0.block = C ∧ a1.block = C) : w'.cell? a0 = some u0 ∧ w'.cell? a1 = some u1 :=
  ⟨(hb.cell (by omega)).trans h.1, (hb.cell (by omega)).trans h.2⟩
section
variable {α : Type} {P : Program} {F : Flat α} {T : TypeId} {B : Nat} {hi : Nat} {w : World} {ops : Array Oper} {rest : List Oper} {o : Oper} {a : Act} {Q : Exit → Act → World → Prop} {v : Value} {xs : List α}
theorem same_grown {lo hi : Nat} {w w' : World} {row : Option Nat} (hg : w.grownBy w' row) (hh : hi ≤ w.heap.size) (hr : ∀ k, lo ≤ k → k < hi → row ≠ some k) : Same lo hi w w' := fun b h1 h2 => hg.block b (by omega) (Ne.symm (hr b h1 h2))
/-- 'out = append(out, ys...)', and nothing but out's own block turns -/
theorem wp_appAllg (hgd : o.guard = none) (s x : Operand) (t : TypeId) (ho : o.op = .call { callee := .builtin .append, args := #[s, x], argTypes := #[t, t] })
    {i : TypeInfo} {z : Value} {bytes : Nat} (ht : P.underlying t = some (.slice T)) (hi0 : P.info? T = some i) (hz : i.zero = some z) (hsize : i.size = F.size) (hby : i.bytes = bytes) (hzs : z.cells.size = F.size) (hsz : 0 < F.size)
    (hs : a.eval s = v) (hO : Own F T B hi w v xs) {u : Value} {ys : List α} {lo' hi' : Nat} (hx : a.eval x = u) (hr : Rd F.shape lo' hi' w u ys)
    (hbytes : (xs.length + ys.length) * bytes ≤ 140737488355328) (h63 : xs.length + ys.length ≤ 1000000000000) (hbase : B ≤ w.heap.size)
    (h : ∀ v' w', Own F T B w'.heap.size w' v' (xs ++ ys) → Below B w w' → w.grownBy w' v.ownBlock → wpList P ops Q rest (a.put o.dst v') w') : wpList P ops Q (o :: rest) a w := by
  obtain ⟨ao, c, rfl, h2, h3, h4, h5⟩ := hr
  cases ao with
  | none =>
    have hc := h4 rfl
    have hy : ys = [] := List.eq_nil_of_length_eq_zero (by omega)
    subst hy
    subst hc
    refine wpList_append_own_none (w := w) hgd s x t ho B T i F.size ht hi0 v xs.length (F.cells xs) hs hO.1 hx ?_
    have hv := h v w (by rw [List.append_nil]; exact hO.up) (Below.refl _ _) (World.grownBy.refl _ _)
    exact hv
  | some ad =>
    refine wpList_append_own w hgd s x t ho B T i z F.size bytes ht hi0 hz hsize hby hzs hsz v xs.length (F.cells xs) hs hO.1 ad ys.length c (F.cells ys) hx Flat.cells_len ?_ Flat.cells_oneCell ?_ hbytes hbase ?_
    · intro j q hq
      have hj : j < ys.length * F.size := by
        have := (List.getElem?_eq_some_iff.1 hq).1
        rwa [Flat.cells_len] at this
      have hk : j / F.size < ys.length := Nat.div_lt_of_lt_mul (by rw [Nat.mul_comm]; exact hj)
      have hm : j % F.size < F.size := Nat.mod_lt _ hsz
      have e : j = j / F.size * F.size + j % F.size := by rw [Nat.mul_comm]; exact (Nat.div_add_mod j F.size).symm
      obtain ⟨b, off, cs, e1, _, _, rfl, e5⟩ := h5 _ hk
      obtain rfl := Option.some.inj e1
      have h6 := e5 (j % F.size) q (by
        rw [e, Flat.cells_at hk hm] at hq
        exact hq)
      rw [Addr.add_lit]
      have e2 : off + j / F.size * F.shape.size + j % F.size = off + j := by
        show off + j / F.size * F.size + j % F.size = off + j
        omega
      rwa [e2] at h6
    · unfold maxLen; omega
    · intro v' w' h1 h2 _
      exact h v' w' (Own.of_row h1 (by simp) Flat.cells_append.symm (Nat.le_refl _)) (grown_below h2 (fun g hg => (hO.1.lt g hg).1) hbase) h2
end
end Go.Proofs.Ytllpgomloblfjaa
