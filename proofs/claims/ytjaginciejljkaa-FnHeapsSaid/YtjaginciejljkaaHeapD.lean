/- Rows of states copied, by the reference. -/
import Derived.Test.YtjaginciejljkaaHeapC
namespace Go.Proofs.Ytjaginciejljkaa
open Go.RowKit

def Qx (K : Act → World → Prop) (Q : Exit → Act → World → Prop) : Exit → Act → World → Prop
  | .normal, a, w => K a w
  | .panic c, a, w => Q (.panic c) a w
  | .outgrown, a, w => Q .outgrown a w
  | e, a, w => Q e a w
theorem upon_x {P : Program} {ops : Array Oper} {o : Oper} {a : Act} {K : Act → World → Prop} {Q : Exit → Act → World → Prop} {r : Result Next}
    (h : o.upon P a (wpList P ops (Qx K Q) []) (Qx K Q) r) : o.upon P a K Q r := by
  cases r with
  | ok n w' => cases n <;> exact h
  | halt x w' => cases x <;> exact h
/-- an operation of a drawn region that is carried out by a law on lists of operations -/
theorem ready_list {P : Program} {md : Region.Mode} {ops : Array Oper} {Q : Exit → Act → World → Prop} {S : World → Prop} {fuel : Nat} {listed : Array Bool} {a : Act} {w : World} {i : Nat} {o : Oper} (ho : ops[i]? = some o)
    (h : ∀ K : Act → World → Prop, Shut (∀ a w, S w → (S w → wpAnyH P md ops Q S fuel (listed.setIfInBounds i true) a w) → K a w) → wpList P ops (Qx K Q) [o] a w) : AllReadyH P md ops Q S fuel listed a w [i] := by
  intro j hj
  obtain rfl : j = i := by simpa using hj
  have h' := h (fun a' w' => S w' ∧ wpAnyH P md ops Q S fuel (listed.setIfInBounds j true) a' w') (fun a w hS hW => ⟨hS, hW hS⟩)
  unfold wpOp
  rw [ho]
  rw [wpList] at h'
  show if Region.wanted o (yielded ops a.tmps) = true then _ else _
  split
  · rename_i hw
    rw [if_pos hw] at h'
    rcases h' with h' | h'
    · exact .inl (upon_x h')
    · exact .inr h'
  · rename_i hw
    rw [if_neg hw] at h'
    exact h'
theorem keepE {w w' : World} {G i j : Nat} {u0 u1 : Value} {row : Option Nat} (h : w.cell? ⟨G, i, none⟩ = some u0 ∧ w.cell? ⟨G, j, none⟩ = some u1) (hg : w.grownBy w' row) (hne : row ≠ some G) : w'.cell? ⟨G, i, none⟩ = some u0 ∧ w'.cell? ⟨G, j, none⟩ = some u1 := by
  have hb := hg.block G (World.block_lt_of_cell? w _ h.1) (Ne.symm hne)
  exact ⟨(World.cell?_of_block (a := ⟨G, i, none⟩) hb).trans h.1, (World.cell?_of_block (a := ⟨G, j, none⟩) hb).trans h.2⟩
set_option maxHeartbeats 2000000 in
set_option maxRecDepth 100000 in
theorem l11Copy_spec (xs : List StL) (v : Value) (lo hi : Nat) (w : World) (hr : HOwn lo hi w v xs) (hh : hi ≤ w.heap.size) (hl : xs.length ≤ 1048576) (hz : ∀ x ∈ xs, x.vals.length ≤ 1048576) :
    Calls Try.prog 31 #[v] w fun e w' => ∃ u, e = .returned u ∧ HOwn w.heap.size w'.heap.size w' u xs ∧ Below w.heap.size w w' := by
  obtain ⟨i0, hi0, hz0, hz1, hz2⟩ := info_parts Try.infoState
  obtain ⟨B, HB⟩ : ∃ B, Hid (B = w.heap.size) := ⟨_, rfl⟩
  have hB1 : B ≤ w.heap.size := Nat.le_of_eq HB.out
  have hB2 : w.heap.size ≤ B := Nat.le_of_eq HB.out.symm
  obtain ⟨a, c, rfl, h2, h3⟩ := hr.form
  unfold maxLen at h3
  have HR := Lib.hid (fun w4 (h4 : Below B w w4) => hr.below h4 (by omega))
  have HZ := Lib.hid hz
  clear hz
  go_enter Try.func31, Try.ntmps31
  obtain ⟨j0, hj0, hy0, hy1, hy2⟩ := info_parts Try.infoInt1
  go_wp2
  have hb1 : Below B w (w.alloc (.cells #[] 28)) := (Below.refl _ _).alloc hB1 _
  have hS1 : SOwn B (w.alloc (.cells #[] 28)).heap.size (w.alloc (.cells #[] 28)) (.slice (some ⟨w.heap.size, 0, none⟩) 0 0) [] := ⟨Own.empty stF 28 B w hB1, fun p hp => by cases hp⟩
  generalize w.alloc (.cells #[] 28) = w1 at *
  go_loopw [3, 4] (fun out i wr => ∃ (k : Nat) (qs : List (StL × SV)), k ≤ xs.length ∧ i = .int .i64 k ∧ SOwn B wr.heap.size wr out qs ∧ qs.map (·.1) = xs.take k ∧ Below B w wr) (fun _ i _ => xs.length - (intOf i).toNat)
  case atStart => exact ⟨0, [], Nat.zero_le _, rfl, hS1, rfl, hb1⟩
  case round =>
    clear hS1 hb1
    obtain ⟨k, qs, hk, rfl, hQ, hqm, hb⟩ := hrel
    have hsz := hb.size
    have HQM := Lib.hid hqm
    have hql : qs.length = min k xs.length := by have e := congrArg List.length hqm; rwa [List.length_map, List.length_take] at e
    clear hqm
    by_cases hlt : k < xs.length
    · have hki : (k : Int) < (xs.length : Int) := by omega
      have hkz : (0 : Int) ≤ (k : Int) := by omega
      obtain ⟨G, u, rfl, -, hGi, -, c0, c1, hru⟩ := (HR.out wr hb).at hlt
      obtain ⟨ua, uc, rfl⟩ := hru.sl
      have hx : (stA xs k).vals.length ≤ 1048576 := by rw [← stA_at hlt]; exact HZ.out _ (List.getElem_mem hlt)
      have HT := Lib.hid (take_stA hlt)
      have hhr : hi ≤ wr.heap.size := by omega
      have HRV : Hid (∀ w4, Below wr.drew.heap.size wr.drew w4 → Rd intS lo hi w4 (.slice ua (stA xs k).vals.length uc) (stA xs k).vals) := fun w4 h4 => (show Rd intS lo hi wr.drew _ _ from hru).below h4 hhr
      have hqk : qs.length ≤ 1048576 := by omega
      obtain ⟨aq, cq, rfl, hq2, hq3⟩ := hQ.form
      unfold maxLen at hq3
      have hne : (Value.slice aq qs.length cq).ownBlock ≠ some G := fun e => by have := (hQ.outer.below_heap G e).1; omega
      have hbd := hb.drew
      have hsd : B ≤ wr.drew.heap.size := Nat.le_trans hB1 hsz
      have hQd : SOwn B wr.drew.heap.size wr.drew (.slice aq qs.length cq) qs := hQ.drew
      clear hru hql hQ hb
      generalize stA xs k = x at *
      go_wp2_with fail
      refine wp_region_held_drew (S := fun w' => w'.cell? ⟨G, k * 2, none⟩ = some (.slice ua x.vals.length uc) ∧ w'.cell? ⟨G, k * 2 + 1, none⟩ = some (.int .i64 x.sum)) (by kernel_rfl) ?_ (fun hHeld => ?_)
      · exact ⟨c0, c1⟩
      generalize wr.drew = wd at *
      refine wpAnyH_take (i := 0) (v := ?v1) (at_op rfl) (by kernel_rfl) (by kernel_rfl) (by kernel_rfl) (fun _ _ _ h => h) (Or.inl ⟨by rfl, ?y1⟩) (by assumption) ?r1
      case y1 =>
        intro wx hSx
        go_simp
        try with_reducible rfl
      try simp only [Act.put, List.setIfInBounds_toArray, List.set_cons_zero, List.set_cons_succ]
      refine wpAnyH_take (i := 2) (v := ?v2) (at_op rfl) (by kernel_rfl) (by kernel_rfl) (by kernel_rfl) (fun _ _ _ h => h) (Or.inl ⟨by rfl, ?y2⟩) (by assumption) ?r2
      case y2 =>
        intro wx hSx
        go_simp
        try with_reducible rfl
      try simp only [Act.put, List.setIfInBounds_toArray, List.set_cons_zero, List.set_cons_succ]
      refine wpAnyH_take (i := 3) (v := ?v3) (at_op rfl) (by kernel_rfl) (by kernel_rfl) (by kernel_rfl) (fun _ _ _ h => h) (Or.inl ⟨by rfl, ?y3⟩) (by assumption) ?r3
      case y3 =>
        intro wx hSx
        go_simp
        try with_reducible rfl
      try simp only [Act.put, List.setIfInBounds_toArray, List.set_cons_zero, List.set_cons_succ]
      refine wpAnyH_take (i := 4) (v := ?v4) (at_op rfl) (by kernel_rfl) (by kernel_rfl) (by kernel_rfl) (fun _ _ _ h => h) (Or.inl ⟨by rfl, ?y4⟩) (by assumption) ?r4
      case y4 =>
        intro wx hSx
        go_simp
        try with_reducible rfl
      try simp only [Act.put, List.setIfInBounds_toArray, List.set_cons_zero, List.set_cons_succ]
      refine wpAnyH_take (i := 5) (v := ?v5) (at_op rfl) (by kernel_rfl) (by kernel_rfl) (by kernel_rfl) (fun _ _ _ h => h) (Or.inl ⟨by rfl, ?y5⟩) (by assumption) ?r5
      case y5 =>
        intro wx hSx
        go_simp
        try with_reducible rfl
      try simp only [Act.put, List.setIfInBounds_toArray, List.set_cons_zero, List.set_cons_succ]
      refine wpAnyH_take (i := 6) (v := ?v6) (at_op rfl) (by kernel_rfl) (by kernel_rfl) (by kernel_rfl) (fun _ _ _ h => h) (Or.inl ⟨by rfl, ?y6⟩) (by assumption) ?r6
      case y6 =>
        intro wx hSx
        go_simp
        try with_reducible rfl
      try simp only [Act.put, List.setIfInBounds_toArray, List.set_cons_zero, List.set_cons_succ]
      refine wpAnyH_take (i := 8) (v := ?v7) (at_op rfl) (by kernel_rfl) (by kernel_rfl) (by kernel_rfl) (fun _ _ _ h => h) (Or.inl ⟨by rfl, ?y7⟩) (by assumption) ?r7
      case y7 =>
        intro wx hSx
        go_simp
        try with_reducible rfl
      try simp only [Act.put, List.setIfInBounds_toArray, List.set_cons_zero, List.set_cons_succ]
      refine wpAnyH_take (i := 9) (v := ?v8) (at_op rfl) (by kernel_rfl) (by kernel_rfl) (by kernel_rfl) (fun _ _ _ h => h) (Or.inl ⟨by rfl, ?y8⟩) (by assumption) ?r8
      case y8 =>
        intro wx hSx
        go_simp
        try with_reducible rfl
      try simp only [Act.put, List.setIfInBounds_toArray, List.set_cons_zero, List.set_cons_succ]
      refine wpAnyH_take (i := 10) (v := ?v9) (at_op rfl) (by kernel_rfl) (by kernel_rfl) (by kernel_rfl) (fun _ _ _ h => h) (Or.inl ⟨by rfl, ?y9⟩) (by assumption) ?r9
      case y9 =>
        intro wx hSx
        go_simp
        try with_reducible rfl
      try simp only [Act.put, List.setIfInBounds_toArray, List.set_cons_zero, List.set_cons_succ]
      refine wpAnyH_take (i := 11) (v := ?v10) (at_op rfl) (by kernel_rfl) (by kernel_rfl) (by kernel_rfl) (fun _ _ _ h => h) (Or.inl ⟨by rfl, ?y10⟩) (by assumption) ?r10
      case y10 =>
        intro wx hSx
        go_simp
        try with_reducible rfl
      try simp only [Act.put, List.setIfInBounds_toArray, List.set_cons_zero, List.set_cons_succ]
      refine wpAnyH_take (i := 12) (v := ?v11) (at_op rfl) (by kernel_rfl) (by kernel_rfl) (by kernel_rfl) (fun _ _ _ h => h) (Or.inl ⟨by rfl, ?y11⟩) (by assumption) ?r11
      case y11 =>
        intro wx hSx
        go_simp
        try with_reducible rfl
      try simp only [Act.put, List.setIfInBounds_toArray, List.set_cons_zero, List.set_cons_succ]
      refine wpAnyH_ready (rs := [1]) (by kernel_rfl) (by simp) ?_
      refine AllReadyH.cons (at_op rfl) (fun K hK => ?_) AllReadyH.nil
      go_simp
      have hbE : Below wd.heap.size wd (wd.alloc (.cells #[] 3)) := (Below.refl _ _).alloc (Nat.le_refl _) _
      have hkE := keepC hHeld hbE
      have hOE := Own.empty intF 3 wd.heap.size wd (Nat.le_refl _)
      have hsE : wd.heap.size ≤ (wd.alloc (.cells #[] 3)).heap.size := hbE.size
      refine hK.out _ _ hkE (fun _ => ?_)
      clear hK K
      try simp only [Act.put, List.setIfInBounds_toArray, List.set_cons_zero, List.set_cons_succ]
      refine wpAnyH_ready (rs := [7]) (by kernel_rfl) (by simp) ?_
      refine ready_list (at_op rfl) (fun K hK => ?_)
      refine wp_appAll (F := intF) (P := Try.prog) (ys := x.vals) (lo' := lo) (hi' := hi) rfl (.tmp 13) (.tmp 18) 26 rfl Try.underlying26 hj0 hy0 hy1 hy2 rfl (by decide) rfl hOE rfl (HRV.out _ hbE) (by simp; omega) (by simp; omega) hsE ?_
      intro v7 w7 hO7 hb7
      rw [List.nil_append] at hO7
      obtain ⟨sa, sc, rfl, -, -, -⟩ := hO7.form
      have hbW : Below wd.heap.size wd w7 := hbE.trans hb7
      have hk7 := keepC hHeld hbW
      refine hK.out _ _ hk7 (fun _ => ?_)
      clear hK K
      try simp only [Act.put, List.setIfInBounds_toArray, List.set_cons_zero, List.set_cons_succ]
      refine wpAnyH_take (i := 13) (v := ?v12) (at_op rfl) (by kernel_rfl) (by kernel_rfl) (by kernel_rfl) (fun _ _ _ h => h) (Or.inl ⟨by rfl, ?y12⟩) (by assumption) ?r12
      case y12 =>
        intro wx hSx
        go_simp
        try with_reducible rfl
      try simp only [Act.put, List.setIfInBounds_toArray, List.set_cons_zero, List.set_cons_succ]
      refine wpAnyH_ready (rs := [14]) (by kernel_rfl) (by simp) ?_
      refine AllReadyH.cons (at_op rfl) (fun K hK => ?_) AllReadyH.nil
      go_simp
      have hbL : Below w7.heap.size w7 (w7.alloc (.cells #[.slice sa x.vals.length sc, .int .i64 x.sum] 28)) := (Below.refl _ _).alloc (Nat.le_refl _) _
      have hkL := keepC hk7 hbL
      refine hK.out _ _ hkL (fun _ => ?_)
      clear hK K
      try simp only [Act.put, List.setIfInBounds_toArray, List.set_cons_zero, List.set_cons_succ]
      refine wpAnyH_ready (rs := [15]) (by kernel_rfl) (by simp) ?_
      refine ready_list (at_op rfl) (fun K hK => ?_)
      have hQ7 := (hQd.below hbW (Nat.le_refl _)).wide (Nat.le_refl _) hbW.size
      refine wp_app1g (F := stF) (P := Try.prog) (y := ((x, ((sa, x.vals.length, sc) : SV)) : StL × SV)) rfl (.tmp 12) (.tmp 26) 24 rfl Try.underlying24 hi0 hz0 hz1 hz2 rfl (by decide) rfl (hQ7.outer.alloc _) w7.heap.size rfl (heap_alloc_new _ _) rfl (by omega) (by omega) (by have := hbW.size; simp; omega) ?_
      intro v' w9 hO9 hb9 hg9
      have hk9 := keepE hkL hg9 hne
      refine hK.out _ _ hk9 (fun _ => ?_)
      clear hK K
      try simp only [Act.put, List.setIfInBounds_toArray, List.set_cons_zero, List.set_cons_succ]
      refine wpAnyH_take (i := 16) (v := ?v13) (at_op rfl) (by kernel_rfl) (by kernel_rfl) (by kernel_rfl) (fun _ _ _ h => h) (Or.inl ⟨by rfl, ?y13⟩) (by assumption) ?r13
      case y13 =>
        intro wx hSx
        go_simp
        try with_reducible rfl
      try simp only [Act.put, List.setIfInBounds_toArray, List.set_cons_zero, List.set_cons_succ]
      refine wpAnyH_done (by kernel_rfl) ?_ _
      have hS9 : SOwn B w9.heap.size w9 v' (qs ++ [((x, ((sa, x.vals.length, sc) : SV)) : StL × SV)]) := by
        exact (hQ7.alloc _).snoc ((hO7.wide hsd (Nat.le_refl _)).alloc _) (by have := hb9.size; simp at this; omega) hO9 hg9
      have hB9 : Below B w w9 := (hbd.trans (hbW.mono hsd)).trans (blw_al1 hb9 (by have := hbW.size; omega))
      go_wp2
      go_roundw
      case rel => exact ⟨k + 1, _, by omega, by go_num, hS9, (by rw [HT.out, List.map_append, HQM.out]; rfl), hB9⟩
      case measure => simp [intOf]; omega
    · have hki : ¬ (k : Int) < (xs.length : Int) := by omega
      have HF : Hid (qs.map (·.1) = xs) := by have e := HQM.out; rwa [List.take_of_length_le (by omega)] at e
      go_wp2
      go_ret
      have e := HB.out
      subst e
      exact ⟨_, rfl, ⟨qs, hQ, HF.out⟩, hb⟩
end Go.Proofs.Ytjaginciejljkaa
