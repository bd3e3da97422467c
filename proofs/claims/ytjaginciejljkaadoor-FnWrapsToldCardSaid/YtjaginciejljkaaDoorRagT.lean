/- The table of the least costs from each word on, of the program and of the reference. By mk_ragt.py. -/
import Derived.Test.YtjaginciejljkaaDoorRagI
import Derived.Test.YtjaginciejljkaaDoorHeld
namespace Go.Proofs.YtjaginciejljkaaDoor
open Go.RowKit

theorem Rd.cellsAt {lo hi n c : Nat} {w : World} {b off : Nat} {ks : List Int} (h : Rd intS lo hi w (.slice (some ⟨b, off, none⟩) n c) ks) : ∀ j, j < ks.length → w.cell? ⟨b, off + j, none⟩ = some (.int .i64 (ks.getD j 0)) := by
  intro j hj
  obtain ⟨b', off', e, _, _, hc⟩ := h.intAt hj
  injection e with e
  injection e with e1 e2
  subst e1; subst e2
  exact hc
theorem Tryd.infoInt1 : (Tryd.prog.info? 3).map (fun i => (i.zero, i.size, i.bytes)) = some (some (.int .i64 0), 1, 8) := by kernel_rfl
/-- a row of integers in a block of its own -/
def IOwn (B : Nat) (w : World) (n : Nat) (xs : List Int) : Prop := Own intF 3 B (B + 1) w (.slice (some ⟨B, 0, none⟩) n n) xs ∧ xs.length = n
theorem IOwn.cell {B n : Nat} {w : World} {xs : List Int} (h : IOwn B w n xs) {k : Nat} (hk : k < n) : w.cell? ⟨B, k, none⟩ = some (.int .i64 (xs.getD k 0)) := by
  have := Rd.cellsAt (ks := xs) h.1.rd k (by rw [h.2]; exact hk)
  rwa [Nat.zero_add] at this
theorem IOwn.frozen {B n : Nat} {w : World} {xs : List Int} (h : IOwn B w n xs) (k : Nat) : w.frozen? ⟨B, k, none⟩ = false := h.1.frozen h.2.symm k
theorem IOwn.put {B n : Nat} {w : World} {xs : List Int} (h : IOwn B w n xs) {k : Nat} (hk : k < n) (v : Int) : IOwn B (w.setCell ⟨B, k, none⟩ (.int .i64 v)) n (xs.set k v) := by
  have := h.1.set (k := k) (j := 0) (u := .int .i64 v) (x := v) h.2.symm (by rw [h.2]; exact hk) (by decide) rfl
  rw [show k * intF.size + 0 = k from Nat.mul_one _] at this
  exact ⟨this, by rw [List.length_set]; exact h.2⟩
theorem IOwn.far {B n G q : Nat} {w : World} {xs : List Int} {u : Value} (h : IOwn B w n xs) (hg : G ≠ B) : IOwn B (w.setCell ⟨G, q, none⟩ u) n xs :=
  ⟨h.1.keepFar (fun e => hg (Option.some.inj e).symm) _ _, h.2⟩
theorem IOwn.drew {B n : Nat} {w : World} {xs : List Int} (h : IOwn B w n xs) : IOwn B w.drew n xs := h
theorem IOwn.below {B n : Nat} {w w' : World} {xs : List Int} (h : IOwn B w n xs) (hb : Below (B + 1) w w') : IOwn B w' n xs := ⟨h.1.below hb (Nat.le_refl _), h.2⟩
theorem IOwn.size {B n : Nat} {w : World} {xs : List Int} (h : IOwn B w n xs) : B < w.heap.size := (h.1.below_heap B rfl).2.2
theorem IOwn.made {B n : Nat} {w : World} (hown : w.ownsRow B 3 1 (.slice (some ⟨B, 0, none⟩) n n) n (madeCells #[.int .i64 0] n).toList) : IOwn B w n (List.replicate n 0) := by
  have h0 : Own intF 3 B w.heap.size w (.slice (some ⟨B, 0, none⟩) n n) (List.replicate n 0) :=
    Own.of_row hown (by simp) (by have h := made_cells intF (by decide) 0 #[.int .i64 0] rfl n; rw [show n * intF.size = n from Nat.mul_one _] at h; exact h) (Nat.le_refl _)
  exact ⟨⟨h0.1, fun g hg => by have e : B = g := Option.some.inj hg; omega⟩, List.length_replicate ..⟩
theorem ragI_le (n width : Int) (b : Bool) : ragI n width b ≤ 10000000 := by
  by_cases h : width < n
  · rw [ragI_hi h]; omega
  · have := ragI_fit (n := n) (width := width) (b := b) (by omega); omega
section
variable {ws : List ByteArray} {width : Int}
theorem cst_bound {T : List Int} {k i t : Nat} (h : ∀ i, 0 ≤ T.getD i 0 ∧ T.getD i 0 ≤ 10000000 * (k : Int)) : 0 ≤ cstT ws width T i t ∧ cstT ws width T i t ≤ 10000000 * ((k + 1 : Nat) : Int) := by
  have h1 := ragI_ge (lineS ws i t) width (decide (i + t = ws.length))
  have h2 := ragI_le (lineS ws i t) width (decide (i + t = ws.length))
  have h3 := h (i + t)
  unfold cstT
  omega
theorem min_bound {T : List Int} {k i : Nat} (h : ∀ i, 0 ≤ T.getD i 0 ∧ T.getD i 0 ≤ 10000000 * (k : Int)) (t : Nat) : 0 ≤ minS ws width T i t ∧ minS ws width T i t ≤ 10000000 * ((k + 1 : Nat) : Int) := by
  cases t with
  | zero => unfold minS; omega
  | succ t => rw [(minS_at (ws := ws) (width := width) (T := T) (i := i) (t + 1) (by omega)).2.2.1]; exact cst_bound h
theorem tab_bound : ∀ k, ∀ i, 0 ≤ (tabK ws width k).getD i 0 ∧ (tabK ws width k).getD i 0 ≤ 10000000 * (k : Int)
  | 0, i => by rw [tabK, getDi_rep]; omega
  | k + 1, i => by
    rw [tabK, getDi_set]
    split
    · exact min_bound (tab_bound k) _
    · have := tab_bound k i; omega
theorem lineS_le (hz : ∀ x ∈ ws, x.size ≤ 1000) (i : Nat) : ∀ t, lineS ws i t ≤ 1001 * (t : Int) - 1
  | 0 => by simp [lineS]
  | t + 1 => by
    have h1 := lineS_le hz i t
    have h2 : szA ws (i + t) ≤ 1000 := by
      unfold szA
      by_cases h : i + t < ws.length
      · rw [getD_at h]; have := hz _ (List.getElem_mem h); omega
      · rw [List.getD_eq_getElem?_getD, List.getElem?_eq_none (by omega)]; decide
    rw [lineS]; omega
theorem set_self {T : List Int} {i : Nat} (h : T.getD i 0 = 0) : T.set i 0 = T := by
  by_cases hi : i < T.length
  · rw [List.getD_eq_getElem?_getD, List.getElem?_eq_getElem hi] at h
    have e : T[i] = 0 := h
    refine List.ext_getElem (by rw [List.length_set]) fun j h1 h2 => ?_
    rw [List.getElem_set]
    split
    · next e2 => subst e2; exact e.symm
    · rfl
  · exact List.set_eq_of_length_le (by omega)
theorem tab_next {i : Nat} (h : i + 1 ≤ ws.length) : tabK ws width (ws.length - i) = (tabK ws width (ws.length - (i + 1))).set i (minS ws width (tabK ws width (ws.length - (i + 1))) i (ws.length - i)) := by
  rw [show ws.length - i = ws.length - (i + 1) + 1 by omega, tabK, show ws.length - 1 - (ws.length - (i + 1)) = i by omega]
theorem many_next {i : Nat} (h : i + 1 ≤ ws.length) : manyK ws width (ws.length - i) = (manyK ws width (ws.length - (i + 1))).set i (manyS ws width (tabK ws width (ws.length - (i + 1))) i (ws.length - i) : Nat) := by
  rw [show ws.length - i = ws.length - (i + 1) + 1 by omega, manyK, show ws.length - 1 - (ws.length - (i + 1)) = i by omega]
end
set_option maxHeartbeats 4000000 in
set_option maxRecDepth 100000 in
theorem leastFrom_impl {ws : List ByteArray} {v : Value} {lo hi : Nat} {w : World} (width : Int) (hr : Rd strF.shape lo hi w v ws) (hh : hi ≤ w.heap.size) (hn : ws.length ≤ 60) (hz : ∀ x ∈ ws, x.size ≤ 1000) (hI : I64 width) :
    Calls Tryd.prog 31 #[v, .int .i64 width] w fun e w' => e = .returned (.slice (some ⟨w.heap.size, 0, none⟩) (ws.length + 1) (ws.length + 1)) ∧ Below w.heap.size w w' ∧ IOwn w.heap.size w' (ws.length + 1) (tabK ws width ws.length) := by
  obtain ⟨i0, hi0, hz0, hz1, hz2⟩ := info_parts Tryd.infoInt1
  have HRB := Lib.hid (fun w4 (h4 : Below w.heap.size w w4) => hr.below h4 hh)
  obtain ⟨a, c, rfl, h2, h3, h4, h5⟩ := hr.strF
  have HZ := Lib.hid hz
  have HI := Lib.hid hI
  clear hz hI
  unfold maxLen at h3
  go_enter Tryd.func31, Tryd.ntmps31
  go_wp2_with (at_make; refine wpList_make_full _ rfl _ _ 26 rfl w.heap.size 3 i0 _ 1 Tryd.underlying26 hi0 hz0 hz1 _ _ _ _ (ws.length + 1) rfl rfl rfl rfl ?b1 ?b2 ?b3 ?_)
  case b1 => first | omega | (rw [hz2]; omega)
  case b2 => first | (unfold maxLen; omega) | omega
  try (case b3 => exact Nat.le_refl _)
  intro w1 hown hgr
  have hb1 : Below w.heap.size w w1 := (Below.refl _ _).grown hgr (Nat.le_refl _) (fun k hk => by cases hk)
  have hO : IOwn w.heap.size w1 (ws.length + 1) (tabK ws width 0) := IOwn.made hown
  clear hown hgr
  generalize hB : w.heap.size = B at *
  go_wp2
  go_loopw [7] (fun i wr => ∃ q : Nat, q ≤ ws.length ∧ i = .int .i64 ((q : Int) - 1) ∧ Below B w wr ∧ IOwn B wr (ws.length + 1) (tabK ws width (ws.length - q))) (fun i _ => (intOf i + 1).toNat)
  case atStart => exact ⟨ws.length, Nat.le_refl _, rfl, hb1, (by rw [Nat.sub_self]; exact hO)⟩
  case round =>
    clear hb1 hO
    obtain ⟨q, hq, rfl, hb, hO⟩ := hrel
    cases q with
    | zero =>
      go_wp2
      go_ret
      subst hB
      exact ⟨rfl, hb, hO⟩
    | succ i =>
      rw [show ((i + 1 : Nat) : Int) - 1 = (i : Int) by omega]
      have hig : (i : Int) ≥ 0 := by omega
      have HTB := Lib.hid (tab_bound (ws := ws) (width := width) (ws.length - (i + 1)))
      have HT0 := Lib.hid (set_self (tabK_zero (ws := ws) (width := width) (ws.length - (i + 1)) (by omega) i (by omega)))
      have HTN := Lib.hid (tab_next (ws := ws) (width := width) hq)
      have HTL := Lib.hid (tabK_len (ws := ws) (width := width) (ws.length - (i + 1)))
      have hk60 : ws.length - (i + 1) ≤ 60 := by omega
      generalize tabK ws width (ws.length - (i + 1)) = T at *
      generalize ws.length - (i + 1) = k9 at *
      have HMB := Lib.hid (fun t => min_bound (ws := ws) (width := width) (i := i) HTB.out t)
      go_wp2
      go_loopw [8, 9] (fun s j wr => ∃ (t j' : Nat), Hid (j' = i + t) ∧ j' ≤ ws.length ∧ s = .int .i64 (lineS ws i t) ∧ j = .int .i64 j' ∧ Below B w wr ∧ IOwn B wr (ws.length + 1) (T.set i (minS ws width T i t))) (fun _ j _ => ws.length - (intOf j).toNat)
      case atStart => exact ⟨0, i, rfl, by omega, rfl, rfl, hb, (by rw [minS, HT0.out]; exact hO)⟩
      case round =>
        clear hb hO
        obtain ⟨t, j, HJ, hj, rfl, rfl, hb, hO⟩ := hrel
        have hB9 := hO.size
        by_cases hlt : j < ws.length
        · have hji : (j : Int) < (ws.length : Int) := by omega
          have hjz : (0 : Int) ≤ (j : Int) := by omega
          have hji1 : (j : Int) + 1 < (ws.length : Int) + 1 := by omega
          have hjz1 : (0 : Int) ≤ (j : Int) + 1 := by omega
          have e1 : ((j : Int) + 1).toNat = j + 1 := by omega
          have e2 : IntKind.i64.wrap ((j : Int) + 1) = (j : Int) + 1 := IntWalk.i64_in _ (by omega)
          have e3 : IntKind.i64.wrap ((ws.length : Int) - 1) = (ws.length : Int) - 1 := IntWalk.i64_in _ (by omega)
          have hin : (i : Int) < (ws.length : Int) + 1 := by omega
          obtain ⟨b, off, rfl, hlo, hhi, c0⟩ := h5 j hlt
          have d0 := (hb.cell (p := ⟨b, _, none⟩) (by show b < _; omega)).trans c0
          have HSZ : Hid (szA ws (i + t) = (ws[j].size : Int)) := by have := HJ.out; show szA ws (i + t) = _; rw [← this]; unfold szA; rw [getD_at hlt]
          have hx1 := HZ.out _ (List.getElem_mem hlt)
          have HLS : Hid (lineS ws i (t + 1) = lineS ws i t + (1 + (ws[j].size : Int))) := by show _ = _; rw [lineS, HSZ.out]
          have hl1 := lineS_ge (ws := ws) i t
          have hl2 := lineS_le HZ.out i t
          have hl3 : lineS ws i t ≤ 61000 := by have := HJ.out; omega
          have HCT : Hid (∀ bl : Bool, decide (i + (t + 1) = ws.length) = bl → cstT ws width T i (t + 1) = ragI (lineS ws i t + (1 + (ws[j].size : Int))) width bl + T.getD (j + 1) 0) := fun bl h => by
            have := HJ.out
            unfold cstT
            rw [h, HLS.out, show i + (t + 1) = j + 1 by omega]
          generalize ws[j] = x at *
          clear c0 hl2
          generalize lineS ws i t = z0 at *
          obtain ⟨bl, hbl⟩ : ∃ bl, ((j : Int) == (ws.length : Int) - 1) = bl := ⟨_, rfl⟩
          have hdl : decide (i + (t + 1) = ws.length) = bl := by
            have := HJ.out
            rw [← hbl]
            by_cases e : i + (t + 1) = ws.length
            · rw [decide_eq_true e, beq_iff_eq.2 (by omega)]
            · rw [decide_eq_false e, beq_eq_false_iff_ne.2 (by omega)]
          have HCT2 := Lib.hid (HCT.out bl hdl)
          clear hdl
          have uc := hO.cell (k := j + 1) (by omega)
          rw [getDi_set, if_neg (by have := HJ.out; omega)] at uc
          have uc2 := hO.cell (k := i) (by omega)
          rw [getDi_set, if_pos ⟨rfl, by rw [HTL.out]; omega⟩] at uc2
          have f0 := hO.frozen i
          have hrg1 := ragI_ge (z0 + (1 + (x.size : Int))) width bl
          have hrg2 := ragI_le (z0 + (1 + (x.size : Int))) width bl
          obtain ⟨htv1, htv2⟩ := HTB.out (j + 1)
          obtain ⟨hmn1, hmn2⟩ := HMB.out t
          have HMS : Hid (∀ c, cstT ws width T i (t + 1) = c → (t = 0 ∨ c < minS ws width T i t) → minS ws width T i (t + 1) = c ∧ manyS ws width T i (t + 1) = t + 1) := fun c e h => by
            rw [minS, manyS, e, if_pos h, if_pos h]; exact ⟨rfl, rfl⟩
          have HMO : Hid (∀ c, cstT ws width T i (t + 1) = c → ¬ (t = 0 ∨ c < minS ws width T i t) → minS ws width T i (t + 1) = minS ws width T i t ∧ manyS ws width T i (t + 1) = manyS ws width T i t) := fun c e h => by
            rw [minS, manyS, e, if_neg h, if_neg h]; exact ⟨rfl, rfl⟩
          have HLR : Hid (∀ w, Calls Tryd.prog 32 #[.int .i64 (z0 + (1 + (x.size : Int))), .int .i64 width, .bool bl] w fun e w' => e = .returned (.int .i64 (ragI (z0 + (1 + (x.size : Int))) width bl)) ∧ w' = w) := fun w => by
            rw [show z0 + (1 + (x.size : Int)) = z0 + (1 + (x.size : Int)) by omega]
            exact lineRag_any _ width bl w (by omega) (by omega) HI.out
          generalize ragI (z0 + (1 + (x.size : Int))) width bl = rg at *
          generalize T.getD (j + 1) 0 = tv at *
          have HMS2 := Lib.hid (HMS.out _ HCT2.out)
          have HMO2 := Lib.hid (HMO.out _ HCT2.out)
          have HLS2 : Hid (lineS ws i (t + 1) = z0 + (1 + (x.size : Int))) := by show _ = _; rw [HLS.out]
          clear HMS HMO HLS HCT
          have e4 : IntKind.i64.wrap (rg + tv) = rg + tv := IntWalk.i64_in _ (by omega)
          go_wp2_with fail
          refine wp_region_held_drew (S := fun w' => w' = wr.drew) (by kernel_rfl) ?_ (fun hHeld => ?_)
          · exact rfl
          refine wpAnyH_take (i := 0) (v := ?v1) (at_op rfl) (by kernel_rfl) (by kernel_rfl) (by kernel_rfl) (fun _ _ _ h => h) (Or.inl ⟨by rfl, ?y1⟩) (by assumption) ?r1
          case y1 =>
            intro wx hSx
            subst hSx
            go_simp
            try with_reducible rfl
          try simp only [Act.put, List.setIfInBounds_toArray, List.set_cons_zero, List.set_cons_succ]
          refine wpAnyH_take (i := 1) (v := ?v2) (at_op rfl) (by kernel_rfl) (by kernel_rfl) (by kernel_rfl) (fun _ _ _ h => h) (Or.inl ⟨by rfl, ?y2⟩) (by assumption) ?r2
          case y2 =>
            intro wx hSx
            subst hSx
            go_simp
            try with_reducible rfl
          try simp only [Act.put, List.setIfInBounds_toArray, List.set_cons_zero, List.set_cons_succ]
          refine wpAnyH_take (i := 2) (v := ?v3) (at_op rfl) (by kernel_rfl) (by kernel_rfl) (by kernel_rfl) (fun _ _ _ h => h) (Or.inl ⟨by rfl, ?y3⟩) (by assumption) ?r3
          case y3 =>
            intro wx hSx
            subst hSx
            go_simp
            try with_reducible rfl
          try simp only [Act.put, List.setIfInBounds_toArray, List.set_cons_zero, List.set_cons_succ]
          refine wpAnyH_take (i := 3) (v := ?v4) (at_op rfl) (by kernel_rfl) (by kernel_rfl) (by kernel_rfl) (fun _ _ _ h => h) (Or.inl ⟨by rfl, ?y4⟩) (by assumption) ?r4
          case y4 =>
            intro wx hSx
            subst hSx
            go_simp
            try with_reducible rfl
          try simp only [Act.put, List.setIfInBounds_toArray, List.set_cons_zero, List.set_cons_succ]
          refine wpAnyH_take (i := 4) (v := ?v5) (at_op rfl) (by kernel_rfl) (by kernel_rfl) (by kernel_rfl) (fun _ _ _ h => h) (Or.inl ⟨by rfl, ?y5⟩) (by assumption) ?r5
          case y5 =>
            intro wx hSx
            subst hSx
            go_simp
            try with_reducible rfl
          try simp only [Act.put, List.setIfInBounds_toArray, List.set_cons_zero, List.set_cons_succ]
          refine wpAnyH_take (i := 5) (v := ?v6) (at_op rfl) (by kernel_rfl) (by kernel_rfl) (by kernel_rfl) (fun _ _ _ h => h) (Or.inl ⟨by rfl, ?y6⟩) (by assumption) ?r6
          case y6 =>
            intro wx hSx
            subst hSx
            go_simp
            try with_reducible rfl
          try simp only [Act.put, List.setIfInBounds_toArray, List.set_cons_zero, List.set_cons_succ]
          refine wpAnyH_take (i := 7) (v := ?v7) (at_op rfl) (by kernel_rfl) (by kernel_rfl) (by kernel_rfl) (fun _ _ _ h => h) (Or.inl ⟨by rfl, ?y7⟩) (by assumption) ?r7
          case y7 =>
            intro wx hSx
            subst hSx
            go_simp
            try with_reducible rfl
          try simp only [Act.put, List.setIfInBounds_toArray, List.set_cons_zero, List.set_cons_succ]
          refine wpAnyH_take (i := 8) (v := ?v8) (at_op rfl) (by kernel_rfl) (by kernel_rfl) (by kernel_rfl) (fun _ _ _ h => h) (Or.inl ⟨by rfl, ?y8⟩) (by assumption) ?r8
          case y8 =>
            intro wx hSx
            subst hSx
            go_simp
            try with_reducible rfl
          try simp only [Act.put, List.setIfInBounds_toArray, List.set_cons_zero, List.set_cons_succ]
          refine wpAnyH_take (i := 9) (v := ?v9) (at_op rfl) (by kernel_rfl) (by kernel_rfl) (by kernel_rfl) (fun _ _ _ h => h) (Or.inl ⟨by rfl, ?y9⟩) (by assumption) ?r9
          case y9 =>
            intro wx hSx
            subst hSx
            go_simp
            try with_reducible rfl
          try simp only [Act.put, List.setIfInBounds_toArray, List.set_cons_zero, List.set_cons_succ]
          refine wpAnyH_take (i := 10) (v := ?v10) (at_op rfl) (by kernel_rfl) (by kernel_rfl) (by kernel_rfl) (fun _ _ _ h => h) (Or.inl ⟨by rfl, ?y10⟩) (by assumption) ?r10
          case y10 =>
            intro wx hSx
            subst hSx
            go_simp
            try with_reducible rfl
          try simp only [Act.put, List.setIfInBounds_toArray, List.set_cons_zero, List.set_cons_succ]
          refine wpAnyH_take (i := 11) (v := ?v11) (at_op rfl) (by kernel_rfl) (by kernel_rfl) (by kernel_rfl) (fun _ _ _ h => h) (Or.inl ⟨by rfl, ?y11⟩) (by assumption) ?r11
          case y11 =>
            intro wx hSx
            subst hSx
            go_simp
            try with_reducible rfl
          try simp only [Act.put, List.setIfInBounds_toArray, List.set_cons_zero, List.set_cons_succ]
          refine wpAnyH_ready (rs := [6]) (by kernel_rfl) (by simp) ?_
          refine AllReadyH.cons (at_op rfl) (fun K hK => ?_) AllReadyH.nil
          go_simp
          refine (HLR.out _).mono ?_
          rintro e w' ⟨rfl, rfl⟩
          go_wp2_with fail
          refine hK.out _ _ rfl (fun _ => ?_)
          clear hK K
          try simp only [Act.put, List.setIfInBounds_toArray, List.set_cons_zero, List.set_cons_succ]
          refine wpAnyH_take (i := 12) (v := ?v12) (at_op rfl) (by kernel_rfl) (by kernel_rfl) (by kernel_rfl) (fun _ _ _ h => h) (Or.inl ⟨by rfl, ?y12⟩) (by assumption) ?r12
          case y12 =>
            intro wx hSx
            subst hSx
            go_simp
            try with_reducible rfl
          try simp only [Act.put, List.setIfInBounds_toArray, List.set_cons_zero, List.set_cons_succ]
          refine wpAnyH_take (i := 13) (v := ?v13) (at_op rfl) (by kernel_rfl) (by kernel_rfl) (by kernel_rfl) (fun _ _ _ h => h) (Or.inl ⟨by rfl, ?y13⟩) (by assumption) ?r13
          case y13 =>
            intro wx hSx
            subst hSx
            go_simp
            try with_reducible rfl
          try simp only [Act.put, List.setIfInBounds_toArray, List.set_cons_zero, List.set_cons_succ]
          refine wpAnyH_done (by kernel_rfl) ?_ _
          clear hbl
          have hbd := hb.drew
          have hOd := hO.drew
          have ud := uc2
          replace ud : wr.drew.cell? ⟨B, i, none⟩ = some (.int .i64 (minS ws width T i t)) := ud
          have fd : wr.drew.frozen? ⟨B, i, none⟩ = false := f0
          clear d0 uc uc2 f0 hb hO
          generalize wr.drew = wd at *
          generalize minS ws width T i t = mn at *
          by_cases ht0 : t = 0
          · have hje : ((j : Int) == (i : Int)) = true := beq_iff_eq.2 (by have := HJ.out; omega)
            have HU := Lib.hid (HMS2.out (.inl ht0))
            clear ht0
            have hO6 := hOd.put (k := i) (by omega) (rg + tv)
            rw [List.set_set] at hO6
            go_wp2
            go_roundw
            case rel => exact ⟨t + 1, j + 1, (by have := HJ.out; show _ = _; omega), by omega, (by rw [HLS2.out]), by go_num, hbd.setCell (p := ⟨B, i, none⟩) (Nat.le_refl _) _, (by rw [HU.out.1]; exact hO6)⟩
            case measure => simp [intOf]; omega
          · have hje : ((j : Int) == (i : Int)) = false := beq_eq_false_iff_ne.2 (by have := HJ.out; omega)
            by_cases hcm : rg + tv < mn
            · have HU := Lib.hid (HMS2.out (.inr (by omega)))
              clear ht0
              have hO6 := hOd.put (k := i) (by omega) (rg + tv)
              rw [List.set_set] at hO6
              go_wp2
              go_roundw
              case rel => exact ⟨t + 1, j + 1, (by have := HJ.out; show _ = _; omega), by omega, (by rw [HLS2.out]), by go_num, hbd.setCell (p := ⟨B, i, none⟩) (Nat.le_refl _) _, (by rw [HU.out.1]; exact hO6)⟩
              case measure => simp [intOf]; omega
            · have HU := Lib.hid (HMO2.out (by omega))
              clear ht0
              go_wp2
              go_roundw
              case rel => exact ⟨t + 1, j + 1, (by have := HJ.out; show _ = _; omega), by omega, (by rw [HLS2.out]), by go_num, hbd, (by rw [HU.out.1]; exact hOd)⟩
              case measure => simp [intOf]; omega
        · have hji : ¬ (j : Int) < (ws.length : Int) := by omega
          have HE : Hid (t = ws.length - i) := by have := HJ.out; show _ = _; omega
          rw [HE.out, ← HTN.out] at hO
          go_wp2
          go_roundw
          case rel => exact ⟨i, by omega, by go_num, hb, hO⟩
          case measure => first | (simp [intOf]; done) | (simp [intOf]; omega)
end Go.Proofs.YtjaginciejljkaaDoor
