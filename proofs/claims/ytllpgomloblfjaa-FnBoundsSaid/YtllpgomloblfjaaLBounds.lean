/- FnBounds: what the first values cost at least, no list that begins with them falls below; ties that are broken by them stay broken. No condition. -/
import Derived.Test.YtllpgomloblfjaaDrawU
import Derived.Test.YtllpgomloblfjaaDrawW
import Derived.Test.YtllpgomloblfjaaBoundZ
import Derived.Test.YtllpgomloblfjaaBoundS
namespace Go.Proofs.Ytllpgomloblfjaa
open Go.RowKit
set_option maxHeartbeats 4000000 in
set_option maxRecDepth 100000 in
theorem lawBounds_any (xs : List Int) (v : Value) (w : World) (hr : Rd bytS 0 w.heap.size w v xs) (hx : ∀ x ∈ xs, U8 x) :
    Calls Try.prog 4 #[v] w fun e w' => e = .returned (.bool true) ∧ Below w.heap.size w w' := by
  go_enter Try.func4, Try.ntmps4
  go_wp2_with fail
  refine (big_any hr).mono ?_
  rintro e w0 ⟨rfl, rfl⟩
  by_cases hbig : 1048576 < xs.length
  · have hd : decide (1048576 < xs.length) = true := decide_eq_true hbig
    rw [hd]
    go_wp2
    go_ret
    exact ⟨rfl, Below.refl _ _⟩
  have hd : decide (1048576 < xs.length) = false := decide_eq_false hbig
  rw [hd]
  have hl : xs.length ≤ 1048576 := by omega
  clear hd hbig
  have HB : Below w.heap.size w w := Below.refl _ _
  go_wp2_with fail
  refine (drawValues_any hr (Nat.le_refl _) hx hl).mono ?_
  rintro e w1 ⟨x, vs, ra, rc, ca, cc, sa, sc, ta, tc, va, vc, rfl, hok, hz, r1, c9, hF, hP, hV, hb⟩
  replace hr := (hr.below hb (Nat.le_refl _)).wide (Nat.le_refl _) hb.size
  replace HB := HB.trans (hb.mono HB.size)
  clear hb
  have hX8 := (right_of hok).rules
  have hvl : 1 ≤ vs.length := by have := hF.full; omega
  have hv8 : vs.length ≤ 8 := by have := hF.full; omega
  have hZ : Sized x := ⟨fun c h => Nat.le_trans (hz c h) (by decide)⟩
  have hTM : ∀ c ∈ x.chunks, c.text.size ≤ maxLen := fun c h => by have := hz c h; unfold maxLen; omega
  obtain ⟨vb, vo, rfl, -, -, -⟩ := (at_int hV).2 0 (by omega)
  have hvc := hV.lenEq.2.1
  clear hz hX8
  unfold Piece.v
  go_upto_region 4 with fail
  have hb : Below w1.heap.size w1 (w1.alloc (.cells #[.int .i64 x.indent, .slice ra x.rules.length rc, .slice ca x.chunks.length cc, .slice sa x.spans.length sc, .slice ta x.ties.length tc] 29)) := (Below.refl _ _).alloc (Nat.le_refl _) _
  have hX0 := heap_alloc_new w1 (.cells #[.int .i64 x.indent, .slice ra x.rules.length rc, .slice ca x.chunks.length cc, .slice sa x.spans.length sc, .slice ta x.ties.length tc] 29)
  obtain ⟨P, hPe⟩ : ∃ P, Hid (P = w1.heap.size) := ⟨_, rfl⟩
  rw [← hPe.out] at hX0 ⊢
  have hX : PBox x ra rc ca cc sa sc ta tc P (w1.alloc (.cells #[.int .i64 x.indent, .slice ra x.rules.length rc, .slice ca x.chunks.length cc, .slice sa x.spans.length sc, .slice ta x.ties.length tc] 29)) := hX0
  clear hX0 hPe
  generalize w1.alloc (.cells #[.int .i64 x.indent, .slice ra x.rules.length rc, .slice ca x.chunks.length cc, .slice sa x.spans.length sc, .slice ta x.ties.length tc] 29) = w2 at *
  replace hr := (hr.below hb (Nat.le_refl _)).wide (Nat.le_refl _) hb.size
  replace hP := (hP.below hb (Nat.le_refl _)).wide (Nat.le_refl _) hb.size
  replace hV := (hV.below hb (Nat.le_refl _)).wide (Nat.le_refl _) hb.size
  replace HB := HB.trans (hb.mono HB.size)
  clear hb
  go_wp2_with fail
  refine (drawPlaces_any hr (Nat.le_refl _) hx hl).mono ?_
  rintro e w3 ⟨r, ps, rfl, hp12, hps, hQ, hb⟩
  replace hr := (hr.below hb (Nat.le_refl _)).wide (Nat.le_refl _) hb.size
  replace hP := (hP.below hb (Nat.le_refl _)).wide (Nat.le_refl _) hb.size
  replace hV := (hV.below hb (Nat.le_refl _)).wide (Nat.le_refl _) hb.size
  replace hX := PBox.below hX hb
  replace HB := HB.trans (hb.mono HB.size)
  clear hb
  obtain ⟨qa, qc, rfl, -, -, -⟩ := hQ.form
  obtain ⟨qb, qo, rfl, -, -, d2⟩ := (at_int hQ.rd).2 2 (by omega)
  obtain ⟨hz1, hz2⟩ := hps _ (List.getElem_mem (show 2 < ps.length by omega))
  generalize ps[2] = q at *
  have hq2 : (2 : Int) < (ps.length : Int) := by omega
  have hm0 : ¬ ((vs.length : Int) + 1 = 0) := by omega
  clear hQ hps hp12
  go_upto_region 5 with fail
  have n1 := Int.emod_nonneg q hm0
  have n2 := Int.emod_lt_of_pos q (show 0 < (vs.length : Int) + 1 by omega)
  generalize q % ((vs.length : Int) + 1) = ni at *
  obtain ⟨n, rfl⟩ := Int.eq_ofNat_of_zero_le n1
  have hn1 : n ≤ vs.length := by omega
  have hn2 : n ≤ vc := by omega
  have hn3 : (n : Int) ≤ (vc : Int) := by omega
  have hn4 : (0 : Int) ≤ (n : Int) := n1
  clear n2 hm0 hq2 d2 hz1 hz2 n1
  have hTl : Hid ((vs.take n).length = n) := by
    show _ = _
    rw [List.length_take]; omega
  have hT : Rd intF.shape w.heap.size w3.heap.size w3 (.slice (some ⟨vb, vo, none⟩) (vs.take n).length vc) (vs.take n) := by
    rw [hTl.out]; exact hV.take hn1
  obtain ⟨L1, L2, L3⟩ := bounds_law hok hF 80 n
  refine wp_region_held_drew (S := fun w' => Below w3.heap.size w3 w') (by kernel_rfl) ?_ (fun hHeld => ?_)
  · exact (Below.refl _ _).drew
  refine wpAnyH_take (i := 0) (v := ?v1) (at_op rfl) (by kernel_rfl) (by kernel_rfl) (by kernel_rfl) (fun _ _ _ h => h) (Or.inl ⟨by rfl, ?y1⟩) (by assumption) ?r1
  case y1 =>
    intro wx hSx
    obtain ⟨p0, p1, p2, p3, p4⟩ := (PBox.below hX hSx).five
    go_simp
    try with_reducible rfl
  try simp only [Act.put, List.setIfInBounds_toArray, List.set_cons_zero, List.set_cons_succ]
  refine wpAnyH_take (i := 1) (v := ?v2) (at_op rfl) (by kernel_rfl) (by kernel_rfl) (by kernel_rfl) (fun _ _ _ h => h) (Or.inl ⟨by rfl, ?y2⟩) (by assumption) ?r2
  case y2 =>
    intro wx hSx
    go_simp
    try with_reducible rfl
  try simp only [Act.put, List.setIfInBounds_toArray, List.set_cons_zero, List.set_cons_succ]
  refine wpAnyH_take (i := 2) (v := ?v3) (at_op rfl) (by kernel_rfl) (by kernel_rfl) (by kernel_rfl) (fun _ _ _ h => h) (Or.inl ⟨by rfl, ?y3⟩) (by assumption) ?r3
  case y3 =>
    intro wx hSx
    go_simp
    try with_reducible rfl
  try simp only [Act.put, List.setIfInBounds_toArray, List.set_cons_zero, List.set_cons_succ]
  refine wpAnyH_take (i := 3) (v := ?v4) (at_op rfl) (by kernel_rfl) (by kernel_rfl) (by kernel_rfl) (fun _ _ _ h => h) (Or.inl ⟨by rfl, ?y4⟩) (by assumption) ?r4
  case y4 =>
    intro wx hSx
    go_simp
    try with_reducible rfl
  try simp only [Act.put, List.setIfInBounds_toArray, List.set_cons_zero, List.set_cons_succ]
  refine wpAnyH_ready (rs := [4]) (by kernel_rfl) (by simp) ?_
  refine AllReadyH.cons (at_op rfl) (fun K hK => ?_) AllReadyH.nil
  go_simp
  have q := bound_top x (vs.take n) ra ca sa ta (some ⟨vb, vo, none⟩) rc cc sc tc vc _ _ _ _ _ (hP.below hHeld (Nat.le_refl _)) hHeld.size (hT.below hHeld (Nat.le_refl _)) hHeld.size hTM
  rw [hTl.out] at q
  refine (q).mono ?_
  rintro e wh5 ⟨rfl, hb⟩
  replace hHeld := hHeld.trans (hb.mono hHeld.size)
  clear hb
  generalize boundB x (vs.take n) = low at *
  go_wp2_with fail
  refine hK.out _ _ hHeld (fun _ => ?_)
  clear hK K
  try simp only [Act.put, List.setIfInBounds_toArray, List.set_cons_zero, List.set_cons_succ]
  refine wpAnyH_take (i := 5) (v := ?v6) (at_op rfl) (by kernel_rfl) (by kernel_rfl) (by kernel_rfl) (fun _ _ _ h => h) (Or.inl ⟨by rfl, ?y6⟩) (by assumption) ?r6
  case y6 =>
    intro wx hSx
    go_simp
    try with_reducible rfl
  try simp only [Act.put, List.setIfInBounds_toArray, List.set_cons_zero, List.set_cons_succ]
  refine wpAnyH_done (by kernel_rfl) ?_ _
  have hb := hHeld
  clear hHeld
  replace hr := (hr.below hb (Nat.le_refl _)).wide (Nat.le_refl _) hb.size
  replace hP := (hP.below hb (Nat.le_refl _)).wide (Nat.le_refl _) hb.size
  replace hV := (hV.below hb (Nat.le_refl _)).wide (Nat.le_refl _) hb.size
  replace hX := PBox.below hX hb
  replace hT := (hT.below hb (Nat.le_refl _)).wide (Nat.le_refl _) hb.size
  replace HB := HB.trans (hb.mono HB.size)
  clear hb
  go_wp2_with fail
  refine (drawBound_any hr (Nat.le_refl _) hx hl).mono ?_
  rintro e w5 ⟨y, us, ra2, rc2, ca2, cc2, sa2, sc2, ta2, tc2, ua, uc, rfl, hAy, -, hPy, hU, hb⟩
  replace hr := (hr.below hb (Nat.le_refl _)).wide (Nat.le_refl _) hb.size
  replace hP := (hP.below hb (Nat.le_refl _)).wide (Nat.le_refl _) hb.size
  replace hV := (hV.below hb (Nat.le_refl _)).wide (Nat.le_refl _) hb.size
  replace hX := PBox.below hX hb
  replace hT := (hT.below hb (Nat.le_refl _)).wide (Nat.le_refl _) hb.size
  replace HB := HB.trans (hb.mono HB.size)
  clear hb
  unfold Piece.v
  go_upto_region 7 with fail
  have hb : Below w5.heap.size w5 (w5.alloc (.cells #[.int .i64 y.indent, .slice ra2 y.rules.length rc2, .slice ca2 y.chunks.length cc2, .slice sa2 y.spans.length sc2, .slice ta2 y.ties.length tc2] 29)) := (Below.refl _ _).alloc (Nat.le_refl _) _
  have hX0 := heap_alloc_new w5 (.cells #[.int .i64 y.indent, .slice ra2 y.rules.length rc2, .slice ca2 y.chunks.length cc2, .slice sa2 y.spans.length sc2, .slice ta2 y.ties.length tc2] 29)
  obtain ⟨Q, hPe⟩ : ∃ P, Hid (P = w5.heap.size) := ⟨_, rfl⟩
  rw [← hPe.out] at hX0 ⊢
  have hY : PBox y ra2 rc2 ca2 cc2 sa2 sc2 ta2 tc2 Q (w5.alloc (.cells #[.int .i64 y.indent, .slice ra2 y.rules.length rc2, .slice ca2 y.chunks.length cc2, .slice sa2 y.spans.length sc2, .slice ta2 y.ties.length tc2] 29)) := hX0
  clear hX0 hPe
  generalize w5.alloc (.cells #[.int .i64 y.indent, .slice ra2 y.rules.length rc2, .slice ca2 y.chunks.length cc2, .slice sa2 y.spans.length sc2, .slice ta2 y.ties.length tc2] 29) = w6 at *
  replace hr := (hr.below hb (Nat.le_refl _)).wide (Nat.le_refl _) hb.size
  replace hP := (hP.below hb (Nat.le_refl _)).wide (Nat.le_refl _) hb.size
  replace hV := (hV.below hb (Nat.le_refl _)).wide (Nat.le_refl _) hb.size
  replace hX := PBox.below hX hb
  replace hT := (hT.below hb (Nat.le_refl _)).wide (Nat.le_refl _) hb.size
  replace hPy := (hPy.below hb (Nat.le_refl _)).wide (Nat.le_refl _) hb.size
  replace hU := (hU.below hb (Nat.le_refl _)).wide (Nat.le_refl _) hb.size
  replace HB := HB.trans (hb.mono HB.size)
  clear hb
  go_wp2_with fail
  refine (drawTies_any hr (Nat.le_refl _) hx hl).mono ?_
  rintro e w7 ⟨z, ts, ra3, rc3, ca3, cc3, sa3, sc3, ta3, tc3, sa9, sc9, rfl, hAz, -, hPz, hS, hb⟩
  replace hr := (hr.below hb (Nat.le_refl _)).wide (Nat.le_refl _) hb.size
  replace hP := (hP.below hb (Nat.le_refl _)).wide (Nat.le_refl _) hb.size
  replace hV := (hV.below hb (Nat.le_refl _)).wide (Nat.le_refl _) hb.size
  replace hX := PBox.below hX hb
  replace hT := (hT.below hb (Nat.le_refl _)).wide (Nat.le_refl _) hb.size
  replace hPy := (hPy.below hb (Nat.le_refl _)).wide (Nat.le_refl _) hb.size
  replace hU := (hU.below hb (Nat.le_refl _)).wide (Nat.le_refl _) hb.size
  replace hY := PBox.below hY hb
  replace HB := HB.trans (hb.mono HB.size)
  clear hb
  unfold Piece.v
  go_upto_region 8 with fail
  have hb : Below w7.heap.size w7 (w7.alloc (.cells #[.int .i64 z.indent, .slice ra3 z.rules.length rc3, .slice ca3 z.chunks.length cc3, .slice sa3 z.spans.length sc3, .slice ta3 z.ties.length tc3] 29)) := (Below.refl _ _).alloc (Nat.le_refl _) _
  have hX0 := heap_alloc_new w7 (.cells #[.int .i64 z.indent, .slice ra3 z.rules.length rc3, .slice ca3 z.chunks.length cc3, .slice sa3 z.spans.length sc3, .slice ta3 z.ties.length tc3] 29)
  obtain ⟨T, hPe⟩ : ∃ P, Hid (P = w7.heap.size) := ⟨_, rfl⟩
  rw [← hPe.out] at hX0 ⊢
  have hZ3 : PBox z ra3 rc3 ca3 cc3 sa3 sc3 ta3 tc3 T (w7.alloc (.cells #[.int .i64 z.indent, .slice ra3 z.rules.length rc3, .slice ca3 z.chunks.length cc3, .slice sa3 z.spans.length sc3, .slice ta3 z.ties.length tc3] 29)) := hX0
  clear hX0 hPe
  generalize w7.alloc (.cells #[.int .i64 z.indent, .slice ra3 z.rules.length rc3, .slice ca3 z.chunks.length cc3, .slice sa3 z.spans.length sc3, .slice ta3 z.ties.length tc3] 29) = w8 at *
  replace hr := (hr.below hb (Nat.le_refl _)).wide (Nat.le_refl _) hb.size
  replace hP := (hP.below hb (Nat.le_refl _)).wide (Nat.le_refl _) hb.size
  replace hV := (hV.below hb (Nat.le_refl _)).wide (Nat.le_refl _) hb.size
  replace hX := PBox.below hX hb
  replace hT := (hT.below hb (Nat.le_refl _)).wide (Nat.le_refl _) hb.size
  replace hPy := (hPy.below hb (Nat.le_refl _)).wide (Nat.le_refl _) hb.size
  replace hU := (hU.below hb (Nat.le_refl _)).wide (Nat.le_refl _) hb.size
  replace hY := PBox.below hY hb
  replace hPz := (hPz.below hb (Nat.le_refl _)).wide (Nat.le_refl _) hb.size
  replace hS := (hS.below hb (Nat.le_refl _)).wide (Nat.le_refl _) hb.size
  replace HB := HB.trans (hb.mono HB.size)
  clear hb
  obtain ⟨p0, p1, p2, p3, p4⟩ := hX.five
  have hfd : ∀ (a b : Int) (w : World), (Instr.field 37 (.agg #[.int .i64 a, .int .i64 b]) 1).run Try.prog w = .ok (.int .i64 b) w := fun _ _ _ => by kernel_rfl
  go_wp2_with fail
  refine (costTop_spec x vs ra ca sa ta (some ⟨vb, vo, none⟩) rc cc sc tc vc _ _ _ _ 80 _ hP (Nat.le_refl _) hV (Nat.le_refl _) hZ).mono ?_
  rintro e w9 ⟨rfl, hb⟩
  generalize (costB x vs 80).sum = sum at *
  generalize (costB x vs 80).over = ov at *
  replace hr := (hr.below hb (Nat.le_refl _)).wide (Nat.le_refl _) hb.size
  replace hP := (hP.below hb (Nat.le_refl _)).wide (Nat.le_refl _) hb.size
  replace hV := (hV.below hb (Nat.le_refl _)).wide (Nat.le_refl _) hb.size
  replace hX := PBox.below hX hb
  replace hT := (hT.below hb (Nat.le_refl _)).wide (Nat.le_refl _) hb.size
  replace hPy := (hPy.below hb (Nat.le_refl _)).wide (Nat.le_refl _) hb.size
  replace hU := (hU.below hb (Nat.le_refl _)).wide (Nat.le_refl _) hb.size
  replace hY := PBox.below hY hb
  replace hPz := (hPz.below hb (Nat.le_refl _)).wide (Nat.le_refl _) hb.size
  replace hS := (hS.below hb (Nat.le_refl _)).wide (Nat.le_refl _) hb.size
  replace hZ3 := PBox.below hZ3 hb
  replace HB := HB.trans (hb.mono HB.size)
  clear hb
  clear p0 p1 p2 p3 p4
  go_upto_region 9 with fail
  clear hfd
  have hTy : ∀ c ∈ y.chunks, c.text.size ≤ maxLen := fun c h => by have := hAy.z c h; unfold maxLen; omega
  cases hc1 : tiesMay x.ties (vs.take n)
  · have hcv := L3 hc1
    refine wp_region_held_drew (S := fun w' => Below w9.heap.size w9 w') (by kernel_rfl) ?_ (fun hHeld => ?_)
    · exact (Below.refl _ _).drew
    refine wpAnyH_take (i := 0) (v := ?v7) (at_op rfl) (by kernel_rfl) (by kernel_rfl) (by kernel_rfl) (fun _ _ _ h => h) (Or.inl ⟨by rfl, ?y7⟩) (by assumption) ?r7
    case y7 =>
      intro wx hSx
      go_simp
      try with_reducible rfl
    try simp only [Act.put, List.setIfInBounds_toArray, List.set_cons_zero, List.set_cons_succ]
    refine wpAnyH_take (i := 1) (v := ?v8) (at_op rfl) (by kernel_rfl) (by kernel_rfl) (by kernel_rfl) (fun _ _ _ h => h) (Or.inl ⟨by rfl, ?y8⟩) (by assumption) ?r8
    case y8 =>
      intro wx hSx
      go_simp
      try with_reducible rfl
    try simp only [Act.put, List.setIfInBounds_toArray, List.set_cons_zero, List.set_cons_succ]
    refine wpAnyH_take (i := 2) (v := .bool true) (at_op rfl) (by kernel_rfl) (by kernel_rfl) (by kernel_rfl) (fun _ _ _ h => h) (Or.inl ⟨by rfl, ?y9⟩) (by assumption) ?r9
    case y9 =>
      intro wx hSx
      skip
      go_simp
      try simp [L2]
    try simp only [Act.put, List.setIfInBounds_toArray, List.set_cons_zero, List.set_cons_succ]
    refine wpAnyH_take (i := 3) (v := ?v10) (at_op rfl) (by kernel_rfl) (by kernel_rfl) (by kernel_rfl) (fun _ _ _ h => h) (Or.inl ⟨by rfl, ?y10⟩) (by assumption) ?r10
    case y10 =>
      intro wx hSx
      go_simp
      try with_reducible rfl
    try simp only [Act.put, List.setIfInBounds_toArray, List.set_cons_zero, List.set_cons_succ]
    refine wpAnyH_take (i := 4) (v := ?v11) (at_op rfl) (by kernel_rfl) (by kernel_rfl) (by kernel_rfl) (fun _ _ _ h => h) (Or.inl ⟨by rfl, ?y11⟩) (by assumption) ?r11
    case y11 =>
      intro wx hSx
      obtain ⟨p0, p1, p2, p3, p4⟩ := (PBox.below hX hSx).five
      go_simp
      try with_reducible rfl
    try simp only [Act.put, List.setIfInBounds_toArray, List.set_cons_zero, List.set_cons_succ]
    refine wpAnyH_take (i := 5) (v := ?v12) (at_op rfl) (by kernel_rfl) (by kernel_rfl) (by kernel_rfl) (fun _ _ _ h => h) (Or.inl ⟨by rfl, ?y12⟩) (by assumption) ?r12
    case y12 =>
      intro wx hSx
      go_simp
      try with_reducible rfl
    try simp only [Act.put, List.setIfInBounds_toArray, List.set_cons_zero, List.set_cons_succ]
    refine wpAnyH_take (i := 7) (v := ?v13) (at_op rfl) (by kernel_rfl) (by kernel_rfl) (by kernel_rfl) (fun _ _ _ h => h) (Or.inl ⟨by rfl, ?y13⟩) (by assumption) ?r13
    case y13 =>
      intro wx hSx
      go_simp
      try with_reducible rfl
    try simp only [Act.put, List.setIfInBounds_toArray, List.set_cons_zero, List.set_cons_succ]
    refine wpAnyH_ready (rs := [6]) (by kernel_rfl) (by simp) ?_
    refine AllReadyH.cons (at_op rfl) (fun K hK => ?_) AllReadyH.nil
    go_simp
    refine (bound_top x vs ra ca sa ta (some ⟨vb, vo, none⟩) rc cc sc tc vc _ _ _ _ _ (hP.below hHeld (Nat.le_refl _)) hHeld.size (hV.below hHeld (Nat.le_refl _)) hHeld.size hTM).mono ?_
    rintro e wh14 ⟨rfl, hb⟩
    replace hHeld := hHeld.trans (hb.mono hHeld.size)
    clear hb
    rw [L1]
    go_wp2_with fail
    refine hK.out _ _ hHeld (fun _ => ?_)
    clear hK K
    try simp only [Act.put, List.setIfInBounds_toArray, List.set_cons_zero, List.set_cons_succ]
    refine wpAnyH_take (i := 8) (v := .bool true) (at_op rfl) (by kernel_rfl) (by kernel_rfl) (by kernel_rfl) (fun _ _ _ h => h) (Or.inl ⟨by rfl, ?y15⟩) (by assumption) ?r15
    case y15 =>
      intro wx hSx
      skip
      go_simp
      try simp
    try simp only [Act.put, List.setIfInBounds_toArray, List.set_cons_zero, List.set_cons_succ]
    refine wpAnyH_take (i := 9) (v := .bool true) (at_op rfl) (by kernel_rfl) (by kernel_rfl) (by kernel_rfl) (fun _ _ _ h => h) (Or.inl ⟨by rfl, ?y16⟩) (by assumption) ?r16
    case y16 =>
      intro wx hSx
      skip
      go_simp
      try simp
    try simp only [Act.put, List.setIfInBounds_toArray, List.set_cons_zero, List.set_cons_succ]
    refine wpAnyH_take (i := 10) (v := ?v17) (at_op rfl) (by kernel_rfl) (by kernel_rfl) (by kernel_rfl) (fun _ _ _ h => h) (Or.inl ⟨by rfl, ?y17⟩) (by assumption) ?r17
    case y17 =>
      intro wx hSx
      go_simp
      try with_reducible rfl
    try simp only [Act.put, List.setIfInBounds_toArray, List.set_cons_zero, List.set_cons_succ]
    refine wpAnyH_take (i := 11) (v := ?v18) (at_op rfl) (by kernel_rfl) (by kernel_rfl) (by kernel_rfl) (fun _ _ _ h => h) (Or.inl ⟨by rfl, ?y18⟩) (by assumption) ?r18
    case y18 =>
      intro wx hSx
      obtain ⟨p0, p1, p2, p3, p4⟩ := (PBox.below hX hSx).five
      go_simp
      try with_reducible rfl
    try simp only [Act.put, List.setIfInBounds_toArray, List.set_cons_zero, List.set_cons_succ]
    refine wpAnyH_take (i := 12) (v := ?v19) (at_op rfl) (by kernel_rfl) (by kernel_rfl) (by kernel_rfl) (fun _ _ _ h => h) (Or.inl ⟨by rfl, ?y19⟩) (by assumption) ?r19
    case y19 =>
      intro wx hSx
      go_simp
      try with_reducible rfl
    try simp only [Act.put, List.setIfInBounds_toArray, List.set_cons_zero, List.set_cons_succ]
    refine wpAnyH_take (i := 13) (v := ?v20) (at_op rfl) (by kernel_rfl) (by kernel_rfl) (by kernel_rfl) (fun _ _ _ h => h) (Or.inl ⟨by rfl, ?y20⟩) (by assumption) ?r20
    case y20 =>
      intro wx hSx
      go_simp
      try with_reducible rfl
    try simp only [Act.put, List.setIfInBounds_toArray, List.set_cons_zero, List.set_cons_succ]
    refine wpAnyH_take (i := 14) (v := ?v21) (at_op rfl) (by kernel_rfl) (by kernel_rfl) (by kernel_rfl) (fun _ _ _ h => h) (Or.inl ⟨by rfl, ?y21⟩) (by assumption) ?r21
    case y21 =>
      intro wx hSx
      go_simp
      try with_reducible rfl
    try simp only [Act.put, List.setIfInBounds_toArray, List.set_cons_zero, List.set_cons_succ]
    refine wpAnyH_ready (rs := [15]) (by kernel_rfl) (by simp) ?_
    refine AllReadyH.cons (at_op rfl) (fun K hK => ?_) AllReadyH.nil
    go_simp
    have q := tiesMay_impl x (vs.take n) ra ca sa ta rc cc sc tc (.slice (some ⟨vb, vo, none⟩) (vs.take n).length vc) _ _ _ _ _ (hP.below hHeld (Nat.le_refl _)) hHeld.size (hT.below hHeld (Nat.le_refl _)) hHeld.size
    rw [hTl.out] at q
    refine (q).mono ?_
    rintro e wh22 ⟨rfl, hb⟩
    replace hHeld := hHeld.trans (hb.mono hHeld.size)
    clear hb
    rw [hc1]
    go_wp2_with fail
    refine hK.out _ _ hHeld (fun _ => ?_)
    clear hK K
    try simp only [Act.put, List.setIfInBounds_toArray, List.set_cons_zero, List.set_cons_succ]
    refine wpAnyH_take (i := 16) (v := ?v23) (at_op rfl) (by kernel_rfl) (by kernel_rfl) (by kernel_rfl) (fun _ _ _ h => h) (Or.inl ⟨by rfl, ?y23⟩) (by assumption) ?r23
    case y23 =>
      intro wx hSx
      go_simp
      try with_reducible rfl
    try simp only [Act.put, List.setIfInBounds_toArray, List.set_cons_zero, List.set_cons_succ]
    refine wpAnyH_take (i := 17) (v := ?v24) (at_op rfl) (by kernel_rfl) (by kernel_rfl) (by kernel_rfl) (fun _ _ _ h => h) (Or.inl ⟨by rfl, ?y24⟩) (by assumption) ?r24
    case y24 =>
      intro wx hSx
      obtain ⟨p0, p1, p2, p3, p4⟩ := (PBox.below hX hSx).five
      go_simp
      try with_reducible rfl
    try simp only [Act.put, List.setIfInBounds_toArray, List.set_cons_zero, List.set_cons_succ]
    refine wpAnyH_take (i := 18) (v := ?v25) (at_op rfl) (by kernel_rfl) (by kernel_rfl) (by kernel_rfl) (fun _ _ _ h => h) (Or.inl ⟨by rfl, ?y25⟩) (by assumption) ?r25
    case y25 =>
      intro wx hSx
      go_simp
      try with_reducible rfl
    try simp only [Act.put, List.setIfInBounds_toArray, List.set_cons_zero, List.set_cons_succ]
    refine wpAnyH_ready (rs := [19]) (by kernel_rfl) (by simp) ?_
    refine AllReadyH.cons (at_op rfl) (fun K hK => ?_) AllReadyH.nil
    go_simp
    refine (tiesHold_spec x vs ra ca sa ta (some ⟨vb, vo, none⟩) rc cc sc tc vc _ _ _ _ _ (hP.below hHeld (Nat.le_refl _)) hHeld.size (hV.below hHeld (Nat.le_refl _)) hHeld.size (right_of hok) hF).mono ?_
    rintro e wh26 ⟨rfl, hb⟩
    replace hHeld := hHeld.trans (hb.mono hHeld.size)
    clear hb
    rw [hcv]
    go_wp2_with fail
    refine hK.out _ _ hHeld (fun _ => ?_)
    clear hK K
    try simp only [Act.put, List.setIfInBounds_toArray, List.set_cons_zero, List.set_cons_succ]
    refine wpAnyH_take (i := 20) (v := ?v27) (at_op rfl) (by kernel_rfl) (by kernel_rfl) (by kernel_rfl) (fun _ _ _ h => h) (Or.inl ⟨by rfl, ?y27⟩) (by assumption) ?r27
    case y27 =>
      intro wx hSx
      go_simp
      try with_reducible rfl
    try simp only [Act.put, List.setIfInBounds_toArray, List.set_cons_zero, List.set_cons_succ]
    refine wpAnyH_take (i := 21) (v := .bool true) (at_op rfl) (by kernel_rfl) (by kernel_rfl) (by kernel_rfl) (fun _ _ _ h => h) (Or.inl ⟨by rfl, ?y28⟩) (by assumption) ?r28
    case y28 =>
      intro wx hSx
      skip
      go_simp
      try simp
    try simp only [Act.put, List.setIfInBounds_toArray, List.set_cons_zero, List.set_cons_succ]
    refine wpAnyH_take (i := 22) (v := .bool true) (at_op rfl) (by kernel_rfl) (by kernel_rfl) (by kernel_rfl) (fun _ _ _ h => h) (Or.inl ⟨by rfl, ?y29⟩) (by assumption) ?r29
    case y29 =>
      intro wx hSx
      skip
      go_simp
      try simp
    try simp only [Act.put, List.setIfInBounds_toArray, List.set_cons_zero, List.set_cons_succ]
    refine wpAnyH_take (i := 23) (v := ?v30) (at_op rfl) (by kernel_rfl) (by kernel_rfl) (by kernel_rfl) (fun _ _ _ h => h) (Or.inl ⟨by rfl, ?y30⟩) (by assumption) ?r30
    case y30 =>
      intro wx hSx
      go_simp
      try with_reducible rfl
    try simp only [Act.put, List.setIfInBounds_toArray, List.set_cons_zero, List.set_cons_succ]
    refine wpAnyH_take (i := 24) (v := ?v31) (at_op rfl) (by kernel_rfl) (by kernel_rfl) (by kernel_rfl) (fun _ _ _ h => h) (Or.inl ⟨by rfl, ?y31⟩) (by assumption) ?r31
    case y31 =>
      intro wx hSx
      obtain ⟨p0, p1, p2, p3, p4⟩ := (PBox.below hX hSx).five
      go_simp
      try with_reducible rfl
    try simp only [Act.put, List.setIfInBounds_toArray, List.set_cons_zero, List.set_cons_succ]
    refine wpAnyH_take (i := 25) (v := ?v32) (at_op rfl) (by kernel_rfl) (by kernel_rfl) (by kernel_rfl) (fun _ _ _ h => h) (Or.inl ⟨by rfl, ?y32⟩) (by assumption) ?r32
    case y32 =>
      intro wx hSx
      go_simp
      try with_reducible rfl
    try simp only [Act.put, List.setIfInBounds_toArray, List.set_cons_zero, List.set_cons_succ]
    refine wpAnyH_take (i := 27) (v := ?v33) (at_op rfl) (by kernel_rfl) (by kernel_rfl) (by kernel_rfl) (fun _ _ _ h => h) (Or.inl ⟨by rfl, ?y33⟩) (by assumption) ?r33
    case y33 =>
      intro wx hSx
      obtain ⟨p0, p1, p2, p3, p4⟩ := (PBox.below hX hSx).five
      go_simp
      try with_reducible rfl
    try simp only [Act.put, List.setIfInBounds_toArray, List.set_cons_zero, List.set_cons_succ]
    refine wpAnyH_take (i := 28) (v := ?v34) (at_op rfl) (by kernel_rfl) (by kernel_rfl) (by kernel_rfl) (fun _ _ _ h => h) (Or.inl ⟨by rfl, ?y34⟩) (by assumption) ?r34
    case y34 =>
      intro wx hSx
      go_simp
      try with_reducible rfl
    try simp only [Act.put, List.setIfInBounds_toArray, List.set_cons_zero, List.set_cons_succ]
    refine wpAnyH_ready (rs := [26]) (by kernel_rfl) (by simp) ?_
    refine AllReadyH.cons (at_op rfl) (fun K hK => ?_) AllReadyH.nil
    go_simp
    refine (tiesMay_impl x vs ra ca sa ta rc cc sc tc (.slice (some ⟨vb, vo, none⟩) vs.length vc) _ _ _ _ _ (hP.below hHeld (Nat.le_refl _)) hHeld.size (hV.below hHeld (Nat.le_refl _)) hHeld.size).mono ?_
    rintro e wh35 ⟨rfl, hb⟩
    replace hHeld := hHeld.trans (hb.mono hHeld.size)
    clear hb
    go_wp2_with fail
    refine hK.out _ _ hHeld (fun _ => ?_)
    clear hK K
    try simp only [Act.put, List.setIfInBounds_toArray, List.set_cons_zero, List.set_cons_succ]
    refine wpAnyH_ready (rs := [29]) (by kernel_rfl) (by simp) ?_
    refine AllReadyH.cons (at_op rfl) (fun K hK => ?_) AllReadyH.nil
    go_simp
    refine (tiesHold_spec x vs ra ca sa ta (some ⟨vb, vo, none⟩) rc cc sc tc vc _ _ _ _ _ (hP.below hHeld (Nat.le_refl _)) hHeld.size (hV.below hHeld (Nat.le_refl _)) hHeld.size (right_of hok) hF).mono ?_
    rintro e wh36 ⟨rfl, hb⟩
    replace hHeld := hHeld.trans (hb.mono hHeld.size)
    clear hb
    go_wp2_with fail
    refine hK.out _ _ hHeld (fun _ => ?_)
    clear hK K
    try simp only [Act.put, List.setIfInBounds_toArray, List.set_cons_zero, List.set_cons_succ]
    refine wpAnyH_take (i := 30) (v := .bool true) (at_op rfl) (by kernel_rfl) (by kernel_rfl) (by kernel_rfl) (fun _ _ _ h => h) (Or.inl ⟨by rfl, ?y37⟩) (by assumption) ?r37
    case y37 =>
      intro wx hSx
      skip
      go_simp
      try simp
    try simp only [Act.put, List.setIfInBounds_toArray, List.set_cons_zero, List.set_cons_succ]
    refine wpAnyH_take (i := 31) (v := .bool true) (at_op rfl) (by kernel_rfl) (by kernel_rfl) (by kernel_rfl) (fun _ _ _ h => h) (Or.inl ⟨by rfl, ?y38⟩) (by assumption) ?r38
    case y38 =>
      intro wx hSx
      skip
      go_simp
      try simp
    try simp only [Act.put, List.setIfInBounds_toArray, List.set_cons_zero, List.set_cons_succ]
    refine wpAnyH_take (i := 32) (v := ?v39) (at_op rfl) (by kernel_rfl) (by kernel_rfl) (by kernel_rfl) (fun _ _ _ h => h) (Or.inl ⟨by rfl, ?y39⟩) (by assumption) ?r39
    case y39 =>
      intro wx hSx
      go_simp
      try with_reducible rfl
    try simp only [Act.put, List.setIfInBounds_toArray, List.set_cons_zero, List.set_cons_succ]
    refine wpAnyH_take (i := 33) (v := ?v40) (at_op rfl) (by kernel_rfl) (by kernel_rfl) (by kernel_rfl) (fun _ _ _ h => h) (Or.inl ⟨by rfl, ?y40⟩) (by assumption) ?r40
    case y40 =>
      intro wx hSx
      obtain ⟨p0, p1, p2, p3, p4⟩ := (PBox.below hY hSx).five
      go_simp
      try with_reducible rfl
    try simp only [Act.put, List.setIfInBounds_toArray, List.set_cons_zero, List.set_cons_succ]
    refine wpAnyH_take (i := 34) (v := ?v41) (at_op rfl) (by kernel_rfl) (by kernel_rfl) (by kernel_rfl) (fun _ _ _ h => h) (Or.inl ⟨by rfl, ?y41⟩) (by assumption) ?r41
    case y41 =>
      intro wx hSx
      go_simp
      try with_reducible rfl
    try simp only [Act.put, List.setIfInBounds_toArray, List.set_cons_zero, List.set_cons_succ]
    refine wpAnyH_take (i := 36) (v := ?v42) (at_op rfl) (by kernel_rfl) (by kernel_rfl) (by kernel_rfl) (fun _ _ _ h => h) (Or.inl ⟨by rfl, ?y42⟩) (by assumption) ?r42
    case y42 =>
      intro wx hSx
      obtain ⟨p0, p1, p2, p3, p4⟩ := (PBox.below hY hSx).five
      go_simp
      try with_reducible rfl
    try simp only [Act.put, List.setIfInBounds_toArray, List.set_cons_zero, List.set_cons_succ]
    refine wpAnyH_take (i := 37) (v := ?v43) (at_op rfl) (by kernel_rfl) (by kernel_rfl) (by kernel_rfl) (fun _ _ _ h => h) (Or.inl ⟨by rfl, ?y43⟩) (by assumption) ?r43
    case y43 =>
      intro wx hSx
      go_simp
      try with_reducible rfl
    try simp only [Act.put, List.setIfInBounds_toArray, List.set_cons_zero, List.set_cons_succ]
    refine wpAnyH_ready (rs := [35]) (by kernel_rfl) (by simp) ?_
    refine AllReadyH.cons (at_op rfl) (fun K hK => ?_) AllReadyH.nil
    go_simp
    refine (bound_top y us ra2 ca2 sa2 ta2 ua rc2 cc2 sc2 tc2 uc _ _ _ _ _ (hPy.below hHeld (Nat.le_refl _)) hHeld.size (hU.below hHeld (Nat.le_refl _)) hHeld.size hTy).mono ?_
    rintro e wh44 ⟨rfl, hb⟩
    replace hHeld := hHeld.trans (hb.mono hHeld.size)
    clear hb
    go_wp2_with fail
    refine hK.out _ _ hHeld (fun _ => ?_)
    clear hK K
    try simp only [Act.put, List.setIfInBounds_toArray, List.set_cons_zero, List.set_cons_succ]
    refine wpAnyH_ready (rs := [38]) (by kernel_rfl) (by simp) ?_
    refine AllReadyH.cons (at_op rfl) (fun K hK => ?_) AllReadyH.nil
    go_simp
    refine (bound_spec y us ra2 ca2 sa2 ta2 ua rc2 cc2 sc2 tc2 uc _ _ _ _ _ (hPy.below hHeld (Nat.le_refl _)) hHeld.size (hU.below hHeld (Nat.le_refl _)) hHeld.size hTy).mono ?_
    rintro e wh45 ⟨rfl, hb⟩
    replace hHeld := hHeld.trans (hb.mono hHeld.size)
    clear hb
    go_wp2_with fail
    refine hK.out _ _ hHeld (fun _ => ?_)
    clear hK K
    try simp only [Act.put, List.setIfInBounds_toArray, List.set_cons_zero, List.set_cons_succ]
    refine wpAnyH_take (i := 39) (v := .bool true) (at_op rfl) (by kernel_rfl) (by kernel_rfl) (by kernel_rfl) (fun _ _ _ h => h) (Or.inl ⟨by rfl, ?y46⟩) (by assumption) ?r46
    case y46 =>
      intro wx hSx
      skip
      go_simp
      try simp
    try simp only [Act.put, List.setIfInBounds_toArray, List.set_cons_zero, List.set_cons_succ]
    refine wpAnyH_take (i := 40) (v := .bool true) (at_op rfl) (by kernel_rfl) (by kernel_rfl) (by kernel_rfl) (fun _ _ _ h => h) (Or.inl ⟨by rfl, ?y47⟩) (by assumption) ?r47
    case y47 =>
      intro wx hSx
      skip
      go_simp
      try simp
    try simp only [Act.put, List.setIfInBounds_toArray, List.set_cons_zero, List.set_cons_succ]
    refine wpAnyH_take (i := 41) (v := ?v48) (at_op rfl) (by kernel_rfl) (by kernel_rfl) (by kernel_rfl) (fun _ _ _ h => h) (Or.inl ⟨by rfl, ?y48⟩) (by assumption) ?r48
    case y48 =>
      intro wx hSx
      go_simp
      try with_reducible rfl
    try simp only [Act.put, List.setIfInBounds_toArray, List.set_cons_zero, List.set_cons_succ]
    refine wpAnyH_take (i := 42) (v := ?v49) (at_op rfl) (by kernel_rfl) (by kernel_rfl) (by kernel_rfl) (fun _ _ _ h => h) (Or.inl ⟨by rfl, ?y49⟩) (by assumption) ?r49
    case y49 =>
      intro wx hSx
      obtain ⟨p0, p1, p2, p3, p4⟩ := (PBox.below hZ3 hSx).five
      go_simp
      try with_reducible rfl
    try simp only [Act.put, List.setIfInBounds_toArray, List.set_cons_zero, List.set_cons_succ]
    refine wpAnyH_take (i := 43) (v := ?v50) (at_op rfl) (by kernel_rfl) (by kernel_rfl) (by kernel_rfl) (fun _ _ _ h => h) (Or.inl ⟨by rfl, ?y50⟩) (by assumption) ?r50
    case y50 =>
      intro wx hSx
      go_simp
      try with_reducible rfl
    try simp only [Act.put, List.setIfInBounds_toArray, List.set_cons_zero, List.set_cons_succ]
    refine wpAnyH_take (i := 45) (v := ?v51) (at_op rfl) (by kernel_rfl) (by kernel_rfl) (by kernel_rfl) (fun _ _ _ h => h) (Or.inl ⟨by rfl, ?y51⟩) (by assumption) ?r51
    case y51 =>
      intro wx hSx
      obtain ⟨p0, p1, p2, p3, p4⟩ := (PBox.below hZ3 hSx).five
      go_simp
      try with_reducible rfl
    try simp only [Act.put, List.setIfInBounds_toArray, List.set_cons_zero, List.set_cons_succ]
    refine wpAnyH_take (i := 46) (v := ?v52) (at_op rfl) (by kernel_rfl) (by kernel_rfl) (by kernel_rfl) (fun _ _ _ h => h) (Or.inl ⟨by rfl, ?y52⟩) (by assumption) ?r52
    case y52 =>
      intro wx hSx
      go_simp
      try with_reducible rfl
    try simp only [Act.put, List.setIfInBounds_toArray, List.set_cons_zero, List.set_cons_succ]
    refine wpAnyH_ready (rs := [44]) (by kernel_rfl) (by simp) ?_
    refine AllReadyH.cons (at_op rfl) (fun K hK => ?_) AllReadyH.nil
    go_simp
    refine (tiesMay_impl z ts ra3 ca3 sa3 ta3 rc3 cc3 sc3 tc3 (.slice sa9 ts.length sc9) _ _ _ _ _ (hPz.below hHeld (Nat.le_refl _)) hHeld.size (hS.below hHeld (Nat.le_refl _)) hHeld.size).mono ?_
    rintro e wh53 ⟨rfl, hb⟩
    replace hHeld := hHeld.trans (hb.mono hHeld.size)
    clear hb
    go_wp2_with fail
    refine hK.out _ _ hHeld (fun _ => ?_)
    clear hK K
    try simp only [Act.put, List.setIfInBounds_toArray, List.set_cons_zero, List.set_cons_succ]
    refine wpAnyH_ready (rs := [47]) (by kernel_rfl) (by simp) ?_
    refine AllReadyH.cons (at_op rfl) (fun K hK => ?_) AllReadyH.nil
    go_simp
    refine (tiesMay_spec z ts ra3 ca3 sa3 ta3 rc3 cc3 sc3 tc3 (.slice sa9 ts.length sc9) _ _ _ _ _ (hPz.below hHeld (Nat.le_refl _)) hHeld.size (hS.below hHeld (Nat.le_refl _)) hHeld.size).mono ?_
    rintro e wh54 ⟨rfl, hb⟩
    replace hHeld := hHeld.trans (hb.mono hHeld.size)
    clear hb
    go_wp2_with fail
    refine hK.out _ _ hHeld (fun _ => ?_)
    clear hK K
    try simp only [Act.put, List.setIfInBounds_toArray, List.set_cons_zero, List.set_cons_succ]
    refine wpAnyH_take (i := 48) (v := .bool true) (at_op rfl) (by kernel_rfl) (by kernel_rfl) (by kernel_rfl) (fun _ _ _ h => h) (Or.inl ⟨by rfl, ?y55⟩) (by assumption) ?r55
    case y55 =>
      intro wx hSx
      skip
      go_simp
      try simp
    try simp only [Act.put, List.setIfInBounds_toArray, List.set_cons_zero, List.set_cons_succ]
    refine wpAnyH_take (i := 49) (v := .bool true) (at_op rfl) (by kernel_rfl) (by kernel_rfl) (by kernel_rfl) (fun _ _ _ h => h) (Or.inl ⟨by rfl, ?y56⟩) (by assumption) ?r56
    case y56 =>
      intro wx hSx
      skip
      go_simp
      try simp
    try simp only [Act.put, List.setIfInBounds_toArray, List.set_cons_zero, List.set_cons_succ]
    refine wpAnyH_take (i := 50) (v := ?v57) (at_op rfl) (by kernel_rfl) (by kernel_rfl) (by kernel_rfl) (fun _ _ _ h => h) (Or.inl ⟨by rfl, ?y57⟩) (by assumption) ?r57
    case y57 =>
      intro wx hSx
      go_simp
      try with_reducible rfl
    try simp only [Act.put, List.setIfInBounds_toArray, List.set_cons_zero, List.set_cons_succ]
    refine wpAnyH_done (by kernel_rfl) ?_ _
    go_wp2
    go_ret
    exact ⟨rfl, HB.trans (hHeld.mono HB.size)⟩
  · have hcv := hc1
    refine wp_region_held_drew (S := fun w' => Below w9.heap.size w9 w') (by kernel_rfl) ?_ (fun hHeld => ?_)
    · exact (Below.refl _ _).drew
    refine wpAnyH_take (i := 0) (v := ?v58) (at_op rfl) (by kernel_rfl) (by kernel_rfl) (by kernel_rfl) (fun _ _ _ h => h) (Or.inl ⟨by rfl, ?y58⟩) (by assumption) ?r58
    case y58 =>
      intro wx hSx
      go_simp
      try with_reducible rfl
    try simp only [Act.put, List.setIfInBounds_toArray, List.set_cons_zero, List.set_cons_succ]
    refine wpAnyH_take (i := 1) (v := ?v59) (at_op rfl) (by kernel_rfl) (by kernel_rfl) (by kernel_rfl) (fun _ _ _ h => h) (Or.inl ⟨by rfl, ?y59⟩) (by assumption) ?r59
    case y59 =>
      intro wx hSx
      go_simp
      try with_reducible rfl
    try simp only [Act.put, List.setIfInBounds_toArray, List.set_cons_zero, List.set_cons_succ]
    refine wpAnyH_take (i := 2) (v := .bool true) (at_op rfl) (by kernel_rfl) (by kernel_rfl) (by kernel_rfl) (fun _ _ _ h => h) (Or.inl ⟨by rfl, ?y60⟩) (by assumption) ?r60
    case y60 =>
      intro wx hSx
      skip
      go_simp
      try simp [L2]
    try simp only [Act.put, List.setIfInBounds_toArray, List.set_cons_zero, List.set_cons_succ]
    refine wpAnyH_take (i := 3) (v := ?v61) (at_op rfl) (by kernel_rfl) (by kernel_rfl) (by kernel_rfl) (fun _ _ _ h => h) (Or.inl ⟨by rfl, ?y61⟩) (by assumption) ?r61
    case y61 =>
      intro wx hSx
      go_simp
      try with_reducible rfl
    try simp only [Act.put, List.setIfInBounds_toArray, List.set_cons_zero, List.set_cons_succ]
    refine wpAnyH_take (i := 4) (v := ?v62) (at_op rfl) (by kernel_rfl) (by kernel_rfl) (by kernel_rfl) (fun _ _ _ h => h) (Or.inl ⟨by rfl, ?y62⟩) (by assumption) ?r62
    case y62 =>
      intro wx hSx
      obtain ⟨p0, p1, p2, p3, p4⟩ := (PBox.below hX hSx).five
      go_simp
      try with_reducible rfl
    try simp only [Act.put, List.setIfInBounds_toArray, List.set_cons_zero, List.set_cons_succ]
    refine wpAnyH_take (i := 5) (v := ?v63) (at_op rfl) (by kernel_rfl) (by kernel_rfl) (by kernel_rfl) (fun _ _ _ h => h) (Or.inl ⟨by rfl, ?y63⟩) (by assumption) ?r63
    case y63 =>
      intro wx hSx
      go_simp
      try with_reducible rfl
    try simp only [Act.put, List.setIfInBounds_toArray, List.set_cons_zero, List.set_cons_succ]
    refine wpAnyH_take (i := 7) (v := ?v64) (at_op rfl) (by kernel_rfl) (by kernel_rfl) (by kernel_rfl) (fun _ _ _ h => h) (Or.inl ⟨by rfl, ?y64⟩) (by assumption) ?r64
    case y64 =>
      intro wx hSx
      go_simp
      try with_reducible rfl
    try simp only [Act.put, List.setIfInBounds_toArray, List.set_cons_zero, List.set_cons_succ]
    refine wpAnyH_ready (rs := [6]) (by kernel_rfl) (by simp) ?_
    refine AllReadyH.cons (at_op rfl) (fun K hK => ?_) AllReadyH.nil
    go_simp
    refine (bound_top x vs ra ca sa ta (some ⟨vb, vo, none⟩) rc cc sc tc vc _ _ _ _ _ (hP.below hHeld (Nat.le_refl _)) hHeld.size (hV.below hHeld (Nat.le_refl _)) hHeld.size hTM).mono ?_
    rintro e wh65 ⟨rfl, hb⟩
    replace hHeld := hHeld.trans (hb.mono hHeld.size)
    clear hb
    rw [L1]
    go_wp2_with fail
    refine hK.out _ _ hHeld (fun _ => ?_)
    clear hK K
    try simp only [Act.put, List.setIfInBounds_toArray, List.set_cons_zero, List.set_cons_succ]
    refine wpAnyH_take (i := 8) (v := .bool true) (at_op rfl) (by kernel_rfl) (by kernel_rfl) (by kernel_rfl) (fun _ _ _ h => h) (Or.inl ⟨by rfl, ?y66⟩) (by assumption) ?r66
    case y66 =>
      intro wx hSx
      skip
      go_simp
      try simp
    try simp only [Act.put, List.setIfInBounds_toArray, List.set_cons_zero, List.set_cons_succ]
    refine wpAnyH_take (i := 9) (v := .bool true) (at_op rfl) (by kernel_rfl) (by kernel_rfl) (by kernel_rfl) (fun _ _ _ h => h) (Or.inl ⟨by rfl, ?y67⟩) (by assumption) ?r67
    case y67 =>
      intro wx hSx
      skip
      go_simp
      try simp
    try simp only [Act.put, List.setIfInBounds_toArray, List.set_cons_zero, List.set_cons_succ]
    refine wpAnyH_take (i := 10) (v := ?v68) (at_op rfl) (by kernel_rfl) (by kernel_rfl) (by kernel_rfl) (fun _ _ _ h => h) (Or.inl ⟨by rfl, ?y68⟩) (by assumption) ?r68
    case y68 =>
      intro wx hSx
      go_simp
      try with_reducible rfl
    try simp only [Act.put, List.setIfInBounds_toArray, List.set_cons_zero, List.set_cons_succ]
    refine wpAnyH_take (i := 11) (v := ?v69) (at_op rfl) (by kernel_rfl) (by kernel_rfl) (by kernel_rfl) (fun _ _ _ h => h) (Or.inl ⟨by rfl, ?y69⟩) (by assumption) ?r69
    case y69 =>
      intro wx hSx
      obtain ⟨p0, p1, p2, p3, p4⟩ := (PBox.below hX hSx).five
      go_simp
      try with_reducible rfl
    try simp only [Act.put, List.setIfInBounds_toArray, List.set_cons_zero, List.set_cons_succ]
    refine wpAnyH_take (i := 12) (v := ?v70) (at_op rfl) (by kernel_rfl) (by kernel_rfl) (by kernel_rfl) (fun _ _ _ h => h) (Or.inl ⟨by rfl, ?y70⟩) (by assumption) ?r70
    case y70 =>
      intro wx hSx
      go_simp
      try with_reducible rfl
    try simp only [Act.put, List.setIfInBounds_toArray, List.set_cons_zero, List.set_cons_succ]
    refine wpAnyH_take (i := 13) (v := ?v71) (at_op rfl) (by kernel_rfl) (by kernel_rfl) (by kernel_rfl) (fun _ _ _ h => h) (Or.inl ⟨by rfl, ?y71⟩) (by assumption) ?r71
    case y71 =>
      intro wx hSx
      go_simp
      try with_reducible rfl
    try simp only [Act.put, List.setIfInBounds_toArray, List.set_cons_zero, List.set_cons_succ]
    refine wpAnyH_take (i := 14) (v := ?v72) (at_op rfl) (by kernel_rfl) (by kernel_rfl) (by kernel_rfl) (fun _ _ _ h => h) (Or.inl ⟨by rfl, ?y72⟩) (by assumption) ?r72
    case y72 =>
      intro wx hSx
      go_simp
      try with_reducible rfl
    try simp only [Act.put, List.setIfInBounds_toArray, List.set_cons_zero, List.set_cons_succ]
    refine wpAnyH_ready (rs := [15]) (by kernel_rfl) (by simp) ?_
    refine AllReadyH.cons (at_op rfl) (fun K hK => ?_) AllReadyH.nil
    go_simp
    have q := tiesMay_impl x (vs.take n) ra ca sa ta rc cc sc tc (.slice (some ⟨vb, vo, none⟩) (vs.take n).length vc) _ _ _ _ _ (hP.below hHeld (Nat.le_refl _)) hHeld.size (hT.below hHeld (Nat.le_refl _)) hHeld.size
    rw [hTl.out] at q
    refine (q).mono ?_
    rintro e wh73 ⟨rfl, hb⟩
    replace hHeld := hHeld.trans (hb.mono hHeld.size)
    clear hb
    rw [hc1]
    go_wp2_with fail
    refine hK.out _ _ hHeld (fun _ => ?_)
    clear hK K
    try simp only [Act.put, List.setIfInBounds_toArray, List.set_cons_zero, List.set_cons_succ]
    refine wpAnyH_take (i := 16) (v := ?v74) (at_op rfl) (by kernel_rfl) (by kernel_rfl) (by kernel_rfl) (fun _ _ _ h => h) (Or.inl ⟨by rfl, ?y74⟩) (by assumption) ?r74
    case y74 =>
      intro wx hSx
      go_simp
      try with_reducible rfl
    try simp only [Act.put, List.setIfInBounds_toArray, List.set_cons_zero, List.set_cons_succ]
    refine wpAnyH_take (i := 17) (v := undef) (at_op rfl) (by kernel_rfl) (by kernel_rfl) (by kernel_rfl) (fun _ _ _ h => h) (Or.inr ⟨by rfl, rfl⟩) (by assumption) ?_
    try simp only [Act.put, List.setIfInBounds_toArray, List.set_cons_zero, List.set_cons_succ]
    refine wpAnyH_take (i := 18) (v := undef) (at_op rfl) (by kernel_rfl) (by kernel_rfl) (by kernel_rfl) (fun _ _ _ h => h) (Or.inr ⟨by rfl, rfl⟩) (by assumption) ?_
    try simp only [Act.put, List.setIfInBounds_toArray, List.set_cons_zero, List.set_cons_succ]
    refine wpAnyH_take (i := 19) (v := undef) (at_op rfl) (by kernel_rfl) (by kernel_rfl) (by kernel_rfl) (fun _ _ _ h => h) (Or.inr ⟨by rfl, rfl⟩) (by assumption) ?_
    try simp only [Act.put, List.setIfInBounds_toArray, List.set_cons_zero, List.set_cons_succ]
    refine wpAnyH_take (i := 20) (v := undef) (at_op rfl) (by kernel_rfl) (by kernel_rfl) (by kernel_rfl) (fun _ _ _ h => h) (Or.inr ⟨by rfl, rfl⟩) (by assumption) ?_
    try simp only [Act.put, List.setIfInBounds_toArray, List.set_cons_zero, List.set_cons_succ]
    refine wpAnyH_take (i := 21) (v := .bool true) (at_op rfl) (by kernel_rfl) (by kernel_rfl) (by kernel_rfl) (fun _ _ _ h => h) (Or.inl ⟨by rfl, ?y75⟩) (by assumption) ?r75
    case y75 =>
      intro wx hSx
      skip
      go_simp
      try simp
    try simp only [Act.put, List.setIfInBounds_toArray, List.set_cons_zero, List.set_cons_succ]
    refine wpAnyH_take (i := 22) (v := .bool true) (at_op rfl) (by kernel_rfl) (by kernel_rfl) (by kernel_rfl) (fun _ _ _ h => h) (Or.inl ⟨by rfl, ?y76⟩) (by assumption) ?r76
    case y76 =>
      intro wx hSx
      skip
      go_simp
      try simp
    try simp only [Act.put, List.setIfInBounds_toArray, List.set_cons_zero, List.set_cons_succ]
    refine wpAnyH_take (i := 23) (v := ?v77) (at_op rfl) (by kernel_rfl) (by kernel_rfl) (by kernel_rfl) (fun _ _ _ h => h) (Or.inl ⟨by rfl, ?y77⟩) (by assumption) ?r77
    case y77 =>
      intro wx hSx
      go_simp
      try with_reducible rfl
    try simp only [Act.put, List.setIfInBounds_toArray, List.set_cons_zero, List.set_cons_succ]
    refine wpAnyH_take (i := 24) (v := ?v78) (at_op rfl) (by kernel_rfl) (by kernel_rfl) (by kernel_rfl) (fun _ _ _ h => h) (Or.inl ⟨by rfl, ?y78⟩) (by assumption) ?r78
    case y78 =>
      intro wx hSx
      obtain ⟨p0, p1, p2, p3, p4⟩ := (PBox.below hX hSx).five
      go_simp
      try with_reducible rfl
    try simp only [Act.put, List.setIfInBounds_toArray, List.set_cons_zero, List.set_cons_succ]
    refine wpAnyH_take (i := 25) (v := ?v79) (at_op rfl) (by kernel_rfl) (by kernel_rfl) (by kernel_rfl) (fun _ _ _ h => h) (Or.inl ⟨by rfl, ?y79⟩) (by assumption) ?r79
    case y79 =>
      intro wx hSx
      go_simp
      try with_reducible rfl
    try simp only [Act.put, List.setIfInBounds_toArray, List.set_cons_zero, List.set_cons_succ]
    refine wpAnyH_take (i := 27) (v := ?v80) (at_op rfl) (by kernel_rfl) (by kernel_rfl) (by kernel_rfl) (fun _ _ _ h => h) (Or.inl ⟨by rfl, ?y80⟩) (by assumption) ?r80
    case y80 =>
      intro wx hSx
      obtain ⟨p0, p1, p2, p3, p4⟩ := (PBox.below hX hSx).five
      go_simp
      try with_reducible rfl
    try simp only [Act.put, List.setIfInBounds_toArray, List.set_cons_zero, List.set_cons_succ]
    refine wpAnyH_take (i := 28) (v := ?v81) (at_op rfl) (by kernel_rfl) (by kernel_rfl) (by kernel_rfl) (fun _ _ _ h => h) (Or.inl ⟨by rfl, ?y81⟩) (by assumption) ?r81
    case y81 =>
      intro wx hSx
      go_simp
      try with_reducible rfl
    try simp only [Act.put, List.setIfInBounds_toArray, List.set_cons_zero, List.set_cons_succ]
    refine wpAnyH_ready (rs := [26]) (by kernel_rfl) (by simp) ?_
    refine AllReadyH.cons (at_op rfl) (fun K hK => ?_) AllReadyH.nil
    go_simp
    refine (tiesMay_impl x vs ra ca sa ta rc cc sc tc (.slice (some ⟨vb, vo, none⟩) vs.length vc) _ _ _ _ _ (hP.below hHeld (Nat.le_refl _)) hHeld.size (hV.below hHeld (Nat.le_refl _)) hHeld.size).mono ?_
    rintro e wh82 ⟨rfl, hb⟩
    replace hHeld := hHeld.trans (hb.mono hHeld.size)
    clear hb
    go_wp2_with fail
    refine hK.out _ _ hHeld (fun _ => ?_)
    clear hK K
    try simp only [Act.put, List.setIfInBounds_toArray, List.set_cons_zero, List.set_cons_succ]
    refine wpAnyH_ready (rs := [29]) (by kernel_rfl) (by simp) ?_
    refine AllReadyH.cons (at_op rfl) (fun K hK => ?_) AllReadyH.nil
    go_simp
    refine (tiesHold_spec x vs ra ca sa ta (some ⟨vb, vo, none⟩) rc cc sc tc vc _ _ _ _ _ (hP.below hHeld (Nat.le_refl _)) hHeld.size (hV.below hHeld (Nat.le_refl _)) hHeld.size (right_of hok) hF).mono ?_
    rintro e wh83 ⟨rfl, hb⟩
    replace hHeld := hHeld.trans (hb.mono hHeld.size)
    clear hb
    go_wp2_with fail
    refine hK.out _ _ hHeld (fun _ => ?_)
    clear hK K
    try simp only [Act.put, List.setIfInBounds_toArray, List.set_cons_zero, List.set_cons_succ]
    refine wpAnyH_take (i := 30) (v := .bool true) (at_op rfl) (by kernel_rfl) (by kernel_rfl) (by kernel_rfl) (fun _ _ _ h => h) (Or.inl ⟨by rfl, ?y84⟩) (by assumption) ?r84
    case y84 =>
      intro wx hSx
      skip
      go_simp
      try simp
    try simp only [Act.put, List.setIfInBounds_toArray, List.set_cons_zero, List.set_cons_succ]
    refine wpAnyH_take (i := 31) (v := .bool true) (at_op rfl) (by kernel_rfl) (by kernel_rfl) (by kernel_rfl) (fun _ _ _ h => h) (Or.inl ⟨by rfl, ?y85⟩) (by assumption) ?r85
    case y85 =>
      intro wx hSx
      skip
      go_simp
      try simp
    try simp only [Act.put, List.setIfInBounds_toArray, List.set_cons_zero, List.set_cons_succ]
    refine wpAnyH_take (i := 32) (v := ?v86) (at_op rfl) (by kernel_rfl) (by kernel_rfl) (by kernel_rfl) (fun _ _ _ h => h) (Or.inl ⟨by rfl, ?y86⟩) (by assumption) ?r86
    case y86 =>
      intro wx hSx
      go_simp
      try with_reducible rfl
    try simp only [Act.put, List.setIfInBounds_toArray, List.set_cons_zero, List.set_cons_succ]
    refine wpAnyH_take (i := 33) (v := ?v87) (at_op rfl) (by kernel_rfl) (by kernel_rfl) (by kernel_rfl) (fun _ _ _ h => h) (Or.inl ⟨by rfl, ?y87⟩) (by assumption) ?r87
    case y87 =>
      intro wx hSx
      obtain ⟨p0, p1, p2, p3, p4⟩ := (PBox.below hY hSx).five
      go_simp
      try with_reducible rfl
    try simp only [Act.put, List.setIfInBounds_toArray, List.set_cons_zero, List.set_cons_succ]
    refine wpAnyH_take (i := 34) (v := ?v88) (at_op rfl) (by kernel_rfl) (by kernel_rfl) (by kernel_rfl) (fun _ _ _ h => h) (Or.inl ⟨by rfl, ?y88⟩) (by assumption) ?r88
    case y88 =>
      intro wx hSx
      go_simp
      try with_reducible rfl
    try simp only [Act.put, List.setIfInBounds_toArray, List.set_cons_zero, List.set_cons_succ]
    refine wpAnyH_take (i := 36) (v := ?v89) (at_op rfl) (by kernel_rfl) (by kernel_rfl) (by kernel_rfl) (fun _ _ _ h => h) (Or.inl ⟨by rfl, ?y89⟩) (by assumption) ?r89
    case y89 =>
      intro wx hSx
      obtain ⟨p0, p1, p2, p3, p4⟩ := (PBox.below hY hSx).five
      go_simp
      try with_reducible rfl
    try simp only [Act.put, List.setIfInBounds_toArray, List.set_cons_zero, List.set_cons_succ]
    refine wpAnyH_take (i := 37) (v := ?v90) (at_op rfl) (by kernel_rfl) (by kernel_rfl) (by kernel_rfl) (fun _ _ _ h => h) (Or.inl ⟨by rfl, ?y90⟩) (by assumption) ?r90
    case y90 =>
      intro wx hSx
      go_simp
      try with_reducible rfl
    try simp only [Act.put, List.setIfInBounds_toArray, List.set_cons_zero, List.set_cons_succ]
    refine wpAnyH_ready (rs := [35]) (by kernel_rfl) (by simp) ?_
    refine AllReadyH.cons (at_op rfl) (fun K hK => ?_) AllReadyH.nil
    go_simp
    refine (bound_top y us ra2 ca2 sa2 ta2 ua rc2 cc2 sc2 tc2 uc _ _ _ _ _ (hPy.below hHeld (Nat.le_refl _)) hHeld.size (hU.below hHeld (Nat.le_refl _)) hHeld.size hTy).mono ?_
    rintro e wh91 ⟨rfl, hb⟩
    replace hHeld := hHeld.trans (hb.mono hHeld.size)
    clear hb
    go_wp2_with fail
    refine hK.out _ _ hHeld (fun _ => ?_)
    clear hK K
    try simp only [Act.put, List.setIfInBounds_toArray, List.set_cons_zero, List.set_cons_succ]
    refine wpAnyH_ready (rs := [38]) (by kernel_rfl) (by simp) ?_
    refine AllReadyH.cons (at_op rfl) (fun K hK => ?_) AllReadyH.nil
    go_simp
    refine (bound_spec y us ra2 ca2 sa2 ta2 ua rc2 cc2 sc2 tc2 uc _ _ _ _ _ (hPy.below hHeld (Nat.le_refl _)) hHeld.size (hU.below hHeld (Nat.le_refl _)) hHeld.size hTy).mono ?_
    rintro e wh92 ⟨rfl, hb⟩
    replace hHeld := hHeld.trans (hb.mono hHeld.size)
    clear hb
    go_wp2_with fail
    refine hK.out _ _ hHeld (fun _ => ?_)
    clear hK K
    try simp only [Act.put, List.setIfInBounds_toArray, List.set_cons_zero, List.set_cons_succ]
    refine wpAnyH_take (i := 39) (v := .bool true) (at_op rfl) (by kernel_rfl) (by kernel_rfl) (by kernel_rfl) (fun _ _ _ h => h) (Or.inl ⟨by rfl, ?y93⟩) (by assumption) ?r93
    case y93 =>
      intro wx hSx
      skip
      go_simp
      try simp
    try simp only [Act.put, List.setIfInBounds_toArray, List.set_cons_zero, List.set_cons_succ]
    refine wpAnyH_take (i := 40) (v := .bool true) (at_op rfl) (by kernel_rfl) (by kernel_rfl) (by kernel_rfl) (fun _ _ _ h => h) (Or.inl ⟨by rfl, ?y94⟩) (by assumption) ?r94
    case y94 =>
      intro wx hSx
      skip
      go_simp
      try simp
    try simp only [Act.put, List.setIfInBounds_toArray, List.set_cons_zero, List.set_cons_succ]
    refine wpAnyH_take (i := 41) (v := ?v95) (at_op rfl) (by kernel_rfl) (by kernel_rfl) (by kernel_rfl) (fun _ _ _ h => h) (Or.inl ⟨by rfl, ?y95⟩) (by assumption) ?r95
    case y95 =>
      intro wx hSx
      go_simp
      try with_reducible rfl
    try simp only [Act.put, List.setIfInBounds_toArray, List.set_cons_zero, List.set_cons_succ]
    refine wpAnyH_take (i := 42) (v := ?v96) (at_op rfl) (by kernel_rfl) (by kernel_rfl) (by kernel_rfl) (fun _ _ _ h => h) (Or.inl ⟨by rfl, ?y96⟩) (by assumption) ?r96
    case y96 =>
      intro wx hSx
      obtain ⟨p0, p1, p2, p3, p4⟩ := (PBox.below hZ3 hSx).five
      go_simp
      try with_reducible rfl
    try simp only [Act.put, List.setIfInBounds_toArray, List.set_cons_zero, List.set_cons_succ]
    refine wpAnyH_take (i := 43) (v := ?v97) (at_op rfl) (by kernel_rfl) (by kernel_rfl) (by kernel_rfl) (fun _ _ _ h => h) (Or.inl ⟨by rfl, ?y97⟩) (by assumption) ?r97
    case y97 =>
      intro wx hSx
      go_simp
      try with_reducible rfl
    try simp only [Act.put, List.setIfInBounds_toArray, List.set_cons_zero, List.set_cons_succ]
    refine wpAnyH_take (i := 45) (v := ?v98) (at_op rfl) (by kernel_rfl) (by kernel_rfl) (by kernel_rfl) (fun _ _ _ h => h) (Or.inl ⟨by rfl, ?y98⟩) (by assumption) ?r98
    case y98 =>
      intro wx hSx
      obtain ⟨p0, p1, p2, p3, p4⟩ := (PBox.below hZ3 hSx).five
      go_simp
      try with_reducible rfl
    try simp only [Act.put, List.setIfInBounds_toArray, List.set_cons_zero, List.set_cons_succ]
    refine wpAnyH_take (i := 46) (v := ?v99) (at_op rfl) (by kernel_rfl) (by kernel_rfl) (by kernel_rfl) (fun _ _ _ h => h) (Or.inl ⟨by rfl, ?y99⟩) (by assumption) ?r99
    case y99 =>
      intro wx hSx
      go_simp
      try with_reducible rfl
    try simp only [Act.put, List.setIfInBounds_toArray, List.set_cons_zero, List.set_cons_succ]
    refine wpAnyH_ready (rs := [44]) (by kernel_rfl) (by simp) ?_
    refine AllReadyH.cons (at_op rfl) (fun K hK => ?_) AllReadyH.nil
    go_simp
    refine (tiesMay_impl z ts ra3 ca3 sa3 ta3 rc3 cc3 sc3 tc3 (.slice sa9 ts.length sc9) _ _ _ _ _ (hPz.below hHeld (Nat.le_refl _)) hHeld.size (hS.below hHeld (Nat.le_refl _)) hHeld.size).mono ?_
    rintro e wh100 ⟨rfl, hb⟩
    replace hHeld := hHeld.trans (hb.mono hHeld.size)
    clear hb
    go_wp2_with fail
    refine hK.out _ _ hHeld (fun _ => ?_)
    clear hK K
    try simp only [Act.put, List.setIfInBounds_toArray, List.set_cons_zero, List.set_cons_succ]
    refine wpAnyH_ready (rs := [47]) (by kernel_rfl) (by simp) ?_
    refine AllReadyH.cons (at_op rfl) (fun K hK => ?_) AllReadyH.nil
    go_simp
    refine (tiesMay_spec z ts ra3 ca3 sa3 ta3 rc3 cc3 sc3 tc3 (.slice sa9 ts.length sc9) _ _ _ _ _ (hPz.below hHeld (Nat.le_refl _)) hHeld.size (hS.below hHeld (Nat.le_refl _)) hHeld.size).mono ?_
    rintro e wh101 ⟨rfl, hb⟩
    replace hHeld := hHeld.trans (hb.mono hHeld.size)
    clear hb
    go_wp2_with fail
    refine hK.out _ _ hHeld (fun _ => ?_)
    clear hK K
    try simp only [Act.put, List.setIfInBounds_toArray, List.set_cons_zero, List.set_cons_succ]
    refine wpAnyH_take (i := 48) (v := .bool true) (at_op rfl) (by kernel_rfl) (by kernel_rfl) (by kernel_rfl) (fun _ _ _ h => h) (Or.inl ⟨by rfl, ?y102⟩) (by assumption) ?r102
    case y102 =>
      intro wx hSx
      skip
      go_simp
      try simp
    try simp only [Act.put, List.setIfInBounds_toArray, List.set_cons_zero, List.set_cons_succ]
    refine wpAnyH_take (i := 49) (v := .bool true) (at_op rfl) (by kernel_rfl) (by kernel_rfl) (by kernel_rfl) (fun _ _ _ h => h) (Or.inl ⟨by rfl, ?y103⟩) (by assumption) ?r103
    case y103 =>
      intro wx hSx
      skip
      go_simp
      try simp
    try simp only [Act.put, List.setIfInBounds_toArray, List.set_cons_zero, List.set_cons_succ]
    refine wpAnyH_take (i := 50) (v := ?v104) (at_op rfl) (by kernel_rfl) (by kernel_rfl) (by kernel_rfl) (fun _ _ _ h => h) (Or.inl ⟨by rfl, ?y104⟩) (by assumption) ?r104
    case y104 =>
      intro wx hSx
      go_simp
      try with_reducible rfl
    try simp only [Act.put, List.setIfInBounds_toArray, List.set_cons_zero, List.set_cons_succ]
    refine wpAnyH_done (by kernel_rfl) ?_ _
    go_wp2
    go_ret
    exact ⟨rfl, HB.trans (hHeld.mono HB.size)⟩
end Go.Proofs.Ytllpgomloblfjaa
namespace Go.Proofs.Ytllpgomloblfjaa
open Go.ChangeShapes Go.WideShapes Go.ChangeAt Go.RowKit
open Go.ChangeMaps (open_string shut_string)

theorem Try.cellsByte : Try.prog.cellsOf 5 = 1 := by kernel_rfl
theorem opens_byte {P : Program} {t : TypeId} (h : P.underlying t = some (.int .u8)) : Opens P bytF.shape t U8 := by
  intro H enc w base spare held fuel cs x hx
  obtain ⟨n, rfl, _, hw⟩ := DataW.trod_int h hx
  refine ⟨n, rfl, ?_⟩
  simp [Lit.wf, IntKind.min, IntKind.max, IntKind.signed, IntKind.bits] at hw
  unfold U8; omega
set_option maxRecDepth 100000 in
theorem fnBounds_lifted (os : Os) (started : os.Started) (H : Type) (enc : TypeId × Value → H) :
    ReturnsInHanded {} Try.checked os 4 .any (Rows.fnBoundsSpec.pre6 enc Try.prog Try.f4 Rows.fnBoundsRow.domain false) (Rows.fnBoundsSpec.post enc Try.prog Try.f4 false true false false) := by
  refine returnsInHanded_of_change (C := Try.checked) Try.own started (by kernel_rfl) Try.func4
    (ChangeSpec.witness6 (enc := enc) (C := Try.checked) false ⟨#[], #[.slice none 0 0], []⟩ 8 (by kernel_rfl) (by kernel_rfl) (by kernel_rfl) (by kernel_rfl)) ?_
  intro W base args ds gs before hval0 hW _ _
  have hval : ∀ (j : Nat) t v, Try.f4.params[j]? = some t → args[j]? = some v → Value.okWide Try.prog W .any base t v := hval0
  have hW' := hW
  obtain ⟨p, q, hA0, hV, rfl, hfz, hnd⟩ := hW
  have hA : DataW.TrodAll enc Try.prog W 0 (fun _ => true) true Try.f4.params.toList args.toList ds p := hA0
  rw [Try.params4] at hA hval
  obtain ⟨v0, vs0, d0, ds0, p0, q0, hargs, rfl, rfl, h0, r0⟩ := trodAll_cons hA
  obtain ⟨rfl, rfl, rfl⟩ := trodAll_nil r0
  obtain rfl : args = #[v0] := by cases args; simp_all
  obtain ⟨rfl, rfl⟩ := trodVars_none hV
  obtain ⟨xs0, hr0, hk0⟩ := open_sl Try.underlying22 (opens_sl Try.underlying22 Try.cellsByte (by decide) (opens_byte Try.underlying5)) (hval 0 22 v0 rfl rfl) h0
  refine (lawBounds_any xs0 _ W hr0 hk0).mono fun e W' ⟨he, hb⟩ => ?_
  subst he
  exact ⟨_, rfl, law_post Try.laidOut (by intro t ht; rw [Try.params4] at ht; simp at ht; subst ht; exact ⟨by kernel_rfl, of_decide_eq_true (by kernel_rfl)⟩) hW' rfl rfl Try.underlying4 rfl rfl rfl hb⟩

theorem fnBounds_holds : Rows.FnBoundsSaid :=
  OpenClaim.holds_of_wide 4 Try.f4 rfl rfl rfl rfl rfl rfl rfl ⟨rfl, rfl, rfl, rfl, rfl⟩ rfl rfl rfl rfl rfl (by kernel_rfl) Try.func4 (by kernel_rfl)
    (of_decide_eq_true (by kernel_rfl)) (by unfold Func.isWrapper; rw [if_neg (of_decide_eq_false (by kernel_rfl))]; exact ⟨rfl, rfl⟩)
    (fun os started H enc _ => fnBounds_lifted os started H enc)
#print axioms fnBounds_holds

end Go.Proofs.Ytllpgomloblfjaa
