/- FnSearches: what is found by trying is the cheapest; when there was no room to try all it is no dearer than all split. No condition. -/
import Derived.Test.YtllpgomloblfjaaDrawS
import Derived.Test.YtllpgomloblfjaaBestP
import Derived.Test.YtllpgomloblfjaaCostT
import Derived.Test.YtllpgomloblfjaaSearchI
import Derived.Test.YtllpgomloblfjaaHuntS
import Derived.Test.YtllpgomloblfjaaBestO
namespace Go.Proofs.Ytllpgomloblfjaa
open Go.RowKit
theorem share4 {F : Nat → World → Prop} {P : Nat → Option Addr → Nat → World → Prop} {G : Prop} (walk : (∀ D a k wz, F D wz → P D a k wz) → G) (rest : ∀ D a k wz, F D wz → P D a k wz) : G := walk rest


theorem rd_alike {α : Type} {S : Shape α} {lo hi c : Nat} {w : World} {a : Option Addr} {xs ys : List α} (h : Rd S lo hi w (.slice a xs.length c) xs) (e : xs = ys) : Rd S lo hi w (.slice a xs.length c) ys := by
  subst e; exact h
theorem allL_full {x : Piece} (hx : Right x) : FullV x (allL x) := (all_good hx).fullV
theorem search_law {x : Piece} (hok : pieceOk x = true) (hs : Sized x) (n : Int) : searchS x n (2 * (countQ x.rules : Int)) = 1 ∧ IsBest x n (searchB x n (2 * (countQ x.rules : Int))) := by
  obtain ⟨h1, h2⟩ := hunt_law (right_of hok) hs n (2 * (countQ x.rules : Int))
  have h3 := h2 (Int.le_refl _)
  unfold searchS searchB
  rw [hok]
  exact ⟨h3, h1.best h3⟩
theorem search_few {x : Piece} (hok : pieceOk x = true) (hs : Sized x) (n few : Int) : GoodV x (searchB x n few) ∧ costLess (costB x (allL x) n) (costB x (searchB x n few) n) = false ∧ (searchS x n few = 2 ∨ (searchS x n few = 1 ∧ IsBest x n (searchB x n few))) := by
  obtain ⟨h1, -⟩ := hunt_law (right_of hok) hs n few
  have hg := h1.good
  have e : searchB x n few = (huntL x n few).best := by unfold searchB; rw [hok]; rfl
  have e2 : searchS x n few = (huntL x n few).state := by unfold searchS; rw [hok]; rfl
  rw [e, e2, costB_full hok (allL_full (right_of hok)), costB_full hok hg.fullV]
  refine ⟨hg, h1.all, ?_⟩
  rcases h1.state with h | h
  · exact .inr ⟨h, h1.best h⟩
  · exact .inl h
set_option maxHeartbeats 16000000 in
set_option maxRecDepth 100000 in
theorem lawSearches_any (xs : List Int) (v : Value) (w : World) (hr : Rd bytS 0 w.heap.size w v xs) (hx : ∀ x ∈ xs, U8 x) :
    Calls Try.prog 3 #[v] w fun e w' => e = .returned (.bool true) ∧ Below w.heap.size w w' := by
  go_enter Try.func3, Try.ntmps3
  go_wp2_with fail
  refine (big_any hr).mono ?_
  rintro e w0 ⟨rfl, rfl⟩
  by_cases hbig : 1048576 < xs.length
  · have hd : decide (1048576 < xs.length) = true := decide_eq_true hbig
    rw [hd]
    go_wp2
    go_ret
    exact ⟨rfl, Below.refl _ _⟩
  have hd : decide (1048576 < xs.length) = false := decide_eq_false hbig
  rw [hd]
  have hl : xs.length ≤ 1048576 := by omega
  clear hd hbig
  have HB : Below w.heap.size w w := Below.refl _ _
  go_wp2_with fail
  refine (drawPiece_any hr (Nat.le_refl _) hx hl).mono ?_
  rintro e w1 ⟨x, ra, rc, ca, cc, sa, sc, ta, tc, rfl, hok, hz, r1, c9, hP, hb⟩
  replace hr := (hr.below hb (Nat.le_refl _)).wide (Nat.le_refl _) hb.size
  replace HB := HB.trans (hb.mono HB.size)
  clear hb
  have hRt := right_of hok
  have hZ : Sized x := ⟨fun c h => Nat.le_trans (hz c h) (by decide)⟩
  clear hz
  unfold Piece.v
  go_upto_region 4 with fail
  have hb : Below w1.heap.size w1 (w1.alloc (.cells #[.int .i64 x.indent, .slice ra x.rules.length rc, .slice ca x.chunks.length cc, .slice sa x.spans.length sc, .slice ta x.ties.length tc] 29)) := (Below.refl _ _).alloc (Nat.le_refl _) _
  have hX0 := heap_alloc_new w1 (.cells #[.int .i64 x.indent, .slice ra x.rules.length rc, .slice ca x.chunks.length cc, .slice sa x.spans.length sc, .slice ta x.ties.length tc] 29)
  obtain ⟨P, hPe⟩ : ∃ P, Hid (P = w1.heap.size) := ⟨_, rfl⟩
  rw [← hPe.out] at hX0 ⊢
  have hX : PBox x ra rc ca cc sa sc ta tc P (w1.alloc (.cells #[.int .i64 x.indent, .slice ra x.rules.length rc, .slice ca x.chunks.length cc, .slice sa x.spans.length sc, .slice ta x.ties.length tc] 29)) := hX0
  clear hX0 hPe
  generalize w1.alloc (.cells #[.int .i64 x.indent, .slice ra x.rules.length rc, .slice ca x.chunks.length cc, .slice sa x.spans.length sc, .slice ta x.ties.length tc] 29) = w2 at *
  replace hr := (hr.below hb (Nat.le_refl _)).wide (Nat.le_refl _) hb.size
  replace hP := (hP.below hb (Nat.le_refl _)).wide (Nat.le_refl _) hb.size
  replace HB := HB.trans (hb.mono HB.size)
  clear hb
  go_wp2_with fail
  refine (drawWidth_any hr (Nat.le_refl _) hx hl).mono ?_
  rintro e w3 ⟨n, rfl, -, hb⟩
  replace hr := (hr.below hb (Nat.le_refl _)).wide (Nat.le_refl _) hb.size
  replace hP := (hP.below hb (Nat.le_refl _)).wide (Nat.le_refl _) hb.size
  replace hX := PBox.below hX hb
  replace HB := HB.trans (hb.mono HB.size)
  clear hb
  go_upto_region 5 with fail
  have hQ1 := countQ_le (rs := x.rules) (fun r hr => by
    obtain ⟨j, hj, rfl⟩ := List.getElem_of_mem hr
    have := hRt.rule j hj; omega)
  have hQ2 : 3 ^ x.rules.length ≤ 3 ^ 8 := Nat.pow_le_pow_right (by decide) hRt.rules
  have hQ3 : countQ x.rules ≤ 6561 := Nat.le_trans hQ1 hQ2
  clear hQ1 hQ2
  obtain ⟨S1, S2⟩ := search_law hok hZ n
  obtain ⟨Q, hQ⟩ : ∃ Q, Hid (Q = countQ x.rules) := ⟨_, rfl⟩
  rw [← hQ.out] at hQ3 S1 S2
  refine wp_region_held_drew (S := fun w' => Below w3.heap.size w3 w') (by kernel_rfl) ?_ (fun hHeld => ?_)
  · exact (Below.refl _ _).drew
  refine wpAnyH_take (i := 0) (v := ?v1) (at_op rfl) (by kernel_rfl) (by kernel_rfl) (by kernel_rfl) (fun _ _ _ h => h) (Or.inl ⟨by rfl, ?y1⟩) (by assumption) ?r1
  case y1 =>
    intro wx hSx
    obtain ⟨p0, p1, p2, p3, p4⟩ := (PBox.below hX hSx).five
    go_simp
    try with_reducible rfl
  try simp only [Act.put, List.setIfInBounds_toArray, List.set_cons_zero, List.set_cons_succ]
  refine wpAnyH_take (i := 1) (v := ?v2) (at_op rfl) (by kernel_rfl) (by kernel_rfl) (by kernel_rfl) (fun _ _ _ h => h) (Or.inl ⟨by rfl, ?y2⟩) (by assumption) ?r2
  case y2 =>
    intro wx hSx
    go_simp
    try with_reducible rfl
  try simp only [Act.put, List.setIfInBounds_toArray, List.set_cons_zero, List.set_cons_succ]
  refine wpAnyH_take (i := 2) (v := ?v3) (at_op rfl) (by kernel_rfl) (by kernel_rfl) (by kernel_rfl) (fun _ _ _ h => h) (Or.inl ⟨by rfl, ?y3⟩) (by assumption) ?r3
  case y3 =>
    intro wx hSx
    obtain ⟨p0, p1, p2, p3, p4⟩ := (PBox.below hX hSx).five
    go_simp
    try with_reducible rfl
  try simp only [Act.put, List.setIfInBounds_toArray, List.set_cons_zero, List.set_cons_succ]
  refine wpAnyH_ready (rs := [3]) (by kernel_rfl) (by simp) ?_
  refine AllReadyH.cons (at_op rfl) (fun K hK => ?_) AllReadyH.nil
  go_simp
  have q := countOf_spec x ra ca sa ta rc cc sc tc _ _  _ (hP.below hHeld (Nat.le_refl _)) hHeld.size hRt
  rw [← hQ.out] at q
  refine (q).mono ?_
  rintro e wh4 ⟨rfl, hb⟩
  replace hHeld := hHeld.trans (hb.mono hHeld.size)
  clear hb
  go_wp2_with fail
  refine hK.out _ _ hHeld (fun _ => ?_)
  clear hK K
  try simp only [Act.put, List.setIfInBounds_toArray, List.set_cons_zero, List.set_cons_succ]
  refine wpAnyH_take (i := 4) (v := .int .i64 (2 * (Q : Int))) (at_op rfl) (by kernel_rfl) (by kernel_rfl) (by kernel_rfl) (fun _ _ _ h => h) (Or.inl ⟨by rfl, ?y5⟩) (by assumption) ?r5
  case y5 =>
    intro wx hSx
    skip
    go_simp
    rw [IntKind.wrap_i64]; omega
  try simp only [Act.put, List.setIfInBounds_toArray, List.set_cons_zero, List.set_cons_succ]
  refine wpAnyH_ready (rs := [5]) (by kernel_rfl) (by simp) ?_
  refine AllReadyH.cons (at_op rfl) (fun K hK => ?_) AllReadyH.nil
  go_simp
  have q := search_impl x ra ca sa ta rc cc sc tc _ _ n (2 * (Q : Int)) _ (hP.below hHeld (Nat.le_refl _)) hHeld.size hZ
  rw [S1] at q
  generalize searchB x n (2 * (Q : Int)) = b1 at *
  refine (q).mono ?_
  rintro e wh6 ⟨u1, rfl, hb, hO1⟩
  replace hHeld := hHeld.trans (hb.mono hHeld.size)
  clear hb
  obtain ⟨a1, k1, rfl, -, -, -⟩ := hO1.form
  have hV1 := hO1.rd
  clear hO1
  go_wp2_with fail
  refine hK.out _ _ hHeld (fun _ => ?_)
  clear hK K
  try simp only [Act.put, List.setIfInBounds_toArray, List.set_cons_zero, List.set_cons_succ]
  refine wpAnyH_take (i := 6) (v := ?v7) (at_op rfl) (by kernel_rfl) (by kernel_rfl) (by kernel_rfl) (fun _ _ _ h => h) (Or.inl ⟨by rfl, ?y7⟩) (by assumption) ?r7
  case y7 =>
    intro wx hSx
    go_simp
    try with_reducible rfl
  try simp only [Act.put, List.setIfInBounds_toArray, List.set_cons_zero, List.set_cons_succ]
  refine wpAnyH_take (i := 7) (v := ?v8) (at_op rfl) (by kernel_rfl) (by kernel_rfl) (by kernel_rfl) (fun _ _ _ h => h) (Or.inl ⟨by rfl, ?y8⟩) (by assumption) ?r8
  case y8 =>
    intro wx hSx
    go_simp
    try with_reducible rfl
  try simp only [Act.put, List.setIfInBounds_toArray, List.set_cons_zero, List.set_cons_succ]
  refine wpAnyH_take (i := 8) (v := ?v9) (at_op rfl) (by kernel_rfl) (by kernel_rfl) (by kernel_rfl) (fun _ _ _ h => h) (Or.inl ⟨by rfl, ?y9⟩) (by assumption) ?r9
  case y9 =>
    intro wx hSx
    go_simp
    try with_reducible rfl
  try simp only [Act.put, List.setIfInBounds_toArray, List.set_cons_zero, List.set_cons_succ]
  refine wpAnyH_take (i := 9) (v := ?v10) (at_op rfl) (by kernel_rfl) (by kernel_rfl) (by kernel_rfl) (fun _ _ _ h => h) (Or.inl ⟨by rfl, ?y10⟩) (by assumption) ?r10
  case y10 =>
    intro wx hSx
    go_simp
    try with_reducible rfl
  try simp only [Act.put, List.setIfInBounds_toArray, List.set_cons_zero, List.set_cons_succ]
  refine wpAnyH_take (i := 10) (v := ?v11) (at_op rfl) (by kernel_rfl) (by kernel_rfl) (by kernel_rfl) (fun _ _ _ h => h) (Or.inl ⟨by rfl, ?y11⟩) (by assumption) ?r11
  case y11 =>
    intro wx hSx
    go_simp
    try with_reducible rfl
  try simp only [Act.put, List.setIfInBounds_toArray, List.set_cons_zero, List.set_cons_succ]
  refine wpAnyH_done (by kernel_rfl) ?_ _
  have hb := hHeld
  clear hHeld
  replace hr := (hr.below hb (Nat.le_refl _)).wide (Nat.le_refl _) hb.size
  replace hP := (hP.below hb (Nat.le_refl _)).wide (Nat.le_refl _) hb.size
  replace hX := PBox.below hX hb
  replace HB := HB.trans (hb.mono HB.size)
  clear hb
  clear hQ3
  obtain ⟨p0, p1, p2, p3, p4⟩ := hX.five
  go_wp2_with fail
  refine (bestOf_spec x ra ca sa ta rc cc sc tc _ _ n _ hP (Nat.le_refl _) hZ).mono ?_
  rintro e w5 ⟨hb, -, h2⟩
  obtain ⟨u2, b, hIB, rfl, hO2⟩ := h2 hok
  obtain ⟨a2, k2, rfl, -, -, -⟩ := hO2.form
  have hV2 := (hO2.rd).wide (Nat.le_refl _) (Nat.le_refl _)
  clear hO2 h2 p0 p1 p2 p3 p4
  obtain rfl : b = b1 := IsBest.one hIB S2
  clear S2
  replace hr := (hr.below hb (Nat.le_refl _)).wide (Nat.le_refl _) hb.size
  replace hP := (hP.below hb (Nat.le_refl _)).wide (Nat.le_refl _) hb.size
  replace hX := PBox.below hX hb
  replace hV1 := (hV1.below hb (Nat.le_refl _)).wide (Nat.le_refl _) hb.size
  replace HB := HB.trans (hb.mono HB.size)
  clear hb
  obtain ⟨Co, hCo⟩ : ∃ c, Hid (c = (costR x b n).over) := ⟨_, rfl⟩
  obtain ⟨Cs, hCs⟩ : ∃ c, Hid (c = (costR x b n).sum) := ⟨_, rfl⟩
  rw [← hCo.out, ← hCs.out]
  go_upto_region 7 with fail
  have hb : Below w5.heap.size w5 (w5.alloc (.cells #[.int .i64 Co, .int .i64 Cs] 37)) := (Below.refl _ _).alloc (Nat.le_refl _) _
  have hC := heap_alloc_new w5 (.cells #[.int .i64 Co, .int .i64 Cs] 37)
  obtain ⟨C, hPe⟩ : ∃ P, Hid (P = w5.heap.size) := ⟨_, rfl⟩
  rw [← hPe.out] at hC ⊢
  clear hPe
  generalize w5.alloc (.cells #[.int .i64 Co, .int .i64 Cs] 37) = w6 at *
  replace hr := (hr.below hb (Nat.le_refl _)).wide (Nat.le_refl _) hb.size
  replace hP := (hP.below hb (Nat.le_refl _)).wide (Nat.le_refl _) hb.size
  replace hX := PBox.below hX hb
  replace hV1 := (hV1.below hb (Nat.le_refl _)).wide (Nat.le_refl _) hb.size
  replace hV2 := (hV2.below hb (Nat.le_refl _)).wide (Nat.le_refl _) hb.size
  replace HB := HB.trans (hb.mono HB.size)
  clear hb
  go_wp2_with fail
  refine (drawPlaces_any hr (Nat.le_refl _) hx hl).mono ?_
  rintro e w7 ⟨r, ps, rfl, hp12, hps, hQ9, hb⟩
  replace hr := (hr.below hb (Nat.le_refl _)).wide (Nat.le_refl _) hb.size
  replace hP := (hP.below hb (Nat.le_refl _)).wide (Nat.le_refl _) hb.size
  replace hX := PBox.below hX hb
  replace hV1 := (hV1.below hb (Nat.le_refl _)).wide (Nat.le_refl _) hb.size
  replace hV2 := (hV2.below hb (Nat.le_refl _)).wide (Nat.le_refl _) hb.size
  replace hC := blk hb hC
  replace HB := HB.trans (hb.mono HB.size)
  clear hb
  obtain ⟨qa, qc, rfl, -, -, -⟩ := hQ9.form
  obtain ⟨qb, qo, rfl, -, -, d2⟩ := (at_int hQ9.rd).2 0 (by omega)
  generalize ps[0] = q at *
  simp only [Nat.add_zero] at d2
  have hq2 : (0 : Int) < (ps.length : Int) := by omega
  clear hQ9 hps hp12
  go_upto_region 8 with fail
  clear hq2 d2
  generalize q.tmod 9 = few at *
  have HF := Lib.hid (search_few hok hZ n few)
  obtain ⟨p0, p1, p2, p3, p4⟩ := hX.five
  go_wp2_with fail
  have q9 := search_impl x ra ca sa ta rc cc sc tc _ _ n few _ hP (Nat.le_refl _) hZ
  generalize searchS x n few = st at *
  generalize searchB x n few = ws at *
  refine (q9).mono ?_
  rintro e w8 ⟨u3, rfl, hb, hO3⟩
  clear q9 p0 p1 p2 p3 p4
  obtain ⟨a3, k3, rfl, -, -, -⟩ := hO3.form
  have hV3 := hO3.rd
  clear hO3
  replace hr := (hr.below hb (Nat.le_refl _)).wide (Nat.le_refl _) hb.size
  replace hP := (hP.below hb (Nat.le_refl _)).wide (Nat.le_refl _) hb.size
  replace hX := PBox.below hX hb
  replace hV1 := (hV1.below hb (Nat.le_refl _)).wide (Nat.le_refl _) hb.size
  replace hV2 := (hV2.below hb (Nat.le_refl _)).wide (Nat.le_refl _) hb.size
  replace hC := blk hb hC
  replace HB := HB.trans (hb.mono HB.size)
  clear hb
  obtain ⟨F1, F2, F3⟩ := HF.out
  clear HF
  obtain ⟨Ao, hAo⟩ : ∃ c, Hid (c = (costB x (allL x) n).over) := ⟨_, rfl⟩
  obtain ⟨As, hAs⟩ : ∃ c, Hid (c = (costB x (allL x) n).sum) := ⟨_, rfl⟩
  go_upto_region 9 with fail
  apply share4 (F := fun D wz => Below w8.heap.size w8 wz ∧ wz.heap[D]? = some (.cells #[.int .i64 Ao, .int .i64 As] 37))
  · intro REST
    refine wp_region_held_drew (S := fun w' => Below w8.heap.size w8 w') (by kernel_rfl) ?_ (fun hHeld => ?_)
    · exact (Below.refl _ _).drew
    generalize w8.drew = wD at *
    refine wpAnyH_take (i := 0) (v := ?v12) (at_op rfl) (by kernel_rfl) (by kernel_rfl) (by kernel_rfl) (fun _ _ _ h => h) (Or.inl ⟨by rfl, ?y12⟩) (by assumption) ?r12
    case y12 =>
      intro wx hSx
      obtain ⟨p0, p1, p2, p3, p4⟩ := (PBox.below hX hSx).five
      go_simp
      try with_reducible rfl
    try simp only [Act.put, List.setIfInBounds_toArray, List.set_cons_zero, List.set_cons_succ]
    refine wpAnyH_take (i := 1) (v := ?v13) (at_op rfl) (by kernel_rfl) (by kernel_rfl) (by kernel_rfl) (fun _ _ _ h => h) (Or.inl ⟨by rfl, ?y13⟩) (by assumption) ?r13
    case y13 =>
      intro wx hSx
      obtain ⟨p0, p1, p2, p3, p4⟩ := (PBox.below hX hSx).five
      go_simp
      try with_reducible rfl
    try simp only [Act.put, List.setIfInBounds_toArray, List.set_cons_zero, List.set_cons_succ]
    refine wpAnyH_take (i := 3) (v := ?v14) (at_op rfl) (by kernel_rfl) (by kernel_rfl) (by kernel_rfl) (fun _ _ _ h => h) (Or.inl ⟨by rfl, ?y14⟩) (by assumption) ?r14
    case y14 =>
      intro wx hSx
      go_simp
      try with_reducible rfl
    try simp only [Act.put, List.setIfInBounds_toArray, List.set_cons_zero, List.set_cons_succ]
    refine wpAnyH_ready (rs := [2, 5]) (by kernel_rfl) (by simp) ?_
    refine AllReadyH.cons (at_op rfl) (fun K hK => ?_) (AllReadyH.cons (at_op rfl) (fun K hK => ?_) AllReadyH.nil)
    · go_simp
      refine (allSplit_spec x ra ca sa ta rc cc sc tc _ _  _ (hP.below hHeld (Nat.le_refl _)) hHeld.size hRt).mono ?_
      rintro e wh15 ⟨u4, rfl, hb, hO4⟩
      replace hHeld := hHeld.trans (hb.mono hHeld.size)
      clear hb
      obtain ⟨a4, k4, rfl, -, -, -⟩ := hO4.form
      have hV4 := hO4.rd
      clear hO4
      go_wp2_with fail
      refine hK.out _ _ hHeld (fun _ => ?_)
      clear hK K
      try simp only [Act.put, List.setIfInBounds_toArray, List.set_cons_zero, List.set_cons_succ]
      refine wpAnyH_ready (rs := [4, 5]) (by kernel_rfl) (by simp) ?_
      refine AllReadyH.cons (at_op rfl) (fun K hK => ?_) (AllReadyH.cons (at_op rfl) (fun K hK => ?_) AllReadyH.nil)
      · go_simp
        refine (costTop_spec x (allL x) ra ca sa ta a4 rc cc sc tc k4 _ _ _ _ n _ (hP.below hHeld (Nat.le_refl _)) hHeld.size hV4 (Nat.le_refl _) hZ).mono ?_
        rintro e wh16 ⟨rfl, hb⟩
        replace hHeld := hHeld.trans (hb.mono hHeld.size)
        clear hb
        rw [← hAo.out, ← hAs.out]
        go_wp2_with fail
        refine hK.out _ _ hHeld (fun _ => ?_)
        clear hK K
        try simp only [Act.put, List.setIfInBounds_toArray, List.set_cons_zero, List.set_cons_succ]
        refine wpAnyH_ready (rs := [5]) (by kernel_rfl) (by simp) ?_
        refine AllReadyH.cons (at_op rfl) (fun K hK => ?_) AllReadyH.nil
        go_simp
        have hb : Below wh16.heap.size wh16 (wh16.alloc (.cells #[.int .i64 0, .int .i64 0] 37)) := (Below.refl _ _).alloc (Nat.le_refl _) _
        have hD := heap_alloc_new wh16 (.cells #[.int .i64 0, .int .i64 0] 37)
        obtain ⟨D, hPe⟩ : ∃ P, Hid (P = wh16.heap.size) := ⟨_, rfl⟩
        have hle : w8.heap.size ≤ D := by rw [hPe.out]; exact hHeld.size
        rw [← hPe.out] at hD ⊢
        clear hPe
        generalize wh16.alloc (.cells #[.int .i64 0, .int .i64 0] 37) = wh17 at *
        replace hHeld := hHeld.trans (hb.mono hHeld.size)
        clear hb
        refine hK.out _ _ hHeld (fun _ => ?_)
        clear hK K
        try simp only [Act.put, List.setIfInBounds_toArray, List.set_cons_zero, List.set_cons_succ]
        refine wpAnyH_ready (rs := [6]) (by kernel_rfl) (by simp) ?_
        refine AllReadyH.cons (at_op rfl) (fun K hK => ?_) AllReadyH.nil
        have z0 := cell_heap (j := 0) hD rfl
        have z1 := cell_heap (j := 1) hD rfl
        have f0 := frozen_heap (j := 0) hD
        have f1 := frozen_heap (j := 1) hD
        go_wp2_with fail
        have hk := two_setC (u0 := .int .i64 Ao) (u1 := .int .i64 As) hD
        have hb : Below w8.heap.size wh17 ((wh17.setCell ⟨D, 0, none⟩ (.int .i64 Ao)).setCell ⟨D, 1, none⟩ (.int .i64 As)) := ((Below.refl _ _).setCell (p := ⟨D, 0, none⟩) hle _).setCell (p := ⟨D, 1, none⟩) hle _
        clear z0 z1 f0 f1 hD hle
        have hD := hk
        clear hk
        generalize (wh17.setCell ⟨D, 0, none⟩ (.int .i64 Ao)).setCell ⟨D, 1, none⟩ (.int .i64 As) = wh18 at *
        replace hHeld := hHeld.trans hb
        clear hb
        refine hK.out _ _ hHeld (fun _ => ?_)
        clear hK K
        try simp only [Act.put, List.setIfInBounds_toArray, List.set_cons_zero, List.set_cons_succ]
        refine wpAnyH_done (by kernel_rfl) ?_ _
        exact REST D a4 k4 _ ⟨hHeld, hD⟩
      · go_simp
        have hb : Below wh15.heap.size wh15 (wh15.alloc (.cells #[.int .i64 0, .int .i64 0] 37)) := (Below.refl _ _).alloc (Nat.le_refl _) _
        have hD := heap_alloc_new wh15 (.cells #[.int .i64 0, .int .i64 0] 37)
        obtain ⟨D, hPe⟩ : ∃ P, Hid (P = wh15.heap.size) := ⟨_, rfl⟩
        have hle : w8.heap.size ≤ D := by rw [hPe.out]; exact hHeld.size
        rw [← hPe.out] at hD ⊢
        clear hPe
        generalize wh15.alloc (.cells #[.int .i64 0, .int .i64 0] 37) = wh19 at *
        replace hHeld := hHeld.trans (hb.mono hHeld.size)
        replace hV4 := (hV4.below hb (Nat.le_refl _)).wide (Nat.le_refl _) hb.size
        clear hb
        refine hK.out _ _ hHeld (fun _ => ?_)
        clear hK K
        try simp only [Act.put, List.setIfInBounds_toArray, List.set_cons_zero, List.set_cons_succ]
        refine wpAnyH_ready (rs := [4]) (by kernel_rfl) (by simp) ?_
        refine AllReadyH.cons (at_op rfl) (fun K hK => ?_) AllReadyH.nil
        go_simp
        refine (costTop_spec x (allL x) ra ca sa ta a4 rc cc sc tc k4 _ _ _ _ n _ (hP.below hHeld (Nat.le_refl _)) hHeld.size hV4 (Nat.le_refl _) hZ).mono ?_
        rintro e wh20 ⟨rfl, hb⟩
        replace hHeld := hHeld.trans (hb.mono hHeld.size)
        replace hD := blk hb hD
        clear hb
        rw [← hAo.out, ← hAs.out]
        go_wp2_with fail
        refine hK.out _ _ hHeld (fun _ => ?_)
        clear hK K
        try simp only [Act.put, List.setIfInBounds_toArray, List.set_cons_zero, List.set_cons_succ]
        refine wpAnyH_ready (rs := [6]) (by kernel_rfl) (by simp) ?_
        refine AllReadyH.cons (at_op rfl) (fun K hK => ?_) AllReadyH.nil
        have z0 := cell_heap (j := 0) hD rfl
        have z1 := cell_heap (j := 1) hD rfl
        have f0 := frozen_heap (j := 0) hD
        have f1 := frozen_heap (j := 1) hD
        go_wp2_with fail
        have hk := two_setC (u0 := .int .i64 Ao) (u1 := .int .i64 As) hD
        have hb : Below w8.heap.size wh20 ((wh20.setCell ⟨D, 0, none⟩ (.int .i64 Ao)).setCell ⟨D, 1, none⟩ (.int .i64 As)) := ((Below.refl _ _).setCell (p := ⟨D, 0, none⟩) hle _).setCell (p := ⟨D, 1, none⟩) hle _
        clear z0 z1 f0 f1 hD hle
        have hD := hk
        clear hk
        generalize (wh20.setCell ⟨D, 0, none⟩ (.int .i64 Ao)).setCell ⟨D, 1, none⟩ (.int .i64 As) = wh21 at *
        replace hHeld := hHeld.trans hb
        clear hb
        refine hK.out _ _ hHeld (fun _ => ?_)
        clear hK K
        try simp only [Act.put, List.setIfInBounds_toArray, List.set_cons_zero, List.set_cons_succ]
        refine wpAnyH_done (by kernel_rfl) ?_ _
        exact REST D a4 k4 _ ⟨hHeld, hD⟩
    · go_simp
      have hb : Below wD.heap.size wD (wD.alloc (.cells #[.int .i64 0, .int .i64 0] 37)) := (Below.refl _ _).alloc (Nat.le_refl _) _
      have hD := heap_alloc_new wD (.cells #[.int .i64 0, .int .i64 0] 37)
      obtain ⟨D, hPe⟩ : ∃ P, Hid (P = wD.heap.size) := ⟨_, rfl⟩
      have hle : w8.heap.size ≤ D := by rw [hPe.out]; exact hHeld.size
      rw [← hPe.out] at hD ⊢
      clear hPe
      generalize wD.alloc (.cells #[.int .i64 0, .int .i64 0] 37) = wh22 at *
      replace hHeld := hHeld.trans (hb.mono hHeld.size)
      clear hb
      refine hK.out _ _ hHeld (fun _ => ?_)
      clear hK K
      try simp only [Act.put, List.setIfInBounds_toArray, List.set_cons_zero, List.set_cons_succ]
      refine wpAnyH_ready (rs := [2]) (by kernel_rfl) (by simp) ?_
      refine AllReadyH.cons (at_op rfl) (fun K hK => ?_) AllReadyH.nil
      go_simp
      refine (allSplit_spec x ra ca sa ta rc cc sc tc _ _  _ (hP.below hHeld (Nat.le_refl _)) hHeld.size hRt).mono ?_
      rintro e wh23 ⟨u4, rfl, hb, hO4⟩
      replace hHeld := hHeld.trans (hb.mono hHeld.size)
      replace hD := blk hb hD
      clear hb
      obtain ⟨a4, k4, rfl, -, -, -⟩ := hO4.form
      have hV4 := hO4.rd
      clear hO4
      go_wp2_with fail
      refine hK.out _ _ hHeld (fun _ => ?_)
      clear hK K
      try simp only [Act.put, List.setIfInBounds_toArray, List.set_cons_zero, List.set_cons_succ]
      refine wpAnyH_ready (rs := [4]) (by kernel_rfl) (by simp) ?_
      refine AllReadyH.cons (at_op rfl) (fun K hK => ?_) AllReadyH.nil
      go_simp
      refine (costTop_spec x (allL x) ra ca sa ta a4 rc cc sc tc k4 _ _ _ _ n _ (hP.below hHeld (Nat.le_refl _)) hHeld.size hV4 (Nat.le_refl _) hZ).mono ?_
      rintro e wh24 ⟨rfl, hb⟩
      replace hHeld := hHeld.trans (hb.mono hHeld.size)
      replace hD := blk hb hD
      clear hb
      rw [← hAo.out, ← hAs.out]
      go_wp2_with fail
      refine hK.out _ _ hHeld (fun _ => ?_)
      clear hK K
      try simp only [Act.put, List.setIfInBounds_toArray, List.set_cons_zero, List.set_cons_succ]
      refine wpAnyH_ready (rs := [6]) (by kernel_rfl) (by simp) ?_
      refine AllReadyH.cons (at_op rfl) (fun K hK => ?_) AllReadyH.nil
      have z0 := cell_heap (j := 0) hD rfl
      have z1 := cell_heap (j := 1) hD rfl
      have f0 := frozen_heap (j := 0) hD
      have f1 := frozen_heap (j := 1) hD
      go_wp2_with fail
      have hk := two_setC (u0 := .int .i64 Ao) (u1 := .int .i64 As) hD
      have hb : Below w8.heap.size wh24 ((wh24.setCell ⟨D, 0, none⟩ (.int .i64 Ao)).setCell ⟨D, 1, none⟩ (.int .i64 As)) := ((Below.refl _ _).setCell (p := ⟨D, 0, none⟩) hle _).setCell (p := ⟨D, 1, none⟩) hle _
      clear z0 z1 f0 f1 hD hle
      have hD := hk
      clear hk
      generalize (wh24.setCell ⟨D, 0, none⟩ (.int .i64 Ao)).setCell ⟨D, 1, none⟩ (.int .i64 As) = wh25 at *
      replace hHeld := hHeld.trans hb
      clear hb
      refine hK.out _ _ hHeld (fun _ => ?_)
      clear hK K
      try simp only [Act.put, List.setIfInBounds_toArray, List.set_cons_zero, List.set_cons_succ]
      refine wpAnyH_done (by kernel_rfl) ?_ _
      exact REST D a4 k4 _ ⟨hHeld, hD⟩
  · intro D a4 k4 wz hFD
    obtain ⟨hHeld, hD⟩ := hFD
    have hb := hHeld
    clear hHeld
    replace hr := (hr.below hb (Nat.le_refl _)).wide (Nat.le_refl _) hb.size
    replace hP := (hP.below hb (Nat.le_refl _)).wide (Nat.le_refl _) hb.size
    replace hX := PBox.below hX hb
    replace hV1 := (hV1.below hb (Nat.le_refl _)).wide (Nat.le_refl _) hb.size
    replace hV2 := (hV2.below hb (Nat.le_refl _)).wide (Nat.le_refl _) hb.size
    replace hC := blk hb hC
    replace hV3 := (hV3.below hb (Nat.le_refl _)).wide (Nat.le_refl _) hb.size
    replace HB := HB.trans (hb.mono HB.size)
    clear hb
    go_wp2_with fail
    refine (drawSearch_any hr (Nat.le_refl _) hx hl).mono ?_
    rintro e w10 ⟨y, m1, m2, ra2, rc2, ca2, cc2, sa2, sc2, ta2, tc2, rfl, hAy, hPy, hb⟩
    replace hr := (hr.below hb (Nat.le_refl _)).wide (Nat.le_refl _) hb.size
    replace hP := (hP.below hb (Nat.le_refl _)).wide (Nat.le_refl _) hb.size
    replace hX := PBox.below hX hb
    replace hV1 := (hV1.below hb (Nat.le_refl _)).wide (Nat.le_refl _) hb.size
    replace hV2 := (hV2.below hb (Nat.le_refl _)).wide (Nat.le_refl _) hb.size
    replace hC := blk hb hC
    replace hV3 := (hV3.below hb (Nat.le_refl _)).wide (Nat.le_refl _) hb.size
    replace hD := blk hb hD
    replace HB := HB.trans (hb.mono HB.size)
    clear hb
    unfold Piece.v
    go_upto_region 11 with fail
    have hb : Below w10.heap.size w10 (w10.alloc (.cells #[.int .i64 y.indent, .slice ra2 y.rules.length rc2, .slice ca2 y.chunks.length cc2, .slice sa2 y.spans.length sc2, .slice ta2 y.ties.length tc2] 29)) := (Below.refl _ _).alloc (Nat.le_refl _) _
    have hX0 := heap_alloc_new w10 (.cells #[.int .i64 y.indent, .slice ra2 y.rules.length rc2, .slice ca2 y.chunks.length cc2, .slice sa2 y.spans.length sc2, .slice ta2 y.ties.length tc2] 29)
    obtain ⟨Y, hPe⟩ : ∃ P, Hid (P = w10.heap.size) := ⟨_, rfl⟩
    rw [← hPe.out] at hX0 ⊢
    have hY : PBox y ra2 rc2 ca2 cc2 sa2 sc2 ta2 tc2 Y (w10.alloc (.cells #[.int .i64 y.indent, .slice ra2 y.rules.length rc2, .slice ca2 y.chunks.length cc2, .slice sa2 y.spans.length sc2, .slice ta2 y.ties.length tc2] 29)) := hX0
    clear hX0 hPe
    generalize w10.alloc (.cells #[.int .i64 y.indent, .slice ra2 y.rules.length rc2, .slice ca2 y.chunks.length cc2, .slice sa2 y.spans.length sc2, .slice ta2 y.ties.length tc2] 29) = w11 at *
    replace hr := (hr.below hb (Nat.le_refl _)).wide (Nat.le_refl _) hb.size
    replace hP := (hP.below hb (Nat.le_refl _)).wide (Nat.le_refl _) hb.size
    replace hX := PBox.below hX hb
    replace hV1 := (hV1.below hb (Nat.le_refl _)).wide (Nat.le_refl _) hb.size
    replace hV2 := (hV2.below hb (Nat.le_refl _)).wide (Nat.le_refl _) hb.size
    replace hC := blk hb hC
    replace hV3 := (hV3.below hb (Nat.le_refl _)).wide (Nat.le_refl _) hb.size
    replace hD := blk hb hD
    replace hPy := (hPy.below hb (Nat.le_refl _)).wide (Nat.le_refl _) hb.size
    replace HB := HB.trans (hb.mono HB.size)
    clear hb
    have hZy : Sized y := ⟨fun c h => Nat.le_trans (hAy.z c h) (by decide)⟩
    clear hAy
    obtain ⟨p0, p1, p2, p3, p4⟩ := hY.five
    go_wp2_with fail
    have q9 := search_impl y ra2 ca2 sa2 ta2 rc2 cc2 sc2 tc2 _ _ m1 m2 _ hPy (Nat.le_refl _) hZy
    obtain ⟨sy, hsy⟩ : ∃ c, Hid (c = searchS y m1 m2) := ⟨_, rfl⟩
    obtain ⟨yb, hyb⟩ : ∃ c, Hid (c = searchB y m1 m2) := ⟨_, rfl⟩
    rw [← hsy.out, ← hyb.out] at q9
    refine (q9).mono ?_
    rintro e w12 ⟨u5, rfl, hb, hO5⟩
    clear q9 p0 p1 p2 p3 p4
    obtain ⟨a5, k5, rfl, -, -, -⟩ := hO5.form
    have hV5 := hO5.rd
    clear hO5
    replace hr := (hr.below hb (Nat.le_refl _)).wide (Nat.le_refl _) hb.size
    replace hP := (hP.below hb (Nat.le_refl _)).wide (Nat.le_refl _) hb.size
    replace hX := PBox.below hX hb
    replace hV1 := (hV1.below hb (Nat.le_refl _)).wide (Nat.le_refl _) hb.size
    replace hV2 := (hV2.below hb (Nat.le_refl _)).wide (Nat.le_refl _) hb.size
    replace hC := blk hb hC
    replace hV3 := (hV3.below hb (Nat.le_refl _)).wide (Nat.le_refl _) hb.size
    replace hD := blk hb hD
    replace hPy := (hPy.below hb (Nat.le_refl _)).wide (Nat.le_refl _) hb.size
    replace hY := PBox.below hY hb
    replace HB := HB.trans (hb.mono HB.size)
    clear hb
    obtain ⟨p0, p1, p2, p3, p4⟩ := hY.five
    go_upto_region 12 with fail
    go_wp2_with fail
    have q9 := search_spec y ra2 ca2 sa2 ta2 rc2 cc2 sc2 tc2 _ _ m1 m2 _ hPy (Nat.le_refl _) hZy
    rw [← hsy.out, ← hyb.out] at q9
    refine (q9).mono ?_
    rintro e w13 ⟨u6, rfl, hb, hO6⟩
    clear q9 p0 p1 p2 p3 p4
    obtain ⟨a6, k6, rfl, -, -, -⟩ := hO6.form
    have hV6 := hO6.rd
    clear hO6
    replace hr := (hr.below hb (Nat.le_refl _)).wide (Nat.le_refl _) hb.size
    replace hP := (hP.below hb (Nat.le_refl _)).wide (Nat.le_refl _) hb.size
    replace hX := PBox.below hX hb
    replace hV1 := (hV1.below hb (Nat.le_refl _)).wide (Nat.le_refl _) hb.size
    replace hV2 := (hV2.below hb (Nat.le_refl _)).wide (Nat.le_refl _) hb.size
    replace hC := blk hb hC
    replace hV3 := (hV3.below hb (Nat.le_refl _)).wide (Nat.le_refl _) hb.size
    replace hD := blk hb hD
    replace hPy := (hPy.below hb (Nat.le_refl _)).wide (Nat.le_refl _) hb.size
    replace hY := PBox.below hY hb
    replace hV5 := (hV5.below hb (Nat.le_refl _)).wide (Nat.le_refl _) hb.size
    replace HB := HB.trans (hb.mono HB.size)
    clear hb
    go_upto_region 13 with fail
    have F4 : costLess ⟨Ao, As⟩ (costB x ws n) = false := by
      have e : (⟨Ao, As⟩ : CostL) = costB x (allL x) n := by rw [hAo.out, hAs.out]
      rw [e]; exact F2
    clear F2 hAo hAs
    obtain ⟨cw, hcw⟩ : ∃ c, Hid (c = costB x ws n) := ⟨_, rfl⟩
    rw [← hcw.out] at F4
    obtain ⟨c0, c1⟩ := two_c hC
    obtain ⟨d0, d1⟩ := two_c hD
    refine wp_region_held_drew (S := fun w' => Below w13.heap.size w13 w') (by kernel_rfl) ?_ (fun hHeld => ?_)
    · exact (Below.refl _ _).drew
    refine wpAnyH_take (i := 0) (v := ?v26) (at_op rfl) (by kernel_rfl) (by kernel_rfl) (by kernel_rfl) (fun _ _ _ h => h) (Or.inl ⟨by rfl, ?y26⟩) (by assumption) ?r26
    case y26 =>
      intro wx hSx
      go_simp
      try with_reducible rfl
    try simp only [Act.put, List.setIfInBounds_toArray, List.set_cons_zero, List.set_cons_succ]
    refine wpAnyH_take (i := 1) (v := .bool true) (at_op rfl) (by kernel_rfl) (by kernel_rfl) (by kernel_rfl) (fun _ _ _ h => h) (Or.inl ⟨by rfl, ?y27⟩) (by assumption) ?r27
    case y27 =>
      intro wx hSx
      skip
      go_simp
      try simp
    try simp only [Act.put, List.setIfInBounds_toArray, List.set_cons_zero, List.set_cons_succ]
    refine wpAnyH_take (i := 2) (v := ?v28) (at_op rfl) (by kernel_rfl) (by kernel_rfl) (by kernel_rfl) (fun _ _ _ h => h) (Or.inl ⟨by rfl, ?y28⟩) (by assumption) ?r28
    case y28 =>
      intro wx hSx
      go_simp
      try with_reducible rfl
    try simp only [Act.put, List.setIfInBounds_toArray, List.set_cons_zero, List.set_cons_succ]
    refine wpAnyH_take (i := 3) (v := ?v29) (at_op rfl) (by kernel_rfl) (by kernel_rfl) (by kernel_rfl) (fun _ _ _ h => h) (Or.inl ⟨by rfl, ?y29⟩) (by assumption) ?r29
    case y29 =>
      intro wx hSx
      go_simp
      try with_reducible rfl
    try simp only [Act.put, List.setIfInBounds_toArray, List.set_cons_zero, List.set_cons_succ]
    refine wpAnyH_take (i := 4) (v := ?v30) (at_op rfl) (by kernel_rfl) (by kernel_rfl) (by kernel_rfl) (fun _ _ _ h => h) (Or.inl ⟨by rfl, ?y30⟩) (by assumption) ?r30
    case y30 =>
      intro wx hSx
      go_simp
      try with_reducible rfl
    try simp only [Act.put, List.setIfInBounds_toArray, List.set_cons_zero, List.set_cons_succ]
    refine wpAnyH_ready (rs := [5]) (by kernel_rfl) (by simp) ?_
    refine AllReadyH.cons (at_op rfl) (fun K hK => ?_) AllReadyH.nil
    go_simp
    refine (sameIn_any b _ _ _ _ _ _ _ (hV1.below hHeld (Nat.le_refl _)) hHeld.size (hV2.below hHeld (Nat.le_refl _)) hHeld.size).mono ?_
    rintro e wh31 ⟨rfl, hb⟩
    replace hHeld := hHeld.trans (hb.mono hHeld.size)
    clear hb
    go_wp2_with fail
    refine hK.out _ _ hHeld (fun _ => ?_)
    clear hK K
    try simp only [Act.put, List.setIfInBounds_toArray, List.set_cons_zero, List.set_cons_succ]
    refine wpAnyH_take (i := 6) (v := .bool true) (at_op rfl) (by kernel_rfl) (by kernel_rfl) (by kernel_rfl) (fun _ _ _ h => h) (Or.inl ⟨by rfl, ?y32⟩) (by assumption) ?r32
    case y32 =>
      intro wx hSx
      skip
      go_simp
      try simp
    try simp only [Act.put, List.setIfInBounds_toArray, List.set_cons_zero, List.set_cons_succ]
    refine wpAnyH_take (i := 7) (v := ?v33) (at_op rfl) (by kernel_rfl) (by kernel_rfl) (by kernel_rfl) (fun _ _ _ h => h) (Or.inl ⟨by rfl, ?y33⟩) (by assumption) ?r33
    case y33 =>
      intro wx hSx
      go_simp
      try with_reducible rfl
    try simp only [Act.put, List.setIfInBounds_toArray, List.set_cons_zero, List.set_cons_succ]
    refine wpAnyH_take (i := 8) (v := ?v34) (at_op rfl) (by kernel_rfl) (by kernel_rfl) (by kernel_rfl) (fun _ _ _ h => h) (Or.inl ⟨by rfl, ?y34⟩) (by assumption) ?r34
    case y34 =>
      intro wx hSx
      obtain ⟨p0, p1, p2, p3, p4⟩ := (PBox.below hX hSx).five
      go_simp
      try with_reducible rfl
    try simp only [Act.put, List.setIfInBounds_toArray, List.set_cons_zero, List.set_cons_succ]
    refine wpAnyH_take (i := 9) (v := ?v35) (at_op rfl) (by kernel_rfl) (by kernel_rfl) (by kernel_rfl) (fun _ _ _ h => h) (Or.inl ⟨by rfl, ?y35⟩) (by assumption) ?r35
    case y35 =>
      intro wx hSx
      go_simp
      try with_reducible rfl
    try simp only [Act.put, List.setIfInBounds_toArray, List.set_cons_zero, List.set_cons_succ]
    refine wpAnyH_take (i := 10) (v := ?v36) (at_op rfl) (by kernel_rfl) (by kernel_rfl) (by kernel_rfl) (fun _ _ _ h => h) (Or.inl ⟨by rfl, ?y36⟩) (by assumption) ?r36
    case y36 =>
      intro wx hSx
      go_simp
      try with_reducible rfl
    try simp only [Act.put, List.setIfInBounds_toArray, List.set_cons_zero, List.set_cons_succ]
    refine wpAnyH_take (i := 12) (v := ?v37) (at_op rfl) (by kernel_rfl) (by kernel_rfl) (by kernel_rfl) (fun _ _ _ h => h) (Or.inl ⟨by rfl, ?y37⟩) (by assumption) ?r37
    case y37 =>
      intro wx hSx
      obtain ⟨e0, e1⟩ := two_c (blk hSx hC)
      go_simp
      try with_reducible rfl
    try simp only [Act.put, List.setIfInBounds_toArray, List.set_cons_zero, List.set_cons_succ]
    refine wpAnyH_ready (rs := [11]) (by kernel_rfl) (by simp) ?_
    refine AllReadyH.cons (at_op rfl) (fun K hK => ?_) AllReadyH.nil
    go_simp
    refine (costTop_spec x b ra ca sa ta a1 rc cc sc tc k1 _ _ _ _ n _ (hP.below hHeld (Nat.le_refl _)) hHeld.size (hV1.below hHeld (Nat.le_refl _)) hHeld.size hZ).mono ?_
    rintro e wh38 ⟨rfl, hb⟩
    replace hHeld := hHeld.trans (hb.mono hHeld.size)
    clear hb
    rw [costB_full hok hIB.good.fullV, ← hCo.out, ← hCs.out]
    go_wp2_with fail
    refine hK.out _ _ hHeld (fun _ => ?_)
    clear hK K
    try simp only [Act.put, List.setIfInBounds_toArray, List.set_cons_zero, List.set_cons_succ]
    refine wpAnyH_take (i := 13) (v := .bool true) (at_op rfl) (by kernel_rfl) (by kernel_rfl) (by kernel_rfl) (fun _ _ _ h => h) (Or.inl ⟨by rfl, ?y39⟩) (by assumption) ?r39
    case y39 =>
      intro wx hSx
      skip
      go_simp
      try simp
    try simp only [Act.put, List.setIfInBounds_toArray, List.set_cons_zero, List.set_cons_succ]
    refine wpAnyH_take (i := 14) (v := .bool true) (at_op rfl) (by kernel_rfl) (by kernel_rfl) (by kernel_rfl) (fun _ _ _ h => h) (Or.inl ⟨by rfl, ?y40⟩) (by assumption) ?r40
    case y40 =>
      intro wx hSx
      skip
      go_simp
      try simp
    try simp only [Act.put, List.setIfInBounds_toArray, List.set_cons_zero, List.set_cons_succ]
    refine wpAnyH_take (i := 15) (v := ?v41) (at_op rfl) (by kernel_rfl) (by kernel_rfl) (by kernel_rfl) (fun _ _ _ h => h) (Or.inl ⟨by rfl, ?y41⟩) (by assumption) ?r41
    case y41 =>
      intro wx hSx
      go_simp
      try with_reducible rfl
    try simp only [Act.put, List.setIfInBounds_toArray, List.set_cons_zero, List.set_cons_succ]
    refine wpAnyH_take (i := 16) (v := ?v42) (at_op rfl) (by kernel_rfl) (by kernel_rfl) (by kernel_rfl) (fun _ _ _ h => h) (Or.inl ⟨by rfl, ?y42⟩) (by assumption) ?r42
    case y42 =>
      intro wx hSx
      obtain ⟨p0, p1, p2, p3, p4⟩ := (PBox.below hX hSx).five
      go_simp
      try with_reducible rfl
    try simp only [Act.put, List.setIfInBounds_toArray, List.set_cons_zero, List.set_cons_succ]
    refine wpAnyH_take (i := 17) (v := ?v43) (at_op rfl) (by kernel_rfl) (by kernel_rfl) (by kernel_rfl) (fun _ _ _ h => h) (Or.inl ⟨by rfl, ?y43⟩) (by assumption) ?r43
    case y43 =>
      intro wx hSx
      go_simp
      try with_reducible rfl
    try simp only [Act.put, List.setIfInBounds_toArray, List.set_cons_zero, List.set_cons_succ]
    refine wpAnyH_ready (rs := [18]) (by kernel_rfl) (by simp) ?_
    refine AllReadyH.cons (at_op rfl) (fun K hK => ?_) AllReadyH.nil
    go_simp
    refine (tiesHold_spec x ws ra ca sa ta a3 rc cc sc tc k3 _ _ _ _ _ (hP.below hHeld (Nat.le_refl _)) hHeld.size (hV3.below hHeld (Nat.le_refl _)) hHeld.size hRt F1.fullV).mono ?_
    rintro e wh44 ⟨rfl, hb⟩
    replace hHeld := hHeld.trans (hb.mono hHeld.size)
    clear hb
    rw [F1.ties]
    go_wp2_with fail
    refine hK.out _ _ hHeld (fun _ => ?_)
    clear hK K
    try simp only [Act.put, List.setIfInBounds_toArray, List.set_cons_zero, List.set_cons_succ]
    refine wpAnyH_take (i := 19) (v := .bool true) (at_op rfl) (by kernel_rfl) (by kernel_rfl) (by kernel_rfl) (fun _ _ _ h => h) (Or.inl ⟨by rfl, ?y45⟩) (by assumption) ?r45
    case y45 =>
      intro wx hSx
      skip
      go_simp
      try simp
    try simp only [Act.put, List.setIfInBounds_toArray, List.set_cons_zero, List.set_cons_succ]
    refine wpAnyH_take (i := 20) (v := ?v46) (at_op rfl) (by kernel_rfl) (by kernel_rfl) (by kernel_rfl) (fun _ _ _ h => h) (Or.inl ⟨by rfl, ?y46⟩) (by assumption) ?r46
    case y46 =>
      intro wx hSx
      go_simp
      try with_reducible rfl
    try simp only [Act.put, List.setIfInBounds_toArray, List.set_cons_zero, List.set_cons_succ]
    refine wpAnyH_take (i := 21) (v := ?v47) (at_op rfl) (by kernel_rfl) (by kernel_rfl) (by kernel_rfl) (fun _ _ _ h => h) (Or.inl ⟨by rfl, ?y47⟩) (by assumption) ?r47
    case y47 =>
      intro wx hSx
      obtain ⟨e0, e1⟩ := two_c (blk hSx hD)
      go_simp
      try with_reducible rfl
    try simp only [Act.put, List.setIfInBounds_toArray, List.set_cons_zero, List.set_cons_succ]
    refine wpAnyH_take (i := 22) (v := ?v48) (at_op rfl) (by kernel_rfl) (by kernel_rfl) (by kernel_rfl) (fun _ _ _ h => h) (Or.inl ⟨by rfl, ?y48⟩) (by assumption) ?r48
    case y48 =>
      intro wx hSx
      obtain ⟨p0, p1, p2, p3, p4⟩ := (PBox.below hX hSx).five
      go_simp
      try with_reducible rfl
    try simp only [Act.put, List.setIfInBounds_toArray, List.set_cons_zero, List.set_cons_succ]
    refine wpAnyH_take (i := 23) (v := ?v49) (at_op rfl) (by kernel_rfl) (by kernel_rfl) (by kernel_rfl) (fun _ _ _ h => h) (Or.inl ⟨by rfl, ?y49⟩) (by assumption) ?r49
    case y49 =>
      intro wx hSx
      go_simp
      try with_reducible rfl
    try simp only [Act.put, List.setIfInBounds_toArray, List.set_cons_zero, List.set_cons_succ]
    refine wpAnyH_take (i := 24) (v := ?v50) (at_op rfl) (by kernel_rfl) (by kernel_rfl) (by kernel_rfl) (fun _ _ _ h => h) (Or.inl ⟨by rfl, ?y50⟩) (by assumption) ?r50
    case y50 =>
      intro wx hSx
      go_simp
      try with_reducible rfl
    try simp only [Act.put, List.setIfInBounds_toArray, List.set_cons_zero, List.set_cons_succ]
    refine wpAnyH_ready (rs := [25]) (by kernel_rfl) (by simp) ?_
    refine AllReadyH.cons (at_op rfl) (fun K hK => ?_) AllReadyH.nil
    go_simp
    have q := costTop_spec x ws ra ca sa ta a3 rc cc sc tc k3 _ _ _ _ n _ (hP.below hHeld (Nat.le_refl _)) hHeld.size (hV3.below hHeld (Nat.le_refl _)) hHeld.size hZ
    rw [← hcw.out] at q
    refine (q).mono ?_
    rintro e wh51 ⟨rfl, hb⟩
    replace hHeld := hHeld.trans (hb.mono hHeld.size)
    clear hb
    go_wp2_with fail
    refine hK.out _ _ hHeld (fun _ => ?_)
    clear hK K
    try simp only [Act.put, List.setIfInBounds_toArray, List.set_cons_zero, List.set_cons_succ]
    refine wpAnyH_ready (rs := [26]) (by kernel_rfl) (by simp) ?_
    refine AllReadyH.cons (at_op rfl) (fun K hK => ?_) AllReadyH.nil
    go_simp
    refine (costLess_spec ⟨Ao, As⟩ cw _).mono ?_
    rintro e wh52 ⟨rfl, hb⟩
    replace hHeld := hHeld.trans (hb.mono hHeld.size)
    clear hb
    rw [F4]
    go_wp2_with fail
    refine hK.out _ _ hHeld (fun _ => ?_)
    clear hK K
    try simp only [Act.put, List.setIfInBounds_toArray, List.set_cons_zero, List.set_cons_succ]
    refine wpAnyH_take (i := 27) (v := ?v53) (at_op rfl) (by kernel_rfl) (by kernel_rfl) (by kernel_rfl) (fun _ _ _ h => h) (Or.inl ⟨by rfl, ?y53⟩) (by assumption) ?r53
    case y53 =>
      intro wx hSx
      go_simp
      try with_reducible rfl
    try simp only [Act.put, List.setIfInBounds_toArray, List.set_cons_zero, List.set_cons_succ]
    refine wpAnyH_take (i := 28) (v := .bool true) (at_op rfl) (by kernel_rfl) (by kernel_rfl) (by kernel_rfl) (fun _ _ _ h => h) (Or.inl ⟨by rfl, ?y54⟩) (by assumption) ?r54
    case y54 =>
      intro wx hSx
      skip
      go_simp
      try simp
    try simp only [Act.put, List.setIfInBounds_toArray, List.set_cons_zero, List.set_cons_succ]
    refine wpAnyH_take (i := 29) (v := ?v55) (at_op rfl) (by kernel_rfl) (by kernel_rfl) (by kernel_rfl) (fun _ _ _ h => h) (Or.inl ⟨by rfl, ?y55⟩) (by assumption) ?r55
    case y55 =>
      intro wx hSx
      go_simp
      try with_reducible rfl
    try simp only [Act.put, List.setIfInBounds_toArray, List.set_cons_zero, List.set_cons_succ]
    rcases F3 with hst | ⟨hst, hB3⟩
    · subst hst
      refine wpAnyH_take (i := 30) (v := ?v56) (at_op rfl) (by kernel_rfl) (by kernel_rfl) (by kernel_rfl) (fun _ _ _ h => h) (Or.inl ⟨by rfl, ?y56⟩) (by assumption) ?r56
      case y56 =>
        intro wx hSx
        go_simp
        try with_reducible rfl
      try simp only [Act.put, List.setIfInBounds_toArray, List.set_cons_zero, List.set_cons_succ]
      refine wpAnyH_take (i := 31) (v := .bool true) (at_op rfl) (by kernel_rfl) (by kernel_rfl) (by kernel_rfl) (fun _ _ _ h => h) (Or.inl ⟨by rfl, ?y57⟩) (by assumption) ?r57
      case y57 =>
        intro wx hSx
        skip
        go_simp
        try simp
      try simp only [Act.put, List.setIfInBounds_toArray, List.set_cons_zero, List.set_cons_succ]
      refine wpAnyH_take (i := 32) (v := ?v58) (at_op rfl) (by kernel_rfl) (by kernel_rfl) (by kernel_rfl) (fun _ _ _ h => h) (Or.inl ⟨by rfl, ?y58⟩) (by assumption) ?r58
      case y58 =>
        intro wx hSx
        go_simp
        try with_reducible rfl
      try simp only [Act.put, List.setIfInBounds_toArray, List.set_cons_zero, List.set_cons_succ]
      refine wpAnyH_take (i := 33) (v := undef) (at_op rfl) (by kernel_rfl) (by kernel_rfl) (by kernel_rfl) (fun _ _ _ h => h) (Or.inr ⟨by rfl, rfl⟩) (by assumption) ?_
      try simp only [Act.put, List.setIfInBounds_toArray, List.set_cons_zero, List.set_cons_succ]
      refine wpAnyH_take (i := 34) (v := undef) (at_op rfl) (by kernel_rfl) (by kernel_rfl) (by kernel_rfl) (fun _ _ _ h => h) (Or.inr ⟨by rfl, rfl⟩) (by assumption) ?_
      try simp only [Act.put, List.setIfInBounds_toArray, List.set_cons_zero, List.set_cons_succ]
      refine wpAnyH_take (i := 35) (v := undef) (at_op rfl) (by kernel_rfl) (by kernel_rfl) (by kernel_rfl) (fun _ _ _ h => h) (Or.inr ⟨by rfl, rfl⟩) (by assumption) ?_
      try simp only [Act.put, List.setIfInBounds_toArray, List.set_cons_zero, List.set_cons_succ]
      refine wpAnyH_take (i := 36) (v := .bool true) (at_op rfl) (by kernel_rfl) (by kernel_rfl) (by kernel_rfl) (fun _ _ _ h => h) (Or.inl ⟨by rfl, ?y59⟩) (by assumption) ?r59
      case y59 =>
        intro wx hSx
        skip
        go_simp
        try simp
      try simp only [Act.put, List.setIfInBounds_toArray, List.set_cons_zero, List.set_cons_succ]
      refine wpAnyH_take (i := 37) (v := .bool true) (at_op rfl) (by kernel_rfl) (by kernel_rfl) (by kernel_rfl) (fun _ _ _ h => h) (Or.inl ⟨by rfl, ?y60⟩) (by assumption) ?r60
      case y60 =>
        intro wx hSx
        skip
        go_simp
        try simp
      try simp only [Act.put, List.setIfInBounds_toArray, List.set_cons_zero, List.set_cons_succ]
      refine wpAnyH_take (i := 38) (v := ?v61) (at_op rfl) (by kernel_rfl) (by kernel_rfl) (by kernel_rfl) (fun _ _ _ h => h) (Or.inl ⟨by rfl, ?y61⟩) (by assumption) ?r61
      case y61 =>
        intro wx hSx
        go_simp
        try with_reducible rfl
      try simp only [Act.put, List.setIfInBounds_toArray, List.set_cons_zero, List.set_cons_succ]
      refine wpAnyH_take (i := 39) (v := ?v62) (at_op rfl) (by kernel_rfl) (by kernel_rfl) (by kernel_rfl) (fun _ _ _ h => h) (Or.inl ⟨by rfl, ?y62⟩) (by assumption) ?r62
      case y62 =>
        intro wx hSx
        go_simp
        try with_reducible rfl
      try simp only [Act.put, List.setIfInBounds_toArray, List.set_cons_zero, List.set_cons_succ]
      refine wpAnyH_take (i := 40) (v := ?v63) (at_op rfl) (by kernel_rfl) (by kernel_rfl) (by kernel_rfl) (fun _ _ _ h => h) (Or.inl ⟨by rfl, ?y63⟩) (by assumption) ?r63
      case y63 =>
        intro wx hSx
        go_simp
        try with_reducible rfl
      try simp only [Act.put, List.setIfInBounds_toArray, List.set_cons_zero, List.set_cons_succ]
      refine wpAnyH_take (i := 41) (v := .bool true) (at_op rfl) (by kernel_rfl) (by kernel_rfl) (by kernel_rfl) (fun _ _ _ h => h) (Or.inl ⟨by rfl, ?y64⟩) (by assumption) ?r64
      case y64 =>
        intro wx hSx
        skip
        go_simp
        try simp
      try simp only [Act.put, List.setIfInBounds_toArray, List.set_cons_zero, List.set_cons_succ]
      refine wpAnyH_take (i := 42) (v := .bool true) (at_op rfl) (by kernel_rfl) (by kernel_rfl) (by kernel_rfl) (fun _ _ _ h => h) (Or.inl ⟨by rfl, ?y65⟩) (by assumption) ?r65
      case y65 =>
        intro wx hSx
        skip
        go_simp
        try simp
      try simp only [Act.put, List.setIfInBounds_toArray, List.set_cons_zero, List.set_cons_succ]
      refine wpAnyH_take (i := 43) (v := ?v66) (at_op rfl) (by kernel_rfl) (by kernel_rfl) (by kernel_rfl) (fun _ _ _ h => h) (Or.inl ⟨by rfl, ?y66⟩) (by assumption) ?r66
      case y66 =>
        intro wx hSx
        go_simp
        try with_reducible rfl
      try simp only [Act.put, List.setIfInBounds_toArray, List.set_cons_zero, List.set_cons_succ]
      refine wpAnyH_take (i := 44) (v := ?v67) (at_op rfl) (by kernel_rfl) (by kernel_rfl) (by kernel_rfl) (fun _ _ _ h => h) (Or.inl ⟨by rfl, ?y67⟩) (by assumption) ?r67
      case y67 =>
        intro wx hSx
        go_simp
        try with_reducible rfl
      try simp only [Act.put, List.setIfInBounds_toArray, List.set_cons_zero, List.set_cons_succ]
      refine wpAnyH_take (i := 45) (v := ?v68) (at_op rfl) (by kernel_rfl) (by kernel_rfl) (by kernel_rfl) (fun _ _ _ h => h) (Or.inl ⟨by rfl, ?y68⟩) (by assumption) ?r68
      case y68 =>
        intro wx hSx
        go_simp
        try with_reducible rfl
      try simp only [Act.put, List.setIfInBounds_toArray, List.set_cons_zero, List.set_cons_succ]
      refine wpAnyH_ready (rs := [46]) (by kernel_rfl) (by simp) ?_
      refine AllReadyH.cons (at_op rfl) (fun K hK => ?_) AllReadyH.nil
      go_simp
      refine (sameIn_any yb _ _ _ _ _ _ _ (hV5.below hHeld (Nat.le_refl _)) hHeld.size (hV6.below hHeld (Nat.le_refl _)) hHeld.size).mono ?_
      rintro e wh69 ⟨rfl, hb⟩
      replace hHeld := hHeld.trans (hb.mono hHeld.size)
      clear hb
      go_wp2_with fail
      refine hK.out _ _ hHeld (fun _ => ?_)
      clear hK K
      try simp only [Act.put, List.setIfInBounds_toArray, List.set_cons_zero, List.set_cons_succ]
      refine wpAnyH_take (i := 47) (v := .bool true) (at_op rfl) (by kernel_rfl) (by kernel_rfl) (by kernel_rfl) (fun _ _ _ h => h) (Or.inl ⟨by rfl, ?y70⟩) (by assumption) ?r70
      case y70 =>
        intro wx hSx
        skip
        go_simp
        try simp
      try simp only [Act.put, List.setIfInBounds_toArray, List.set_cons_zero, List.set_cons_succ]
      refine wpAnyH_take (i := 48) (v := ?v71) (at_op rfl) (by kernel_rfl) (by kernel_rfl) (by kernel_rfl) (fun _ _ _ h => h) (Or.inl ⟨by rfl, ?y71⟩) (by assumption) ?r71
      case y71 =>
        intro wx hSx
        go_simp
        try with_reducible rfl
      try simp only [Act.put, List.setIfInBounds_toArray, List.set_cons_zero, List.set_cons_succ]
      refine wpAnyH_done (by kernel_rfl) ?_ _
      go_wp2
      go_ret
      exact ⟨rfl, HB.trans (hHeld.mono HB.size)⟩
    · have hwb : Hid (ws = b) := IsBest.one hB3 hIB
      subst hst
      have hV7 := rd_alike hV3 hwb.out
      refine wpAnyH_take (i := 30) (v := ?v72) (at_op rfl) (by kernel_rfl) (by kernel_rfl) (by kernel_rfl) (fun _ _ _ h => h) (Or.inl ⟨by rfl, ?y72⟩) (by assumption) ?r72
      case y72 =>
        intro wx hSx
        go_simp
        try with_reducible rfl
      try simp only [Act.put, List.setIfInBounds_toArray, List.set_cons_zero, List.set_cons_succ]
      refine wpAnyH_take (i := 31) (v := .bool false) (at_op rfl) (by kernel_rfl) (by kernel_rfl) (by kernel_rfl) (fun _ _ _ h => h) (Or.inl ⟨by rfl, ?y73⟩) (by assumption) ?r73
      case y73 =>
        intro wx hSx
        skip
        go_simp
        try simp
      try simp only [Act.put, List.setIfInBounds_toArray, List.set_cons_zero, List.set_cons_succ]
      refine wpAnyH_take (i := 32) (v := ?v74) (at_op rfl) (by kernel_rfl) (by kernel_rfl) (by kernel_rfl) (fun _ _ _ h => h) (Or.inl ⟨by rfl, ?y74⟩) (by assumption) ?r74
      case y74 =>
        intro wx hSx
        go_simp
        try with_reducible rfl
      try simp only [Act.put, List.setIfInBounds_toArray, List.set_cons_zero, List.set_cons_succ]
      refine wpAnyH_take (i := 33) (v := ?v75) (at_op rfl) (by kernel_rfl) (by kernel_rfl) (by kernel_rfl) (fun _ _ _ h => h) (Or.inl ⟨by rfl, ?y75⟩) (by assumption) ?r75
      case y75 =>
        intro wx hSx
        go_simp
        try with_reducible rfl
      try simp only [Act.put, List.setIfInBounds_toArray, List.set_cons_zero, List.set_cons_succ]
      refine wpAnyH_take (i := 34) (v := ?v76) (at_op rfl) (by kernel_rfl) (by kernel_rfl) (by kernel_rfl) (fun _ _ _ h => h) (Or.inl ⟨by rfl, ?y76⟩) (by assumption) ?r76
      case y76 =>
        intro wx hSx
        go_simp
        try with_reducible rfl
      try simp only [Act.put, List.setIfInBounds_toArray, List.set_cons_zero, List.set_cons_succ]
      refine wpAnyH_ready (rs := [35]) (by kernel_rfl) (by simp) ?_
      refine AllReadyH.cons (at_op rfl) (fun K hK => ?_) AllReadyH.nil
      go_simp
      refine (sameIn_any b _ _ _ _ _ _ _ (hV7.below hHeld (Nat.le_refl _)) hHeld.size (hV2.below hHeld (Nat.le_refl _)) hHeld.size).mono ?_
      rintro e wh77 ⟨rfl, hb⟩
      replace hHeld := hHeld.trans (hb.mono hHeld.size)
      clear hb
      go_wp2_with fail
      refine hK.out _ _ hHeld (fun _ => ?_)
      clear hK K
      try simp only [Act.put, List.setIfInBounds_toArray, List.set_cons_zero, List.set_cons_succ]
      refine wpAnyH_take (i := 36) (v := .bool true) (at_op rfl) (by kernel_rfl) (by kernel_rfl) (by kernel_rfl) (fun _ _ _ h => h) (Or.inl ⟨by rfl, ?y78⟩) (by assumption) ?r78
      case y78 =>
        intro wx hSx
        skip
        go_simp
        try simp
      try simp only [Act.put, List.setIfInBounds_toArray, List.set_cons_zero, List.set_cons_succ]
      refine wpAnyH_take (i := 37) (v := .bool true) (at_op rfl) (by kernel_rfl) (by kernel_rfl) (by kernel_rfl) (fun _ _ _ h => h) (Or.inl ⟨by rfl, ?y79⟩) (by assumption) ?r79
      case y79 =>
        intro wx hSx
        skip
        go_simp
        try simp
      try simp only [Act.put, List.setIfInBounds_toArray, List.set_cons_zero, List.set_cons_succ]
      refine wpAnyH_take (i := 38) (v := ?v80) (at_op rfl) (by kernel_rfl) (by kernel_rfl) (by kernel_rfl) (fun _ _ _ h => h) (Or.inl ⟨by rfl, ?y80⟩) (by assumption) ?r80
      case y80 =>
        intro wx hSx
        go_simp
        try with_reducible rfl
      try simp only [Act.put, List.setIfInBounds_toArray, List.set_cons_zero, List.set_cons_succ]
      refine wpAnyH_take (i := 39) (v := ?v81) (at_op rfl) (by kernel_rfl) (by kernel_rfl) (by kernel_rfl) (fun _ _ _ h => h) (Or.inl ⟨by rfl, ?y81⟩) (by assumption) ?r81
      case y81 =>
        intro wx hSx
        go_simp
        try with_reducible rfl
      try simp only [Act.put, List.setIfInBounds_toArray, List.set_cons_zero, List.set_cons_succ]
      refine wpAnyH_take (i := 40) (v := ?v82) (at_op rfl) (by kernel_rfl) (by kernel_rfl) (by kernel_rfl) (fun _ _ _ h => h) (Or.inl ⟨by rfl, ?y82⟩) (by assumption) ?r82
      case y82 =>
        intro wx hSx
        go_simp
        try with_reducible rfl
      try simp only [Act.put, List.setIfInBounds_toArray, List.set_cons_zero, List.set_cons_succ]
      refine wpAnyH_take (i := 41) (v := .bool true) (at_op rfl) (by kernel_rfl) (by kernel_rfl) (by kernel_rfl) (fun _ _ _ h => h) (Or.inl ⟨by rfl, ?y83⟩) (by assumption) ?r83
      case y83 =>
        intro wx hSx
        skip
        go_simp
        try simp
      try simp only [Act.put, List.setIfInBounds_toArray, List.set_cons_zero, List.set_cons_succ]
      refine wpAnyH_take (i := 42) (v := .bool true) (at_op rfl) (by kernel_rfl) (by kernel_rfl) (by kernel_rfl) (fun _ _ _ h => h) (Or.inl ⟨by rfl, ?y84⟩) (by assumption) ?r84
      case y84 =>
        intro wx hSx
        skip
        go_simp
        try simp
      try simp only [Act.put, List.setIfInBounds_toArray, List.set_cons_zero, List.set_cons_succ]
      refine wpAnyH_take (i := 43) (v := ?v85) (at_op rfl) (by kernel_rfl) (by kernel_rfl) (by kernel_rfl) (fun _ _ _ h => h) (Or.inl ⟨by rfl, ?y85⟩) (by assumption) ?r85
      case y85 =>
        intro wx hSx
        go_simp
        try with_reducible rfl
      try simp only [Act.put, List.setIfInBounds_toArray, List.set_cons_zero, List.set_cons_succ]
      refine wpAnyH_take (i := 44) (v := ?v86) (at_op rfl) (by kernel_rfl) (by kernel_rfl) (by kernel_rfl) (fun _ _ _ h => h) (Or.inl ⟨by rfl, ?y86⟩) (by assumption) ?r86
      case y86 =>
        intro wx hSx
        go_simp
        try with_reducible rfl
      try simp only [Act.put, List.setIfInBounds_toArray, List.set_cons_zero, List.set_cons_succ]
      refine wpAnyH_take (i := 45) (v := ?v87) (at_op rfl) (by kernel_rfl) (by kernel_rfl) (by kernel_rfl) (fun _ _ _ h => h) (Or.inl ⟨by rfl, ?y87⟩) (by assumption) ?r87
      case y87 =>
        intro wx hSx
        go_simp
        try with_reducible rfl
      try simp only [Act.put, List.setIfInBounds_toArray, List.set_cons_zero, List.set_cons_succ]
      refine wpAnyH_ready (rs := [46]) (by kernel_rfl) (by simp) ?_
      refine AllReadyH.cons (at_op rfl) (fun K hK => ?_) AllReadyH.nil
      go_simp
      refine (sameIn_any yb _ _ _ _ _ _ _ (hV5.below hHeld (Nat.le_refl _)) hHeld.size (hV6.below hHeld (Nat.le_refl _)) hHeld.size).mono ?_
      rintro e wh88 ⟨rfl, hb⟩
      replace hHeld := hHeld.trans (hb.mono hHeld.size)
      clear hb
      go_wp2_with fail
      refine hK.out _ _ hHeld (fun _ => ?_)
      clear hK K
      try simp only [Act.put, List.setIfInBounds_toArray, List.set_cons_zero, List.set_cons_succ]
      refine wpAnyH_take (i := 47) (v := .bool true) (at_op rfl) (by kernel_rfl) (by kernel_rfl) (by kernel_rfl) (fun _ _ _ h => h) (Or.inl ⟨by rfl, ?y89⟩) (by assumption) ?r89
      case y89 =>
        intro wx hSx
        skip
        go_simp
        try simp
      try simp only [Act.put, List.setIfInBounds_toArray, List.set_cons_zero, List.set_cons_succ]
      refine wpAnyH_take (i := 48) (v := ?v90) (at_op rfl) (by kernel_rfl) (by kernel_rfl) (by kernel_rfl) (fun _ _ _ h => h) (Or.inl ⟨by rfl, ?y90⟩) (by assumption) ?r90
      case y90 =>
        intro wx hSx
        go_simp
        try with_reducible rfl
      try simp only [Act.put, List.setIfInBounds_toArray, List.set_cons_zero, List.set_cons_succ]
      refine wpAnyH_done (by kernel_rfl) ?_ _
      go_wp2
      go_ret
      exact ⟨rfl, HB.trans (hHeld.mono HB.size)⟩
end Go.Proofs.Ytllpgomloblfjaa
namespace Go.Proofs.Ytllpgomloblfjaa
open Go.ChangeShapes Go.WideShapes Go.ChangeAt Go.RowKit
open Go.ChangeMaps (open_string shut_string)

theorem Try.cellsByte : Try.prog.cellsOf 5 = 1 := by kernel_rfl
theorem opens_byte {P : Program} {t : TypeId} (h : P.underlying t = some (.int .u8)) : Opens P bytF.shape t U8 := by
  intro H enc w base spare held fuel cs x hx
  obtain ⟨n, rfl, _, hw⟩ := DataW.trod_int h hx
  refine ⟨n, rfl, ?_⟩
  simp [Lit.wf, IntKind.min, IntKind.max, IntKind.signed, IntKind.bits] at hw
  unfold U8; omega
set_option maxRecDepth 100000 in
theorem fnSearches_lifted (os : Os) (started : os.Started) (H : Type) (enc : TypeId × Value → H) :
    ReturnsInHanded {} Try.checked os 3 .any (Rows.fnSearchesSpec.pre6 enc Try.prog Try.f3 Rows.fnSearchesRow.domain false) (Rows.fnSearchesSpec.post enc Try.prog Try.f3 false true false false) := by
  refine returnsInHanded_of_change (C := Try.checked) Try.own started (by kernel_rfl) Try.func3
    (ChangeSpec.witness6 (enc := enc) (C := Try.checked) false ⟨#[], #[.slice none 0 0], []⟩ 8 (by kernel_rfl) (by kernel_rfl) (by kernel_rfl) (by kernel_rfl)) ?_
  intro W base args ds gs before hval0 hW _ _
  have hval : ∀ (j : Nat) t v, Try.f3.params[j]? = some t → args[j]? = some v → Value.okWide Try.prog W .any base t v := hval0
  have hW' := hW
  obtain ⟨p, q, hA0, hV, rfl, hfz, hnd⟩ := hW
  have hA : DataW.TrodAll enc Try.prog W 0 (fun _ => true) true Try.f3.params.toList args.toList ds p := hA0
  rw [Try.params3] at hA hval
  obtain ⟨v0, vs0, d0, ds0, p0, q0, hargs, rfl, rfl, h0, r0⟩ := trodAll_cons hA
  obtain ⟨rfl, rfl, rfl⟩ := trodAll_nil r0
  obtain rfl : args = #[v0] := by cases args; simp_all
  obtain ⟨rfl, rfl⟩ := trodVars_none hV
  obtain ⟨xs0, hr0, hk0⟩ := open_sl Try.underlying22 (opens_sl Try.underlying22 Try.cellsByte (by decide) (opens_byte Try.underlying5)) (hval 0 22 v0 rfl rfl) h0
  refine (lawSearches_any xs0 _ W hr0 hk0).mono fun e W' ⟨he, hb⟩ => ?_
  subst he
  exact ⟨_, rfl, law_post Try.laidOut (by intro t ht; rw [Try.params3] at ht; simp at ht; subst ht; exact ⟨by kernel_rfl, of_decide_eq_true (by kernel_rfl)⟩) hW' rfl rfl Try.underlying4 rfl rfl rfl hb⟩

theorem fnSearches_holds : Rows.FnSearchesSaid :=
  OpenClaim.holds_of_wide 3 Try.f3 rfl rfl rfl rfl rfl rfl rfl ⟨rfl, rfl, rfl, rfl, rfl⟩ rfl rfl rfl rfl rfl (by kernel_rfl) Try.func3 (by kernel_rfl)
    (of_decide_eq_true (by kernel_rfl)) (by unfold Func.isWrapper; rw [if_neg (of_decide_eq_false (by kernel_rfl))]; exact ⟨rfl, rfl⟩)
    (fun os started H enc _ => fnSearches_lifted os started H enc)
#print axioms fnSearches_holds

end Go.Proofs.Ytllpgomloblfjaa
