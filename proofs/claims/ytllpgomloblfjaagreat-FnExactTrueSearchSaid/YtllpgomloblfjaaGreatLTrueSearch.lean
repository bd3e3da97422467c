/- FnExactTrueSearch: for every piece, every width and every budget the program tells whether a search is true as the reference does, and the piece reads as it did. No condition. -/
import Derived.Test.YtllpgomloblfjaaGreatTrueS
import Derived.Test.YtllpgomloblfjaaGreatHPieceB
import Derived.Test.YtllpgomloblfjaaGreatHInt
import Derived.Test.YtllpgomloblfjaaGreatHeld
namespace Go.Proofs.YtllpgomloblfjaaGreat
open Go.ChangeShapes Go.WideShapes Go.ChangeAt Go.RowKit
open Go.ChangeMaps (open_string shut_string)

set_option maxHeartbeats 4000000 in
set_option maxRecDepth 100000 in
theorem lawTrueSearch_any (x : Piece) (ra ca sa ta : Option Addr) (rc cc sc tc : Nat) (a1 : Int) (a2 : Int) (w : World) (hp : PFour x ra rc ca cc sa sc ta tc 0 w.heap.size w) (hok : x.Ok) (_hk1 : I64 a1) (_hk2 : I64 a2) :
    Calls Tryz.prog 4 #[x.v ra rc ca cc sa sc ta tc, .int .i64 a1, .int .i64 a2] w fun e w' => e = .returned (.bool true) ∧ Below w.heap.size w w' := by
  unfold Piece.v
  go_enter Tryz.func4, Tryz.ntmps4
  go_wp2_with fail
  have rA0 := heap_alloc_new w (.cells #[.int .i64 x.indent, .slice ra x.rules.length rc, .slice ca x.chunks.length cc, .slice sa x.spans.length sc, .slice ta x.ties.length tc] 27)
  have HB0 : Below w.heap.size w (w.alloc (.cells #[.int .i64 x.indent, .slice ra x.rules.length rc, .slice ca x.chunks.length cc, .slice sa x.spans.length sc, .slice ta x.ties.length tc] 27)) := (Below.refl _ _).alloc (Nat.le_refl _) _
  generalize w.alloc (.cells #[.int .i64 x.indent, .slice ra x.rules.length rc, .slice ca x.chunks.length cc, .slice sa x.spans.length sc, .slice ta x.ties.length tc] 27) = w0 at *
  have s0 := HB0.size
  obtain ⟨p0, p1, p2, p3, p4⟩ := five rA0
  go_wp2_with fail
  clear p0 p1 p2 p3 p4
  refine (szPiece_any x ra ca sa ta rc cc sc tc 0 w.heap.size _ _ (hp.below HB0 (Nat.le_refl _)) HB0.size (by omega) (by omega) (fun c hc => (hok.2.2.1 c hc).1)).mono ?_
  rintro e w1 ⟨rfl, kb⟩
  have HB1 := HB0.trans (kb.mono HB0.size)
  have s1 := HB1.size
  have t1 := kb.size
  have rA1 := blk kb rA0
  clear HB0 rA0
  by_cases hz : szR 1048576 x.wt < 0
  · go_wp2
    go_ret
    exact ⟨rfl, HB1⟩
  have hn := szR_nneg hz
  have hwl : x.rules.length ≤ 1048576 ∧ x.chunks.length ≤ 1048576 ∧ x.spans.length ≤ 1048576 ∧ x.ties.length ≤ 1048576 := by
    have := Chunk.wts_ge x.chunks
    unfold Piece.wt at hn
    omega
  obtain ⟨m1, m2, m3, m4⟩ := hwl
  have hy := Lib.hid (szR_yes hn)
  rw [← hy.out] at hz ⊢
  obtain ⟨p0, p1, p2, p3, p4⟩ := five rA1
  go_wp2_with fail
  clear p0 p1 p2 p3 p4
  refine (toPiece_any x ra ca sa ta rc cc sc tc 0 w.heap.size _ (hp.below HB1 (Nat.le_refl _)) HB1.size m1 m2 m3 m4).mono ?_
  rintro e w2 ⟨raq, rcq, caq, ccq, saq, scq, taq, tcq, rfl, kb, hq⟩
  unfold Piece.v
  have HB2 := HB1.trans (kb.mono HB1.size)
  have s2 := HB2.size
  have t2 := kb.size
  have rA2 := blk kb rA1
  clear HB1 rA1
  have Fq := hq.wide (Nat.zero_le _) (Nat.le_refl _)
  clear hq
  go_wp2_with fail
  refine (trueSearch_spec x _ _ _ _ _ _ _ _ _ _ a1 a2 _ Fq (Nat.le_refl _) (sized_wt (by omega))).mono ?_
  rintro e w3 ⟨rfl, kb⟩
  have HB3 := HB2.trans (kb.mono HB2.size)
  have s3 := HB3.size
  have t3 := kb.size
  have rA3 := blk kb rA2
  replace Fq := (Fq.below kb (Nat.le_refl _)).wide (Nat.le_refl _) kb.size
  clear HB2 rA2
  clear Fq
  obtain ⟨p0, p1, p2, p3, p4⟩ := five rA3
  go_wp2_with fail
  clear p0 p1 p2 p3 p4
  refine (toPiece_any x ra ca sa ta rc cc sc tc 0 w.heap.size _ (hp.below HB3 (Nat.le_refl _)) HB3.size m1 m2 m3 m4).mono ?_
  rintro e w4 ⟨ray, rcy, cay, ccy, say, scy, tay, tcy, rfl, kb, hy⟩
  unfold Piece.v
  have HB4 := HB3.trans (kb.mono HB3.size)
  have s4 := HB4.size
  have t4 := kb.size
  have rA4 := blk kb rA3
  clear HB3 rA3
  have Fy := hy.wide (Nat.zero_le _) (Nat.le_refl _)
  clear hy
  go_wp2_with fail
  have kb : Below w4.heap.size w4 (w4.alloc (.cells #[.int .i64 x.indent, .slice ray x.rules.length rcy, .slice cay x.chunks.length ccy, .slice say x.spans.length scy, .slice tay x.ties.length tcy] 38)) := (Below.refl _ _).alloc (Nat.le_refl _) _
  have rX5 := heap_alloc_new w4 (.cells #[.int .i64 x.indent, .slice ray x.rules.length rcy, .slice cay x.chunks.length ccy, .slice say x.spans.length scy, .slice tay x.ties.length tcy] 38)
  generalize w4.alloc (.cells #[.int .i64 x.indent, .slice ray x.rules.length rcy, .slice cay x.chunks.length ccy, .slice say x.spans.length scy, .slice tay x.ties.length tcy] 38) = w5 at *
  have HB5 := HB4.trans (kb.mono HB4.size)
  have s5 := HB5.size
  have t5 := kb.size
  have rA5 := blk kb rA4
  replace Fy := (Fy.below kb (Nat.le_refl _)).wide (Nat.le_refl _) kb.size
  clear HB4 rA4
  obtain ⟨p0, p1, p2, p3, p4⟩ := five rX5
  go_wp2_with fail
  clear p0 p1 p2 p3 p4
  refine (trueSearch_impl x _ _ _ _ _ _ _ _ _ _ a1 a2 _ Fy (Nat.le_refl _) (sized_wt (by omega))).mono ?_
  rintro e w6 ⟨rfl, kb⟩
  have HB6 := HB5.trans (kb.mono HB5.size)
  have s6 := HB6.size
  have t6 := kb.size
  have rA6 := blk kb rA5
  have rX6 := blk kb rX5
  replace Fy := (Fy.below kb (Nat.le_refl _)).wide (Nat.le_refl _) kb.size
  clear HB5 rA5 rX5
  go_wp2_with fail
  refine wp_region_held_drew (S := fun w' => w'.heap[w.heap.size]? = some (.cells #[.int .i64 x.indent, .slice ra x.rules.length rc, .slice ca x.chunks.length cc, .slice sa x.spans.length sc, .slice ta x.ties.length tc] 27) ∧ w'.heap[w4.heap.size]? = some (.cells #[.int .i64 x.indent, .slice ray x.rules.length rcy, .slice cay x.chunks.length ccy, .slice say x.spans.length scy, .slice tay x.ties.length tcy] 38) ∧ Below w6.heap.size w6 w') (by kernel_rfl) ?_ (fun hHeld => ?_)
  · exact ⟨rA6, rX6, (Below.refl _ _).drew⟩
  refine wpAnyH_take (i := 0) (v := ?v1) (at_op rfl) (by kernel_rfl) (by kernel_rfl) (by kernel_rfl) (fun _ _ _ h => h) (Or.inl ⟨by rfl, ?y1⟩) (by assumption) ?r1
  case y1 =>
    intro wx hSx
    obtain ⟨p0, p1, p2, p3, p4⟩ := five hSx.2.1
    go_simp
    try with_reducible rfl
  try simp only [Act.put, List.setIfInBounds_toArray, List.set_cons_zero, List.set_cons_succ]
  refine wpAnyH_take (i := 1) (v := ?v2) (at_op rfl) (by kernel_rfl) (by kernel_rfl) (by kernel_rfl) (fun _ _ _ h => h) (Or.inl ⟨by rfl, ?y2⟩) (by assumption) ?r2
  case y2 =>
    intro wx hSx
    obtain ⟨p0, p1, p2, p3, p4⟩ := five hSx.1
    go_simp
    try with_reducible rfl
  try simp only [Act.put, List.setIfInBounds_toArray, List.set_cons_zero, List.set_cons_succ]
  refine wpAnyH_ready (rs := [2]) (by kernel_rfl) (by simp) ?_
  refine AllReadyH.cons (at_op rfl) (fun K hK => ?_) AllReadyH.nil
  go_simp
  refine (toPiece_any x ra ca sa ta rc cc sc tc 0 w.heap.size _ ((hp.below HB6 (Nat.le_refl _)).below hHeld.2.2 HB6.size) (Nat.le_trans HB6.size hHeld.2.2.size) m1 m2 m3 m4).mono ?_
  rintro e wc ⟨rah, rch, cah, cch, sah, sch, tah, tch, rfl, kc, hc⟩
  unfold Piece.v
  go_wp2_with fail
  have hS1 := hHeld
  have hS2 : wc.heap[w.heap.size]? = some (.cells #[.int .i64 x.indent, .slice ra x.rules.length rc, .slice ca x.chunks.length cc, .slice sa x.spans.length sc, .slice ta x.ties.length tc] 27) ∧ wc.heap[w4.heap.size]? = some (.cells #[.int .i64 x.indent, .slice ray x.rules.length rcy, .slice cay x.chunks.length ccy, .slice say x.spans.length scy, .slice tay x.ties.length tcy] 38) ∧ Below w6.heap.size w6 wc := ⟨blk kc hS1.1, blk kc hS1.2.1, hS1.2.2.trans (kc.mono hS1.2.2.size)⟩
  refine hK.out _ _ hS2 (fun _ => ?_)
  clear hK K
  try simp only [Act.put, List.setIfInBounds_toArray, List.set_cons_zero, List.set_cons_succ]
  refine wpAnyH_ready (rs := [3]) (by kernel_rfl) (by simp) ?_
  refine AllReadyH.cons (at_op rfl) (fun K hK => ?_) AllReadyH.nil
  go_simp
  refine (eqPiece_any x ray cay say tay rah cah sah tah rcy ccy scy tcy rch cch sch tch 0 w6.heap.size _ _ _ (Fy.below hS2.2.2 (Nat.le_refl _)) hS2.2.2.size hc (Nat.le_refl _)).mono ?_
  rintro e we ⟨rfl, ke⟩
  go_wp2_with fail
  have kb : Below w6.heap.size w6 we := hS2.2.2.trans (ke.mono hS2.2.2.size)
  refine hK.out _ _ ⟨blk ke hS2.1, blk ke hS2.2.1, kb⟩ (fun _ => ?_)
  clear hK K
  try simp only [Act.put, List.setIfInBounds_toArray, List.set_cons_zero, List.set_cons_succ]
  refine wpAnyH_take (i := 4) (v := ?v3) (at_op rfl) (by kernel_rfl) (by kernel_rfl) (by kernel_rfl) (fun _ _ _ h => h) (Or.inl ⟨by rfl, ?y3⟩) (by assumption) ?r3
  case y3 =>
    intro wx hSx
    go_simp
    try with_reducible rfl
  try simp only [Act.put, List.setIfInBounds_toArray, List.set_cons_zero, List.set_cons_succ]
  refine wpAnyH_done (by kernel_rfl) ?_ _
  clear hS2 hS1 hc ke kc
  have w7 := we
  clear w7
  have HBe := HB6.trans (kb.mono HB6.size)
  have se := HBe.size
  have te := kb.size
  clear Fy HB6 rA6 rX6 kb
  go_wp2
  go_ret
  exact ⟨rfl, HBe⟩
end Go.Proofs.YtllpgomloblfjaaGreat
namespace Go.Proofs.YtllpgomloblfjaaGreat
open Go.ChangeShapes Go.WideShapes Go.ChangeAt Go.RowKit
open Go.ChangeMaps (open_string shut_string)


set_option maxRecDepth 100000 in
theorem fnExactTrueSearch_lifted (os : Os) (started : os.Started) (H : Type) (enc : TypeId × Value → H) :
    ReturnsInHanded {} Tryz.checked os 4 .any (Rows.fnExactTrueSearchSpec.pre6 enc Tryz.prog Tryz.f4 Rows.fnExactTrueSearchRow.domain false) (Rows.fnExactTrueSearchSpec.post enc Tryz.prog Tryz.f4 false true false false) := by
  refine returnsInHanded_of_change (C := Tryz.checked) Tryz.own started (by kernel_rfl) Tryz.func4
    (ChangeSpec.witness6 (enc := enc) (C := Tryz.checked) false ⟨#[], #[.agg #[.int .i64 0, .slice none 0 0, .slice none 0 0, .slice none 0 0, .slice none 0 0], .int .i64 0, .int .i64 0], []⟩ 8 (by kernel_rfl) (by kernel_rfl) (by kernel_rfl) (by kernel_rfl)) ?_
  intro W base args ds gs before hval0 hW _ _
  have hval : ∀ (j : Nat) t v, Tryz.f4.params[j]? = some t → args[j]? = some v → Value.okWide Tryz.prog W .any base t v := hval0
  have hW' := hW
  obtain ⟨p, q, hA0, hV, rfl, hfz, hnd⟩ := hW
  have hA : DataW.TrodAll enc Tryz.prog W 0 (fun _ => true) true Tryz.f4.params.toList args.toList ds p := hA0
  rw [Tryz.params4] at hA hval
  obtain ⟨v0, vs0, d0, ds0, p0, q0, hargs, rfl, rfl, h0, r0⟩ := trodAll_cons hA
  obtain ⟨v1, vs1, d1, ds1, p1, q1, rfl, rfl, rfl, h1, r1⟩ := trodAll_cons r0
  obtain ⟨v2, vs2, d2, ds2, p2, q2, rfl, rfl, rfl, h2, r2⟩ := trodAll_cons r1
  obtain ⟨rfl, rfl, rfl⟩ := trodAll_nil r2
  obtain rfl : args = #[v0, v1, v2] := by cases args; simp_all
  obtain ⟨rfl, rfl⟩ := trodVars_none hV
  obtain ⟨x0, cs0, e0, hx0, hok0⟩ := open_st Tryz.underlying27 opens_Piece (hval 0 27 v0 rfl rfl) h0
  obtain ⟨ra, rc, ca, cc, sa, sc, ta, tc, e0', hp⟩ := hx0
  obtain rfl : v0 = x0.v ra rc ca cc sa sc ta tc := by rw [e0, ← e0']
  obtain ⟨a1, rfl, _, _, wa1⟩ := open_int Tryz.underlying3 (hval 1 3 v1 rfl rfl) h1
  obtain ⟨a2, rfl, _, _, wa2⟩ := open_int Tryz.underlying3 (hval 2 3 v2 rfl rfl) h2
  refine (lawTrueSearch_any x0 ra ca sa ta rc cc sc tc a1 a2 W hp hok0 (I64.of_wf wa1) (I64.of_wf wa2)).mono fun e W' ⟨he, hb⟩ => ?_
  subst he
  exact ⟨_, rfl, law_post Tryz.laidOut (by intro t ht; rw [Tryz.params4] at ht; simp at ht; rcases ht with rfl | rfl <;> exact ⟨by kernel_rfl, of_decide_eq_true (by kernel_rfl)⟩) hW' rfl rfl Tryz.underlying4 rfl rfl rfl hb⟩

theorem fnExactTrueSearch_holds : Rows.FnExactTrueSearchSaid :=
  OpenClaim.holds_of_wide 4 Tryz.f4 rfl rfl rfl rfl rfl rfl rfl ⟨rfl, rfl, rfl, rfl, rfl⟩ rfl rfl rfl rfl rfl (by kernel_rfl) Tryz.func4 (by kernel_rfl)
    (of_decide_eq_true (by kernel_rfl)) (by unfold Func.isWrapper; rw [if_neg (of_decide_eq_false (by kernel_rfl))]; exact ⟨rfl, rfl⟩)
    (fun os started H enc _ => fnExactTrueSearch_lifted os started H enc)
#print axioms fnExactTrueSearch_holds

end Go.Proofs.YtllpgomloblfjaaGreat
