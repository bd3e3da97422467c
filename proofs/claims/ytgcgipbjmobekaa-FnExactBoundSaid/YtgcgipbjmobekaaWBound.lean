/- The walk of FnExactBound: the law answers true and leaves the old blocks alone. -/
import Derived.Test.YtgcgipbjmobekaaBoundI
import Derived.Test.YtgcgipbjmobekaaBoundS
import Derived.Test.YtgcgipbjmobekaaHPieceB
import Derived.Test.YtgcgipbjmobekaaHInt
import Derived.Test.YtgcgipbjmobekaaHeld
namespace Go.Proofs.Ytgcgipbjmobekaa
open Go.ChangeShapes Go.WideShapes Go.ChangeAt Go.RowKit
open Go.ChangeMaps (open_string shut_string)

set_option maxHeartbeats 4000000 in
set_option maxRecDepth 100000 in
theorem lawBound_any (x : Piece) (ra ca sa ta : Option Addr) (rc cc sc tc : Nat) (vals1 : List Int) (v1 : Value) (w : World) (hp : PFour x ra rc ca cc sa sc ta tc 0 w.heap.size w) (hok : x.Ok) (hv1 : Rd intF.shape 0 w.heap.size w v1 vals1) :
    Calls Try.prog 8 #[x.v ra rc ca cc sa sc ta tc, v1] w fun e w' => e = .returned (.bool true) ∧ Below w.heap.size w w' := by
  have hvl1 := hv1.len_le
  obtain ⟨a1, c1, rfl, _⟩ := id hv1
  by_cases hq1 : 1048576 < vals1.length
  · have hqi : (1048576 : Int) < (vals1.length : Int) := by omega
    unfold Piece.v
    go_enter Try.func8, Try.ntmps8
    go_wp2
    go_ret
    exact ⟨rfl, (Below.refl _ _).alloc (Nat.le_refl _) _⟩
  have hl1 : vals1.length ≤ 1048576 := by omega
  have hqi1 : ¬ (1048576 : Int) < (vals1.length : Int) := by omega
  unfold Piece.v
  go_enter Try.func8, Try.ntmps8
  go_wp2_with fail
  have rA0 := heap_alloc_new w (.cells #[.int .i64 x.indent, .slice ra x.rules.length rc, .slice ca x.chunks.length cc, .slice sa x.spans.length sc, .slice ta x.ties.length tc] 73)
  have HB0 : Below w.heap.size w (w.alloc (.cells #[.int .i64 x.indent, .slice ra x.rules.length rc, .slice ca x.chunks.length cc, .slice sa x.spans.length sc, .slice ta x.ties.length tc] 73)) := (Below.refl _ _).alloc (Nat.le_refl _) _
  generalize w.alloc (.cells #[.int .i64 x.indent, .slice ra x.rules.length rc, .slice ca x.chunks.length cc, .slice sa x.spans.length sc, .slice ta x.ties.length tc] 73) = w0 at *
  have s0 := HB0.size
  obtain ⟨p0, p1, p2, p3, p4⟩ := five rA0
  go_wp2_with fail
  clear p0 p1 p2 p3 p4
  refine (szPiece_any x ra ca sa ta rc cc sc tc 0 w.heap.size _ _ (hp.below HB0 (Nat.le_refl _)) HB0.size (by omega) (by omega) (fun c hc => (hok.2.2.1 c hc).1)).mono ?_
  rintro e w1 ⟨rfl, kb⟩
  have HB1 := HB0.trans (kb.mono HB0.size)
  have s1 := HB1.size
  have t1 := kb.size
  have rA1 := blk kb rA0
  clear HB0 rA0
  by_cases hz : szR 1048576 x.wt < 0
  · go_wp2
    go_ret
    exact ⟨rfl, HB1⟩
  have hn := szR_nneg hz
  have hwl : x.rules.length ≤ 1048576 ∧ x.chunks.length ≤ 1048576 ∧ x.spans.length ≤ 1048576 ∧ x.ties.length ≤ 1048576 := by
    have := Chunk.wts_ge x.chunks
    unfold Piece.wt at hn
    omega
  obtain ⟨m1, m2, m3, m4⟩ := hwl
  have hy := Lib.hid (szR_yes hn)
  rw [← hy.out] at hz ⊢
  obtain ⟨p0, p1, p2, p3, p4⟩ := five rA1
  go_wp2_with fail
  clear p0 p1 p2 p3 p4
  refine (toPiece_any x ra ca sa ta rc cc sc tc 0 w.heap.size _ (hp.below HB1 (Nat.le_refl _)) HB1.size m1 m2 m3 m4).mono ?_
  rintro e w2 ⟨raq, rcq, caq, ccq, saq, scq, taq, tcq, rfl, kb, hq⟩
  unfold Piece.v
  have HB2 := HB1.trans (kb.mono HB1.size)
  have s2 := HB2.size
  have t2 := kb.size
  have rA2 := blk kb rA1
  clear HB1 rA1
  have Fq := hq.wide (Nat.zero_le _) (Nat.le_refl _)
  clear hq
  go_wp2_with fail
  refine (toIntS_any vals1 _ 0 w.heap.size _ (hv1.below HB2 (Nat.le_refl _)) HB2.size hl1).mono ?_
  rintro e w3 ⟨uqi1, rfl, kb, hqi1⟩
  obtain ⟨bqi1, dqi1, rfl, _⟩ := hqi1.form
  have HB3 := HB2.trans (kb.mono HB2.size)
  have s3 := HB3.size
  have t3 := kb.size
  have rA3 := blk kb rA2
  replace Fq := (Fq.below kb (Nat.le_refl _)).wide (Nat.le_refl _) kb.size
  clear HB2 rA2
  have Fqi1 : Rd intF.shape 0 w3.heap.size w3 (.slice bqi1 vals1.length dqi1) vals1 := hqi1.rd.wide (Nat.zero_le _) (Nat.le_refl _)
  clear hqi1
  go_wp2_with fail
  refine (bound_spec x vals1 _ _ _ _ _ _ _ _ _ _ _ _ _ _ _ Fq (Nat.le_refl _) Fqi1 (Nat.le_refl _) (fun c hc => (hok.2.2.1 c hc).1)).mono ?_
  rintro e w4 ⟨rfl, kb⟩
  have HB4 := HB3.trans (kb.mono HB3.size)
  have s4 := HB4.size
  have t4 := kb.size
  have rA4 := blk kb rA3
  replace Fq := (Fq.below kb (Nat.le_refl _)).wide (Nat.le_refl _) kb.size
  replace Fqi1 := (Fqi1.below kb (Nat.le_refl _)).wide (Nat.le_refl _) kb.size
  clear HB3 rA3
  clear Fq Fqi1
  obtain ⟨p0, p1, p2, p3, p4⟩ := five rA4
  go_wp2_with fail
  clear p0 p1 p2 p3 p4
  refine (toPiece_any x ra ca sa ta rc cc sc tc 0 w.heap.size _ (hp.below HB4 (Nat.le_refl _)) HB4.size m1 m2 m3 m4).mono ?_
  rintro e w5 ⟨ray, rcy, cay, ccy, say, scy, tay, tcy, rfl, kb, hy⟩
  unfold Piece.v
  have HB5 := HB4.trans (kb.mono HB4.size)
  have s5 := HB5.size
  have t5 := kb.size
  have rA5 := blk kb rA4
  clear HB4 rA4
  have Fy := hy.wide (Nat.zero_le _) (Nat.le_refl _)
  clear hy
  go_wp2_with fail
  have kb : Below w5.heap.size w5 (w5.alloc (.cells #[.int .i64 x.indent, .slice ray x.rules.length rcy, .slice cay x.chunks.length ccy, .slice say x.spans.length scy, .slice tay x.ties.length tcy] 52)) := (Below.refl _ _).alloc (Nat.le_refl _) _
  have rX6 := heap_alloc_new w5 (.cells #[.int .i64 x.indent, .slice ray x.rules.length rcy, .slice cay x.chunks.length ccy, .slice say x.spans.length scy, .slice tay x.ties.length tcy] 52)
  generalize w5.alloc (.cells #[.int .i64 x.indent, .slice ray x.rules.length rcy, .slice cay x.chunks.length ccy, .slice say x.spans.length scy, .slice tay x.ties.length tcy] 52) = w6 at *
  have HB6 := HB5.trans (kb.mono HB5.size)
  have s6 := HB6.size
  have t6 := kb.size
  have rA6 := blk kb rA5
  replace Fy := (Fy.below kb (Nat.le_refl _)).wide (Nat.le_refl _) kb.size
  clear HB5 rA5
  refine (toIntS_any vals1 _ 0 w.heap.size _ (hv1.below HB6 (Nat.le_refl _)) HB6.size hl1).mono ?_
  rintro e w7 ⟨uz1, rfl, kb, hz1⟩
  obtain ⟨bz1, dz1, rfl, _⟩ := hz1.form
  have HB7 := HB6.trans (kb.mono HB6.size)
  have s7 := HB7.size
  have t7 := kb.size
  have rA7 := blk kb rA6
  have rX7 := blk kb rX6
  replace Fy := (Fy.below kb (Nat.le_refl _)).wide (Nat.le_refl _) kb.size
  clear HB6 rA6 rX6
  have Fz1 : Rd intF.shape 0 w7.heap.size w7 (.slice bz1 vals1.length dz1) vals1 := hz1.rd.wide (Nat.zero_le _) (Nat.le_refl _)
  clear hz1
  obtain ⟨p0, p1, p2, p3, p4⟩ := five rX7
  go_wp2_with fail
  clear p0 p1 p2 p3 p4
  refine (bound_top x vals1 _ _ _ _ _ _ _ _ _ _ _ _ _ _ _ Fy (Nat.le_refl _) Fz1 (Nat.le_refl _) (fun c hc => (hok.2.2.1 c hc).1)).mono ?_
  rintro e w8 ⟨rfl, kb⟩
  have HB8 := HB7.trans (kb.mono HB7.size)
  have s8 := HB8.size
  have t8 := kb.size
  have rA8 := blk kb rA7
  have rX8 := blk kb rX7
  replace Fy := (Fy.below kb (Nat.le_refl _)).wide (Nat.le_refl _) kb.size
  replace Fz1 := (Fz1.below kb (Nat.le_refl _)).wide (Nat.le_refl _) kb.size
  clear HB7 rA7 rX7
  go_wp2_with fail
  refine wp_region_held_drew (S := fun w' => w'.heap[w.heap.size]? = some (.cells #[.int .i64 x.indent, .slice ra x.rules.length rc, .slice ca x.chunks.length cc, .slice sa x.spans.length sc, .slice ta x.ties.length tc] 73) ∧ w'.heap[w5.heap.size]? = some (.cells #[.int .i64 x.indent, .slice ray x.rules.length rcy, .slice cay x.chunks.length ccy, .slice say x.spans.length scy, .slice tay x.ties.length tcy] 52) ∧ Below w8.heap.size w8 w') (by kernel_rfl) ?_ (fun hHeld => ?_)
  · exact ⟨rA8, rX8, (Below.refl _ _).drew⟩
  refine wpAnyH_take (i := 0) (v := ?v1) (at_op rfl) (by kernel_rfl) (by kernel_rfl) (by kernel_rfl) (fun _ _ _ h => h) (Or.inl ⟨by rfl, ?y1⟩) (by assumption) ?r1
  case y1 =>
    intro wx hSx
    obtain ⟨p0, p1, p2, p3, p4⟩ := five hSx.2.1
    go_simp
    try with_reducible rfl
  try simp only [Act.put, List.setIfInBounds_toArray, List.set_cons_zero, List.set_cons_succ]
  refine wpAnyH_take (i := 1) (v := ?v2) (at_op rfl) (by kernel_rfl) (by kernel_rfl) (by kernel_rfl) (fun _ _ _ h => h) (Or.inl ⟨by rfl, ?y2⟩) (by assumption) ?r2
  case y2 =>
    intro wx hSx
    obtain ⟨p0, p1, p2, p3, p4⟩ := five hSx.1
    go_simp
    try with_reducible rfl
  try simp only [Act.put, List.setIfInBounds_toArray, List.set_cons_zero, List.set_cons_succ]
  refine wpAnyH_ready (rs := [2]) (by kernel_rfl) (by simp) ?_
  refine AllReadyH.cons (at_op rfl) (fun K hK => ?_) AllReadyH.nil
  go_simp
  refine (toPiece_any x ra ca sa ta rc cc sc tc 0 w.heap.size _ ((hp.below HB8 (Nat.le_refl _)).below hHeld.2.2 HB8.size) (Nat.le_trans HB8.size hHeld.2.2.size) m1 m2 m3 m4).mono ?_
  rintro e wc ⟨rah, rch, cah, cch, sah, sch, tah, tch, rfl, kc, hc⟩
  unfold Piece.v
  go_wp2_with fail
  have hS1 := hHeld
  have hS2 : wc.heap[w.heap.size]? = some (.cells #[.int .i64 x.indent, .slice ra x.rules.length rc, .slice ca x.chunks.length cc, .slice sa x.spans.length sc, .slice ta x.ties.length tc] 73) ∧ wc.heap[w5.heap.size]? = some (.cells #[.int .i64 x.indent, .slice ray x.rules.length rcy, .slice cay x.chunks.length ccy, .slice say x.spans.length scy, .slice tay x.ties.length tcy] 52) ∧ Below w8.heap.size w8 wc := ⟨blk kc hS1.1, blk kc hS1.2.1, hS1.2.2.trans (kc.mono hS1.2.2.size)⟩
  refine hK.out _ _ hS2 (fun _ => ?_)
  clear hK K
  try simp only [Act.put, List.setIfInBounds_toArray, List.set_cons_zero, List.set_cons_succ]
  refine wpAnyH_ready (rs := [3]) (by kernel_rfl) (by simp) ?_
  refine AllReadyH.cons (at_op rfl) (fun K hK => ?_) AllReadyH.nil
  go_simp
  refine (eqPiece_any x ray cay say tay rah cah sah tah rcy ccy scy tcy rch cch sch tch 0 w8.heap.size _ _ _ (Fy.below hS2.2.2 (Nat.le_refl _)) hS2.2.2.size hc (Nat.le_refl _)).mono ?_
  rintro e we ⟨rfl, ke⟩
  go_wp2_with fail
  have kb : Below w8.heap.size w8 we := hS2.2.2.trans (ke.mono hS2.2.2.size)
  refine hK.out _ _ ⟨blk ke hS2.1, blk ke hS2.2.1, kb⟩ (fun _ => ?_)
  clear hK K
  try simp only [Act.put, List.setIfInBounds_toArray, List.set_cons_zero, List.set_cons_succ]
  refine wpAnyH_take (i := 4) (v := ?v3) (at_op rfl) (by kernel_rfl) (by kernel_rfl) (by kernel_rfl) (fun _ _ _ h => h) (Or.inl ⟨by rfl, ?y3⟩) (by assumption) ?r3
  case y3 =>
    intro wx hSx
    go_simp
    try with_reducible rfl
  try simp only [Act.put, List.setIfInBounds_toArray, List.set_cons_zero, List.set_cons_succ]
  refine wpAnyH_done (by kernel_rfl) ?_ _
  clear hS2 hS1 hc ke kc
  have w9 := we
  clear w9
  have HBe := HB8.trans (kb.mono HB8.size)
  have se := HBe.size
  have te := kb.size
  replace Fz1 := (Fz1.below kb (Nat.le_refl _)).wide (Nat.le_refl _) kb.size
  clear Fy HB8 rA8 rX8 kb
  go_wp2_with fail
  refine (toIntS_any vals1 _ 0 w.heap.size _ (hv1.below HBe (Nat.le_refl _)) HBe.size hl1).mono ?_
  rintro e wf1 ⟨ug1, rfl, kb, hg1⟩
  obtain ⟨bg1, dg1, rfl, _⟩ := hg1.form
  have HBf1 := HBe.trans (kb.mono HBe.size)
  replace Fz1 := (Fz1.below kb (Nat.le_refl _)).wide (Nat.le_refl _) kb.size
  go_wp2_with fail
  refine (eqIntS_any vals1 _ _ _ _ _ _ _ Fz1 (Nat.le_refl _) hg1.rd (Nat.le_refl _)).mono ?_
  rintro e wg1 ⟨rfl, kg⟩
  have HBg1 := HBf1.trans (kg.mono HBf1.size)
  clear kb kg
  go_wp2
  go_ret
  exact ⟨rfl, HBg1⟩
end Go.Proofs.Ytgcgipbjmobekaa
