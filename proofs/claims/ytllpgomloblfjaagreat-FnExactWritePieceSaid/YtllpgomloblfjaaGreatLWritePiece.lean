/- FnExactWritePiece: for every piece, every width and every budget the program writes the lines that the reference writes, in memory of its own, and tells the same of them, and the piece reads as it did. No condition. -/
import Derived.Test.YtllpgomloblfjaaGreatWriteP
import Derived.Test.YtllpgomloblfjaaGreatWriteL
import Derived.Test.YtllpgomloblfjaaGreatPieceM
import Derived.Test.YtllpgomloblfjaaGreatHInt
import Derived.Test.YtllpgomloblfjaaGreatHeld
namespace Go.Proofs.YtllpgomloblfjaaGreat
open Go.ChangeShapes Go.WideShapes Go.ChangeAt Go.RowKit
open Go.ChangeMaps (open_string shut_string)

set_option maxHeartbeats 4000000 in
set_option maxRecDepth 100000 in
theorem lawWritePiece_any (x : Piece) (ra ca sa ta : Option Addr) (rc cc sc tc : Nat) (a1 a2 : Int) (w : World) (hp : PFour x ra rc ca cc sa sc ta tc 0 w.heap.size w) (hok : x.Ok) :
    Calls Tryz.prog 3 #[x.v ra rc ca cc sa sc ta tc, .int .i64 a1, .int .i64 a2] w fun e w' => e = .returned (.bool true) ∧ Below w.heap.size w w' := by
  obtain ⟨bd, hbd⟩ : ∃ bd, Hid (writeB x a1 a2 = bd) := ⟨_, rfl⟩
  obtain ⟨bs, hbs⟩ : ∃ bs, Hid (searchS x a1 a2 = bs) := ⟨_, rfl⟩
  unfold Piece.v
  go_enter Tryz.func3, Tryz.ntmps3
  go_wp2_with fail
  have rA0 := heap_alloc_new w (.cells #[.int .i64 x.indent, .slice ra x.rules.length rc, .slice ca x.chunks.length cc, .slice sa x.spans.length sc, .slice ta x.ties.length tc] 27)
  have HB0 : Below w.heap.size w (w.alloc (.cells #[.int .i64 x.indent, .slice ra x.rules.length rc, .slice ca x.chunks.length cc, .slice sa x.spans.length sc, .slice ta x.ties.length tc] 27)) := (Below.refl _ _).alloc (Nat.le_refl _) _
  generalize w.alloc (.cells #[.int .i64 x.indent, .slice ra x.rules.length rc, .slice ca x.chunks.length cc, .slice sa x.spans.length sc, .slice ta x.ties.length tc] 27) = w0 at *
  have s0 := HB0.size
  have hl0 := blk_lt rA0
  obtain ⟨p0, p1, p2, p3, p4⟩ := five rA0
  go_wp2_with fail
  clear p0 p1 p2 p3 p4
  refine (szPiece_any x ra ca sa ta rc cc sc tc 0 w.heap.size _ _ (hp.below HB0 (Nat.le_refl _)) HB0.size (by omega) (by omega) (fun c hc => (hok.2.2.1 c hc).1)).mono ?_
  rintro e w1 ⟨rfl, kb⟩
  have HB1 := HB0.trans (kb.mono HB0.size)
  have t1 := kb.size
  have rA1 := blk kb rA0
  clear kb rA0 HB0
  by_cases hz : szR 1048576 x.wt < 0
  · go_wp2
    go_ret
    exact ⟨rfl, HB1⟩
  have hn := szR_nneg hz
  have hwl : x.rules.length ≤ 1048576 ∧ x.chunks.length ≤ 1048576 ∧ x.spans.length ≤ 1048576 ∧ x.ties.length ≤ 1048576 := by
    have := Chunk.wts_ge x.chunks
    unfold Piece.wt at hn
    omega
  obtain ⟨m1, m2, m3, m4⟩ := hwl
  have hSz : Sized x := sized_wt (by omega)
  have HR : bd.length ≤ 2097152 := by rw [← hbd.out]; have := writeB_len x hSz a1 a2; omega
  have hy := Lib.hid (szR_yes hn)
  rw [← hy.out] at hz ⊢
  obtain ⟨p0, p1, p2, p3, p4⟩ := five rA1
  go_wp2_with fail
  clear p0 p1 p2 p3 p4
  refine (toPiece_any x ra ca sa ta rc cc sc tc 0 w.heap.size _ (hp.below HB1 (Nat.le_refl _)) HB1.size m1 m2 m3 m4).mono ?_
  rintro e w2 ⟨raq, rcq, caq, ccq, saq, scq, taq, tcq, rfl, kb, Fq⟩
  unfold Piece.v
  have t2 := kb.size
  have HB2 := HB1.trans (kb.mono (by omega))
  have rA2 := blk kb rA1
  clear HB1 rA1 kb
  go_wp2_with fail
  refine (writePiece_spec x _ _ _ _ _ _ _ _ _ _ a1 a2 _ Fq (by omega) hSz).mono ?_
  rintro e w3 ⟨uw, rfl, kb, Gw⟩
  have t3 := kb.size
  have HB3 := HB2.trans (kb.mono (by omega))
  have rA3 := blk kb rA2
  replace Fq := Fq.below kb (by omega)
  clear HB2 rA2 kb
  obtain ⟨bw, dw, rfl, -, -, -⟩ := Gw.form
  rw [hbd.out] at Gw
  rw [hbd.out, hbs.out]
  go_upto_region 6 with fail
  have kb : Below w3.heap.size w3 (w3.alloc (.cells #[.slice bw bd.length dw, .int .i64 bs] 31)) := (Below.refl _ _).alloc (Nat.le_refl _) _
  have rWW4 := heap_alloc_new w3 (.cells #[.slice bw bd.length dw, .int .i64 bs] 31)
  have hlw := blk_lt rWW4
  generalize w3.alloc (.cells #[.slice bw bd.length dw, .int .i64 bs] 31) = w4 at *
  have t4 := kb.size
  have HB4 := HB3.trans (kb.mono (by omega))
  have rA4 := blk kb rA3
  replace Fq := Fq.below kb (by omega)
  replace Gw := Gw.below kb (by omega)
  clear HB3 rA3 kb
  clear Fq
  obtain ⟨p0, p1, p2, p3, p4⟩ := five rA4
  go_wp2_with fail
  clear p0 p1 p2 p3 p4
  refine (toPiece_own x ra ca sa ta rc cc sc tc 0 w.heap.size _ (hp.below HB4 (Nat.le_refl _)) HB4.size m1 m2 m3 m4).mono ?_
  rintro e w5 ⟨ray, rcy, cay, ccy, say, scy, tay, tcy, rfl, kb, Fy⟩
  unfold Piece.v
  have t5 := kb.size
  have HB5 := HB4.trans (kb.mono (by omega))
  have rA5 := blk kb rA4
  have rWW5 := blk kb rWW4
  replace Gw := Gw.below kb (by omega)
  clear HB4 rA4 rWW4 kb
  go_wp2_with fail
  have kb : Below w5.heap.size w5 (w5.alloc (.cells #[.int .i64 x.indent, .slice ray x.rules.length rcy, .slice cay x.chunks.length ccy, .slice say x.spans.length scy, .slice tay x.ties.length tcy] 38)) := (Below.refl _ _).alloc (Nat.le_refl _) _
  have rX6 := heap_alloc_new w5 (.cells #[.int .i64 x.indent, .slice ray x.rules.length rcy, .slice cay x.chunks.length ccy, .slice say x.spans.length scy, .slice tay x.ties.length tcy] 38)
  have hxl6 := blk_lt rX6
  generalize w5.alloc (.cells #[.int .i64 x.indent, .slice ray x.rules.length rcy, .slice cay x.chunks.length ccy, .slice say x.spans.length scy, .slice tay x.ties.length tcy] 38) = w6 at *
  have t6 := kb.size
  have HB6 := HB5.trans (kb.mono (by omega))
  have rA6 := blk kb rA5
  have rWW6 := blk kb rWW5
  replace Gw := Gw.below kb (by omega)
  replace Fy := Fy.below kb (by omega)
  clear HB5 rA5 rWW5 kb
  obtain ⟨p0, p1, p2, p3, p4⟩ := five rX6
  go_wp2_with fail
  clear p0 p1 p2 p3 p4
  go_wp2_with fail
  refine (writePiece_impl x _ _ _ _ _ _ _ _ _ _ a1 a2 _ Fy.rd (by omega) hSz).mono ?_
  rintro e w7 ⟨ug, rfl, kb, Gg⟩
  have t7 := kb.size
  have HB7 := HB6.trans (kb.mono (by omega))
  have rA7 := blk kb rA6
  have rWW7 := blk kb rWW6
  have rX7 := blk kb rX6
  replace Gw := Gw.below kb (by omega)
  replace Fy := Fy.below kb (by omega)
  clear HB6 rA6 rWW6 rX6 kb
  obtain ⟨bg, dg, rfl, -, -, -⟩ := Gg.form
  rw [hbd.out] at Gg
  rw [hbd.out, hbs.out]
  go_upto_region 8 with fail
  have kb : Below w7.heap.size w7 (w7.alloc (.cells #[.slice bg bd.length dg, .int .i64 bs] 31)) := (Below.refl _ _).alloc (Nat.le_refl _) _
  have rGW8 := heap_alloc_new w7 (.cells #[.slice bg bd.length dg, .int .i64 bs] 31)
  have hlg := blk_lt rGW8
  generalize w7.alloc (.cells #[.slice bg bd.length dg, .int .i64 bs] 31) = w8 at *
  have t8 := kb.size
  have HB8 := HB7.trans (kb.mono (by omega))
  have rA8 := blk kb rA7
  have rWW8 := blk kb rWW7
  have rX8 := blk kb rX7
  replace Gw := Gw.below kb (by omega)
  replace Fy := Fy.below kb (by omega)
  replace Gg := Gg.below kb (by omega)
  clear HB7 rA7 rWW7 rX7 kb
  obtain ⟨GW0, GW1⟩ := two_cL rGW8
  obtain ⟨WW0, WW1⟩ := two_cL rWW8
  go_wp2_with fail
  clear GW0 GW1 WW0 WW1
  refine (eqWritten_any _ _ _ _ _ _ _ _ _ _ _ Gg.rd (by omega) Gw.rd (by omega)).mono ?_
  rintro e w9 ⟨rfl, kb⟩
  have t9 := kb.size
  have HB9 := HB8.trans (kb.mono (by omega))
  have rA9 := blk kb rA8
  have rWW9 := blk kb rWW8
  have rX9 := blk kb rX8
  have rGW9 := blk kb rGW8
  replace Gw := Gw.below kb (by omega)
  replace Fy := Fy.below kb (by omega)
  replace Gg := Gg.below kb (by omega)
  clear HB8 rA8 rWW8 rX8 rGW8 kb
  go_wp2_with fail
  refine wp_region_held_drew (S := fun w' => w'.heap[w.heap.size]? = some (.cells #[.int .i64 x.indent, .slice ra x.rules.length rc, .slice ca x.chunks.length cc, .slice sa x.spans.length sc, .slice ta x.ties.length tc] 27) ∧ w'.heap[w5.heap.size]? = some (.cells #[.int .i64 x.indent, .slice ray x.rules.length rcy, .slice cay x.chunks.length ccy, .slice say x.spans.length scy, .slice tay x.ties.length tcy] 38) ∧ Below w9.heap.size w9 w') (by kernel_rfl) ?_ (fun hHeld => ?_)
  · exact ⟨rA9, rX9, (Below.refl _ _).drew⟩
  refine wpAnyH_take (i := 0) (v := ?v4) (at_op rfl) (by kernel_rfl) (by kernel_rfl) (by kernel_rfl) (fun _ _ _ h => h) (Or.inl ⟨by rfl, ?y4⟩) (by assumption) ?r4
  case y4 =>
    intro wx hSx
    obtain ⟨p0, p1, p2, p3, p4⟩ := five hSx.2.1
    go_simp
    try with_reducible rfl
  try simp only [Act.put, List.setIfInBounds_toArray, List.set_cons_zero, List.set_cons_succ]
  refine wpAnyH_take (i := 1) (v := ?v5) (at_op rfl) (by kernel_rfl) (by kernel_rfl) (by kernel_rfl) (fun _ _ _ h => h) (Or.inl ⟨by rfl, ?y5⟩) (by assumption) ?r5
  case y5 =>
    intro wx hSx
    obtain ⟨p0, p1, p2, p3, p4⟩ := five hSx.1
    go_simp
    try with_reducible rfl
  try simp only [Act.put, List.setIfInBounds_toArray, List.set_cons_zero, List.set_cons_succ]
  refine wpAnyH_ready (rs := [2]) (by kernel_rfl) (by simp) ?_
  refine AllReadyH.cons (at_op rfl) (fun K hK => ?_) AllReadyH.nil
  go_simp
  refine (toPiece_any x ra ca sa ta rc cc sc tc 0 w.heap.size _ ((hp.below HB9 (Nat.le_refl _)).below hHeld.2.2 HB9.size) (Nat.le_trans HB9.size hHeld.2.2.size) m1 m2 m3 m4).mono ?_
  rintro e wc ⟨rah, rch, cah, cch, sah, sch, tah, tch, rfl, kc, hc⟩
  unfold Piece.v
  go_wp2_with fail
  have hS1 := hHeld
  have hS2 : wc.heap[w.heap.size]? = some (.cells #[.int .i64 x.indent, .slice ra x.rules.length rc, .slice ca x.chunks.length cc, .slice sa x.spans.length sc, .slice ta x.ties.length tc] 27) ∧ wc.heap[w5.heap.size]? = some (.cells #[.int .i64 x.indent, .slice ray x.rules.length rcy, .slice cay x.chunks.length ccy, .slice say x.spans.length scy, .slice tay x.ties.length tcy] 38) ∧ Below w9.heap.size w9 wc := ⟨blk kc hS1.1, blk kc hS1.2.1, hS1.2.2.trans (kc.mono hS1.2.2.size)⟩
  refine hK.out _ _ hS2 (fun _ => ?_)
  clear hK K
  try simp only [Act.put, List.setIfInBounds_toArray, List.set_cons_zero, List.set_cons_succ]
  refine wpAnyH_ready (rs := [3]) (by kernel_rfl) (by simp) ?_
  refine AllReadyH.cons (at_op rfl) (fun K hK => ?_) AllReadyH.nil
  go_simp
  have ts := hS1.2.2.size
  have tc2 := kc.size
  refine (eqPiece_any x ray cay say tay rah cah sah tah rcy ccy scy tcy rch cch sch tch _ _ _ _ _ (Fy.rd.below hS2.2.2 (by omega)) (by omega) hc (Nat.le_refl _)).mono ?_
  rintro e we ⟨rfl, ke⟩
  go_wp2_with fail
  have kb : Below w9.heap.size w9 we := hS2.2.2.trans (ke.mono hS2.2.2.size)
  refine hK.out _ _ ⟨blk ke hS2.1, blk ke hS2.2.1, kb⟩ (fun _ => ?_)
  clear hK K
  try simp only [Act.put, List.setIfInBounds_toArray, List.set_cons_zero, List.set_cons_succ]
  refine wpAnyH_take (i := 4) (v := ?v6) (at_op rfl) (by kernel_rfl) (by kernel_rfl) (by kernel_rfl) (fun _ _ _ h => h) (Or.inl ⟨by rfl, ?y6⟩) (by assumption) ?r6
  case y6 =>
    intro wx hSx
    go_simp
    try with_reducible rfl
  try simp only [Act.put, List.setIfInBounds_toArray, List.set_cons_zero, List.set_cons_succ]
  refine wpAnyH_done (by kernel_rfl) ?_ _
  clear hS2 hS1 hc ke kc ts tc2
  generalize we = w10 at *
  have t10 := kb.size
  have HB10 := HB9.trans (kb.mono (by omega))
  have rA10 := blk kb rA9
  have rWW10 := blk kb rWW9
  have rX10 := blk kb rX9
  have rGW10 := blk kb rGW9
  replace Gw := Gw.below kb (by omega)
  replace Fy := Fy.below kb (by omega)
  replace Gg := Gg.below kb (by omega)
  clear HB9 rA9 rWW9 rX9 rGW9 kb
  obtain ⟨p0, p1, p2, p3, p4⟩ := five rX10
  have hyz := Fy.t.below_heap
  go_wp2_with fail
  clear p0 p1 p2 p3 p4
  refine (markPiece_one x ray cay say tay rcy ccy scy tcy _ _ _ Fy (by omega) (by omega) m1 m2 m3 m4).mono ?_
  rintro e w11 ⟨⟨z, rfl⟩, kb⟩
  have t11 := kb.size
  have HB11 := blw_out HB10 kb (by omega) (by omega)
  have rA11 := (kb.block w.heap.size (by omega) (by omega)).trans rA10
  have rWW11 := (kb.block w3.heap.size (by omega) (by omega)).trans rWW10
  have rX11 := (kb.block w5.heap.size (by omega) (by omega)).trans rX10
  have rGW11 := (kb.block w7.heap.size (by omega) (by omega)).trans rGW10
  replace Gw := Gw.same (kb.same (by omega) (by omega))
  replace Gg := Gg.same (kb.same (by omega) (by omega))
  clear HB10 rA10 rWW10 rX10 rGW10 kb
  clear Fy hyz
  have hzn : ¬ ((z : Nat) : Int) < 0 := by omega
  obtain ⟨GW0, GW1⟩ := two_cL rGW11
  obtain ⟨WW0, WW1⟩ := two_cL rWW11
  go_wp2_with fail
  clear GW0 GW1 WW0 WW1
  refine (eqWritten_any _ _ _ _ _ _ _ _ _ _ _ Gg.rd (by omega) Gw.rd (by omega)).mono ?_
  rintro e w12 ⟨rfl, kb⟩
  have t12 := kb.size
  have HB12 := HB11.trans (kb.mono (by omega))
  have rA12 := blk kb rA11
  have rWW12 := blk kb rWW11
  have rX12 := blk kb rX11
  have rGW12 := blk kb rGW11
  replace Gw := Gw.below kb (by omega)
  replace Gg := Gg.below kb (by omega)
  clear HB11 rA11 rWW11 rX11 rGW11 kb
  obtain ⟨GW0, GW1⟩ := two_cL rGW12
  go_wp2_with fail
  clear GW0 GW1
  refine (markWritten_one Gg (by omega) HR).mono ?_
  rintro e w13 ⟨rfl, kb, Gm⟩
  have t13 := kb.size
  have HB13 := blw_out HB12 kb (by omega) (by omega)
  have rA13 := (kb.block w.heap.size (by omega) (by omega)).trans rA12
  have rWW13 := (kb.block w3.heap.size (by omega) (by omega)).trans rWW12
  have rX13 := (kb.block w5.heap.size (by omega) (by omega)).trans rX12
  have rGW13 := (kb.block w7.heap.size (by omega) (by omega)).trans rGW12
  replace Gw := Gw.same (kb.same (by omega) (by omega))
  clear HB12 rA12 rWW12 rX12 rGW12 kb
  clear Gg
  obtain ⟨GW0, GW1⟩ := two_cL rGW13
  go_wp2_with fail
  clear GW0 GW1
  refine (heldWritten_one Gm.rd (by omega) HR).mono ?_
  rintro e w14 ⟨rfl, kb⟩
  have t14 := kb.size
  have HB14 := HB13.trans (kb.mono (by omega))
  have rA14 := blk kb rA13
  have rWW14 := blk kb rWW13
  have rX14 := blk kb rX13
  have rGW14 := blk kb rGW13
  replace Gw := Gw.below kb (by omega)
  replace Gm := Gm.below kb (by omega)
  clear HB13 rA13 rWW13 rX13 rGW13 kb
  obtain ⟨p0, p1, p2, p3, p4⟩ := five rA14
  go_wp2_with fail
  clear p0 p1 p2 p3 p4
  refine (toPiece_any x ra ca sa ta rc cc sc tc 0 w.heap.size _ (hp.below HB14 (Nat.le_refl _)) HB14.size m1 m2 m3 m4).mono ?_
  rintro e w15 ⟨raz, rcz, caz, ccz, saz, scz, taz, tcz, rfl, kb, Fz⟩
  unfold Piece.v
  have t15 := kb.size
  have HB15 := HB14.trans (kb.mono (by omega))
  have rA15 := blk kb rA14
  have rWW15 := blk kb rWW14
  have rX15 := blk kb rX14
  have rGW15 := blk kb rGW14
  replace Gw := Gw.below kb (by omega)
  replace Gm := Gm.below kb (by omega)
  clear HB14 rA14 rWW14 rX14 rGW14 kb
  go_wp2_with fail
  refine (writePiece_impl x _ _ _ _ _ _ _ _ _ _ a1 a2 _ Fz (by omega) hSz).mono ?_
  rintro e w16 ⟨uh, rfl, kb, Gh⟩
  have t16 := kb.size
  have HB16 := HB15.trans (kb.mono (by omega))
  have rA16 := blk kb rA15
  have rWW16 := blk kb rWW15
  have rX16 := blk kb rX15
  have rGW16 := blk kb rGW15
  replace Gw := Gw.below kb (by omega)
  replace Gm := Gm.below kb (by omega)
  replace Fz := Fz.below kb (by omega)
  clear HB15 rA15 rWW15 rX15 rGW15 kb
  obtain ⟨bh, dh, rfl, -, -, -⟩ := Gh.form
  rw [hbd.out] at Gh
  rw [hbd.out, hbs.out]
  go_upto_region 25 with fail
  have kb : Below w16.heap.size w16 (w16.alloc (.cells #[.slice bh bd.length dh, .int .i64 bs] 31)) := (Below.refl _ _).alloc (Nat.le_refl _) _
  have rHW17 := heap_alloc_new w16 (.cells #[.slice bh bd.length dh, .int .i64 bs] 31)
  have hlh := blk_lt rHW17
  generalize w16.alloc (.cells #[.slice bh bd.length dh, .int .i64 bs] 31) = w17 at *
  have t17 := kb.size
  have HB17 := HB16.trans (kb.mono (by omega))
  have rA17 := blk kb rA16
  have rWW17 := blk kb rWW16
  have rX17 := blk kb rX16
  have rGW17 := blk kb rGW16
  replace Gw := Gw.below kb (by omega)
  replace Gm := Gm.below kb (by omega)
  replace Fz := Fz.below kb (by omega)
  replace Gh := Gh.below kb (by omega)
  clear HB16 rA16 rWW16 rX16 rGW16 kb
  clear Fz
  obtain ⟨HW0, HW1⟩ := two_cL rHW17
  obtain ⟨WW0, WW1⟩ := two_cL rWW17
  go_wp2_with fail
  clear HW0 HW1 WW0 WW1
  refine (eqWritten_any _ _ _ _ _ _ _ _ _ _ _ Gh.rd (by omega) Gw.rd (by omega)).mono ?_
  rintro e w18 ⟨rfl, kb⟩
  have t18 := kb.size
  have HB18 := HB17.trans (kb.mono (by omega))
  have rA18 := blk kb rA17
  have rWW18 := blk kb rWW17
  have rX18 := blk kb rX17
  have rGW18 := blk kb rGW17
  have rHW18 := blk kb rHW17
  replace Gw := Gw.below kb (by omega)
  replace Gm := Gm.below kb (by omega)
  replace Gh := Gh.below kb (by omega)
  clear HB17 rA17 rWW17 rX17 rGW17 rHW17 kb
  obtain ⟨GW0, GW1⟩ := two_cL rGW18
  go_wp2_with fail
  clear GW0 GW1
  refine (heldWritten_one Gm.rd (by omega) HR).mono ?_
  rintro e w19 ⟨rfl, kb⟩
  have t19 := kb.size
  have HB19 := HB18.trans (kb.mono (by omega))
  have rA19 := blk kb rA18
  have rWW19 := blk kb rWW18
  have rX19 := blk kb rX18
  have rGW19 := blk kb rGW18
  have rHW19 := blk kb rHW18
  replace Gw := Gw.below kb (by omega)
  replace Gm := Gm.below kb (by omega)
  replace Gh := Gh.below kb (by omega)
  clear HB18 rA18 rWW18 rX18 rGW18 rHW18 kb
  go_wp2
  go_ret
  exact ⟨rfl, HB19⟩
set_option maxRecDepth 100000 in
theorem fnExactWritePiece_lifted (os : Os) (started : os.Started) (H : Type) (enc : TypeId × Value → H) :
    ReturnsInHanded {} Tryz.checked os 3 .any (Rows.fnExactWritePieceSpec.pre6 enc Tryz.prog Tryz.f3 Rows.fnExactWritePieceRow.domain false) (Rows.fnExactWritePieceSpec.post enc Tryz.prog Tryz.f3 false true false false) := by
  refine returnsInHanded_of_change (C := Tryz.checked) Tryz.own started (by kernel_rfl) Tryz.func3
    (ChangeSpec.witness6 (enc := enc) (C := Tryz.checked) false ⟨#[], #[.agg #[.int .i64 0, .slice none 0 0, .slice none 0 0, .slice none 0 0, .slice none 0 0], .int .i64 0, .int .i64 0], []⟩ 8 (by kernel_rfl) (by kernel_rfl) (by kernel_rfl) (by kernel_rfl)) ?_
  intro W base args ds gs before hval0 hW _ _
  have hval : ∀ (j : Nat) t v, Tryz.f3.params[j]? = some t → args[j]? = some v → Value.okWide Tryz.prog W .any base t v := hval0
  have hW' := hW
  obtain ⟨p, q, hA0, hV, rfl, hfz, hnd⟩ := hW
  have hA : DataW.TrodAll enc Tryz.prog W 0 (fun _ => true) true Tryz.f3.params.toList args.toList ds p := hA0
  rw [Tryz.params3] at hA hval
  obtain ⟨v0, vs0, d0, ds0, p0, q0, hargs, rfl, rfl, h0, r0⟩ := trodAll_cons hA
  obtain ⟨v1, vs1, d1, ds1, p1, q1, rfl, rfl, rfl, h1, r1⟩ := trodAll_cons r0
  obtain ⟨v2, vs2, d2, ds2, p2, q2, rfl, rfl, rfl, h2, r2⟩ := trodAll_cons r1
  obtain ⟨rfl, rfl, rfl⟩ := trodAll_nil r2
  obtain rfl : args = #[v0, v1, v2] := by cases args; simp_all
  obtain ⟨rfl, rfl⟩ := trodVars_none hV
  obtain ⟨x0, cs0, e0, hx0, hok0⟩ := open_st Tryz.underlying27 opens_Piece (hval 0 27 v0 rfl rfl) h0
  obtain ⟨ra, rc, ca, cc, sa, sc, ta, tc, e0', hp⟩ := hx0
  obtain rfl : v0 = x0.v ra rc ca cc sa sc ta tc := by rw [e0, ← e0']
  obtain ⟨a1, rfl, _, _, wa1⟩ := open_int Tryz.underlying3 (hval 1 3 v1 rfl rfl) h1
  obtain ⟨a2, rfl, _, _, wa2⟩ := open_int Tryz.underlying3 (hval 2 3 v2 rfl rfl) h2
  refine (lawWritePiece_any x0 ra ca sa ta rc cc sc tc a1 a2 W hp hok0).mono fun e W' ⟨he, hb⟩ => ?_
  subst he
  exact ⟨_, rfl, law_post Tryz.laidOut (by intro t ht; rw [Tryz.params3] at ht; simp at ht; rcases ht with rfl | rfl <;> exact ⟨by kernel_rfl, of_decide_eq_true (by kernel_rfl)⟩) hW' rfl rfl Tryz.underlying4 rfl rfl rfl hb⟩

theorem fnExactWritePiece_holds : Rows.FnExactWritePieceSaid :=
  OpenClaim.holds_of_wide 3 Tryz.f3 rfl rfl rfl rfl rfl rfl rfl ⟨rfl, rfl, rfl, rfl, rfl⟩ rfl rfl rfl rfl rfl (by kernel_rfl) Tryz.func3 (by kernel_rfl)
    (of_decide_eq_true (by kernel_rfl)) (by unfold Func.isWrapper; rw [if_neg (of_decide_eq_false (by kernel_rfl))]; exact ⟨rfl, rfl⟩)
    (fun os started H enc _ => fnExactWritePiece_lifted os started H enc)
#print axioms fnExactWritePiece_holds

end Go.Proofs.YtllpgomloblfjaaGreat
