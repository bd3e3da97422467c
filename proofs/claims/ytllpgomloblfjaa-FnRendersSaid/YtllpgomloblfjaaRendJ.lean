/- What values cost, of the program. -/
import Derived.Test.YtllpgomloblfjaaRendP
import Derived.Test.YtllpgomloblfjaaBoundI
import Derived.Test.YtllpgomloblfjaaHString
import Derived.Test.YtllpgomloblfjaaApp
import Derived.Test.YtllpgomloblfjaaShelf
import Derived.Lib.Repeat
import Derived.Test.YtllpgomloblfjaaHuntH
import Derived.Deep.Cut
namespace Go.Proofs.Ytllpgomloblfjaa
open Go.RowKit

theorem rep_one (c : Nat) : Lib.repeatL [32] c = List.replicate c 32 := by
  induction c with
  | zero => rfl
  | succ c ih => rw [Lib.repeatL, ih, List.replicate_succ]; rfl
theorem Try.infoStrR : (Try.prog.info? 9).map (fun i => (i.zero, i.size, i.bytes)) = some (some (.string ByteArray.empty), 1, 16) := by kernel_rfl
set_option maxHeartbeats 1000000 in
set_option maxRecDepth 100000 in
theorem pad_impl (z : Int) (h0 : 0 ≤ z) (h1 : z ≤ 100) (w : World) : Calls Try.prog 113 #[.int .i64 z] w fun e w' => e = .returned (.string (padB z.toNat)) ∧ Below w.heap.size w w' := by
  obtain ⟨q, rfl⟩ := Int.eq_ofNat_of_zero_le h0
  have HR : Hid ((⟨(Lib.repeatL (⟨#[32]⟩ : ByteArray).data.toList q).toArray⟩ : ByteArray) = padB q) := by
    show (⟨(Lib.repeatL [32] q).toArray⟩ : ByteArray) = _
    rw [rep_one]; rfl
  go_enter Try.func113, Try.ntmps113
  go_wp2_with fail
  refine (Try.strings_Repeat ⟨#[32]⟩ q w (by omega) (by show 1 * q ≤ _; omega)).mono ?_
  rintro e w' ⟨rfl, hb⟩
  rw [HR.out]
  go_wp2
  go_ret
  exact ⟨rfl, hb⟩
theorem rend_split {x : Piece} {v : List Int} {k : Nat} (h : k < x.chunks.length) (hs : splitsAt x v k = true) : rendTo x v (k + 1) = ((rendTo x v k).1 ++ [(rendTo x v k).2 ++ x.chunks[k].text], padB (x.indent + x.chunks[k].nest).toNat) := by
  rw [rendTo, if_pos hs, chunkAt_lt h]
theorem rend_join {x : Piece} {v : List Int} {k : Nat} (h : k < x.chunks.length) (hs : splitsAt x v k = false) : rendTo x v (k + 1) = ((rendTo x v k).1, if x.chunks[k].space then (rendTo x v k).2 ++ x.chunks[k].text ++ ⟨#[32]⟩ else (rendTo x v k).2 ++ x.chunks[k].text) := by
  rw [rendTo, if_neg (by rw [hs]; decide), chunkAt_lt h]
theorem rend_last {x : Piece} {v : List Int} {k : Nat} (h : k < x.chunks.length) (hk : k = x.chunks.length - 1) : linesR x v = (rendTo x v k).1 ++ [(rendTo x v k).2 ++ x.chunks[k].text] := by
  subst hk
  rw [linesR, chunkAt_lt h]
set_option maxHeartbeats 2000000 in
set_option maxRecDepth 100000 in
theorem render_impl (x : Piece) (vals : List Int) (ra ca sa ta va : Option Addr) (rc cc sc tc vc lo hi lo' hi' : Nat) (w : World) (hp : PFour x ra rc ca cc sa sc ta tc lo hi w) (hh : hi ≤ w.heap.size) (hv : Rd intF.shape lo' hi' w (.slice va vals.length vc) vals) (hh' : hi' ≤ w.heap.size) (hx : Right x) (hfull : vals.length = x.rules.length) (hz : Sized x) :
    Calls Try.prog 74 #[x.v ra rc ca cc sa sc ta tc, .slice va vals.length vc] w fun e w' => ∃ u, e = .returned u ∧ Below w.heap.size w w' ∧ Own strF 9 w.heap.size w'.heap.size w' u (linesR x vals) := by
  obtain ⟨i0, hi0, hz0, hz1, hz2⟩ := info_parts Try.infoStrR
  have hp0 := hp
  obtain ⟨hr, hc, hsp, ht⟩ := hp
  obtain ⟨hcl, hc5⟩ := at_chunk hc
  obtain ⟨hin1, hin2⟩ := hx.indent
  obtain ⟨hcn1, hcn2⟩ := hx.chunks
  obtain ⟨B, HB⟩ : ∃ B, Hid (B = w.heap.size) := ⟨_, rfl⟩
  have hBw : B ≤ w.heap.size := Nat.le_of_eq HB.out
  have hBw' : w.heap.size ≤ B := Nat.le_of_eq HB.out.symm
  have HFU := Lib.hid hfull
  unfold Piece.v
  have hX0 := PBox.new x ra ca sa ta rc cc sc tc w
  have hb0 : Below B w (w.alloc (.cells #[.int .i64 x.indent, .slice ra x.rules.length rc, .slice ca x.chunks.length cc, .slice sa x.spans.length sc, .slice ta x.ties.length tc] 29)) := (Below.refl _ _).alloc hBw _
  go_enter Try.func74, Try.ntmps74
  go_wp2_with fail
  generalize w.alloc (.cells #[.int .i64 x.indent, .slice ra x.rules.length rc, .slice ca x.chunks.length cc, .slice sa x.spans.length sc, .slice ta x.ties.length tc] 29) = w0 at *
  refine (pad_impl x.indent hin1 (by omega) w0).mono ?_
  rintro e w1 ⟨rfl, hb1⟩
  have hs0 := hb0.size
  have hxl0 := hX0.lt
  have hX1 := hX0.below hb1
  have hB1 := hb0.trans (hb1.mono (by omega))
  obtain ⟨p0, p1, p2, p3, p4⟩ := hX1.five
  have hC1 := hb1.size
  obtain ⟨C, HC⟩ : ∃ C, Hid (C = w0.heap.size) := ⟨_, rfl⟩
  have hBC : w.heap.size < C := by have := HC.out; omega
  have hCw : C ≤ w1.heap.size := by have := HC.out; omega
  clear hX0 hb0 hb1 hs0 hfull hC1 hxl0
  go_wp2
  go_loopw [5, 6, 15] (fun lv sv i wr => ∃ (k : Nat) (ls : List ByteArray) (l : ByteArray), k + 1 ≤ x.chunks.length ∧ i = .int .i64 k ∧ sv = .string l ∧ Hid (rendTo x vals k = (ls, l)) ∧ Own strF 9 C wr.heap.size wr lv ls ∧ Below C w1 wr) (fun _ _ i _ => x.chunks.length - (intOf i).toNat)
  case atStart => exact ⟨0, [], _, by omega, rfl, rfl, rfl, Own.nil _ _ _ _ _, Below.refl _ _⟩
  case round =>
    clear p0 p1 p2 p3 p4
    obtain ⟨k, ls, l, hk, rfl, rfl, HT, hO, hbc⟩ := hrel
    have hX : PBox x ra rc ca cc sa sc ta tc w.heap.size wr := (hbc.block w.heap.size hBC).trans hX1
    have hb := hB1.trans (hbc.mono (by omega))
    have hcsz := hbc.size
    have hsz := hb.size
    have hxl := hX.lt
    have hlt : k < x.chunks.length := by omega
    have hki : (k : Int) < (x.chunks.length : Int) := by omega
    have hkz : (0 : Int) ≤ (k : Int) := by omega
    obtain ⟨z1, z2, -⟩ := rend_size hx hz vals k hlt
    rw [HT.out] at z1 z2
    simp only at z1 z2
    obtain ⟨p0, p1, p2, p3, p4⟩ := hX.five
    obtain ⟨b, off, rfl, hlo, hhi, c0, c1, c2, c3, c4⟩ := hc5 k hlt
    have d0 := (hb.cell (p := ⟨b, _, none⟩) (by show b < _; omega)).trans c0
    have d1 := (hb.cell (p := ⟨b, _, none⟩) (by show b < _; omega)).trans c1
    have d2 := (hb.cell (p := ⟨b, _, none⟩) (by show b < _; omega)).trans c2
    have d3 := (hb.cell (p := ⟨b, _, none⟩) (by show b < _; omega)).trans c3
    have d4 := (hb.cell (p := ⟨b, _, none⟩) (by show b < _; omega)).trans c4
    have htx := hz.text _ (List.getElem_mem hlt)
    have HSP : Hid (splitsAt x vals k = true → rendTo x vals (k + 1) = (ls ++ [l ++ x.chunks[k].text], padB (x.indent + x.chunks[k].nest).toNat)) := fun h => by rw [rend_split hlt h, HT.out]
    have HJO : Hid (splitsAt x vals k = false → rendTo x vals (k + 1) = (ls, if x.chunks[k].space then l ++ x.chunks[k].text ++ ⟨#[32]⟩ else l ++ x.chunks[k].text)) := fun h => by rw [rend_join hlt h, HT.out]
    have HLA : Hid (k = x.chunks.length - 1 → linesR x vals = ls ++ [l ++ x.chunks[k].text]) := fun h => by rw [rend_last hlt h, HT.out]
    have HCH : Hid (k + 1 < x.chunks.length → 0 ≤ x.chunks[k].rule ∧ x.chunks[k].rule < x.rules.length ∧ 1 ≤ x.chunks[k].fro ∧ x.chunks[k].fro ≤ 2 ∧ 0 ≤ x.chunks[k].nest ∧ x.chunks[k].nest ≤ 40) := fun h => chunk_of hx h
    have HSI := Lib.hid (fun (w2 : World) (h2 : Below B w w2) (h0 : 0 ≤ x.chunks[k].rule) (h1 : x.chunks[k].rule < (vals.length : Int)) => splits_impl x vals ra _ sa ta va rc cc sc tc vc k lo hi lo' hi' w2 (hp0.below h2 (by omega)) (by have := h2.size; omega) (hv.below h2 (by omega)) (by have := h2.size; omega) hlt h0 h1)
    clear c0 c1 c2 c3 c4 hc5
    generalize x.chunks[k] = ck at *
    obtain ⟨text, rule, fro, space, nest⟩ := ck
    simp only at d0 d1 d2 d3 d4 htx HSP HJO HLA HCH HSI
    have hsc : (l ++ text).size ≤ 95000000 := by rw [ByteArray.size_append]; omega
    by_cases g2 : k = x.chunks.length - 1
    · have g2d : ((k : Int) == (x.chunks.length : Int) - 1) = true := beq_iff_eq.2 (by omega)
      have HF := Lib.hid (HLA.out g2)
      clear HSP HJO HLA HCH HSI g2
      go_wp2_with (at_builtin; refine wp_app1 (F := strF) (P := Try.prog) (y := l ++ text) rfl (.tmp 51) (.tmp 53) 51 rfl Try.underlying51 hi0 hz0 hz1 hz2 rfl (by decide) rfl ((hO.alloc _).alloc _) (wr.heap.size + 1) rfl (heap_alloc2_new _ _ _) rfl (by omega) (by omega) (by simp; omega) ?_; intro v' w9 hO9 hb9)
      go_ret
      have hB9 : Below C wr w9 := blw_al2 hb9 (by omega)
      have hBF := hb.trans (hB9.mono (by omega))
      rw [HF.out]
      exact ⟨_, rfl, by rw [← HB.out]; exact hBF, hO9.wide (by omega) (Nat.le_refl _)⟩
    · have g2d : ((k : Int) == (x.chunks.length : Int) - 1) = false := by simp; omega
      obtain ⟨r1, r2, -, -, r5, r6⟩ := HCH.out (by omega)
      have hrv : rule < (vals.length : Int) := by rw [HFU.out]; exact r2
      go_wp2_with fail
      have hA := heap_alloc_new wr (.cells #[.string text, .int .i64 rule, .int .i64 fro, .bool space, .int .i64 nest] 56)
      have hbA : Below wr.heap.size wr (wr.alloc (.cells #[.string text, .int .i64 rule, .int .i64 fro, .bool space, .int .i64 nest] 56)) := (Below.refl _ _).alloc (Nat.le_refl _) _
      have hsA : wr.heap.size < (wr.alloc (.cells #[.string text, .int .i64 rule, .int .i64 fro, .bool space, .int .i64 nest] 56)).heap.size := by simp
      generalize wr.alloc (.cells #[.string text, .int .i64 rule, .int .i64 fro, .bool space, .int .i64 nest] 56) = w2 at *
      have hb2 := hb.trans (hbA.mono (by omega))
      refine (HSI.out w2 hb2 r1 hrv).mono ?_
      rintro e w3 ⟨rfl, hb3⟩
      have k3 := cell_heap (j := 3) (blk hb3 hA) rfl
      have k4 := cell_heap (j := 4) (blk hb3 hA) rfl
      have hA3 := hbA.trans (hb3.mono (by omega))
      have hs3 := hb3.size
      have hne := fun e => Nat.lt_irrefl _ (hO.below_heap wr.heap.size e).2.1
      have hO3 := (hO.below hA3 (Nat.le_refl _)).wide (Nat.le_refl _) hA3.size
      have q0 := (hA3.cell (p := ⟨w.heap.size, 0, none⟩) hxl).trans p0
      have hbc3 := hbc.trans (hA3.mono (by omega))
      clear p0 p1 p2 p3 p4 d0 d1 d2 d3 d4 hA hb3 hbA hO HSI
      cases gs : splitsAt x vals k with
      | true =>
        have HT2 := Lib.hid (HSP.out gs)
        clear HSP HJO HLA HCH gs
        have k4a : (w3.alloc (.cells #[.string (l ++ text)] 9)).cell? ⟨wr.heap.size, 4, none⟩ = some (.int .i64 nest) := (((Below.refl w3.heap.size w3).alloc (Nat.le_refl _) _).cell (p := ⟨wr.heap.size, 4, none⟩) (by show wr.heap.size < _; omega)).trans k4
        go_wp2_with (at_builtin; refine wp_app1g (F := strF) (P := Try.prog) (y := l ++ text) rfl (.tmp 34) (.tmp 36) 51 rfl Try.underlying51 hi0 hz0 hz1 hz2 rfl (by decide) rfl (hO3.alloc _) w3.heap.size rfl (heap_alloc_new _ _) rfl (by omega) (by omega) (by simp; omega) ?_; intro v' w9 hO9 hb9 hg9; have hB9 : Below C w3 w9 := blw_al1 hb9 (by omega); have q9 := (hB9.cell (p := ⟨w.heap.size, 0, none⟩) hBC).trans q0; have k9 := (World.cell?_of_block (a := ⟨wr.heap.size, 4, none⟩) (hg9.block wr.heap.size (by simp; omega) (Ne.symm hne))).trans k4a)
        refine (pad_impl (x.indent + nest) (by omega) (by omega) w9).mono ?_
        rintro e w5 ⟨rfl, hb5⟩
        have hs9 : w3.heap.size + 1 ≤ w9.heap.size := by simpa using hb9.size
        have hO5 := (hO9.below hb5 (Nat.le_refl _)).wide (Nat.le_refl _) hb5.size
        have hbF := (hbc3.trans hB9).trans (hb5.mono (by omega))
        go_wp2
        go_roundw
        case rel => exact ⟨k + 1, _, _, by omega, by go_num, rfl, HT2.out, hO5, hbF⟩
        case measure => simp [intOf]; omega
      | false =>
        have HT2 := Lib.hid (HJO.out gs)
        clear HSP HJO HLA HCH gs
        cases space with
        | true =>
          go_wp2
          go_roundw
          case rel => exact ⟨k + 1, _, _, by omega, by go_num, rfl, HT2.out, hO3, hbc3⟩
          case measure => simp [intOf]; omega
        | false =>
          go_wp2
          go_roundw
          case rel => exact ⟨k + 1, _, _, by omega, by go_num, rfl, HT2.out, hO3, hbc3⟩
          case measure => simp [intOf]; omega
end Go.Proofs.Ytllpgomloblfjaa
namespace Go.Proofs.Ytllpgomloblfjaa
open Go.RowKit

theorem at_str {lo hi n c : Nat} {w : World} {a : Option Addr} {xs : List ByteArray} (h : Rd strF.shape lo hi w (.slice a n c) xs) : xs.length ≤ 9223372036854775807 ∧ ∀ k (h : k < xs.length), ∃ b off, a = some ⟨b, off, none⟩ ∧ lo ≤ b ∧ b < hi ∧ w.cell? ⟨b, off + k, none⟩ = some (.string xs[k]) := by
  have hl := h.len_le
  obtain ⟨a', c', e, h2, h3, h4, h5⟩ := h
  injection e with e1 e2 e3
  subst e1
  refine ⟨hl, fun k hk => ?_⟩
  obtain ⟨b, off, cs, q1, q2, q3, rfl, q5⟩ := h5 k hk
  refine ⟨b, off, q1, q2, q3, ?_⟩
  have := q5 0 _ rfl
  have e : off + k * strF.shape.size + 0 = off + k := by show off + k * 1 + 0 = off + k; omega
  rwa [e] at this
set_option maxHeartbeats 2000000 in
set_option maxRecDepth 100000 in
theorem costOf_impl (x : Piece) (vals : List Int) (ra ca sa ta va : Option Addr) (rc cc sc tc vc lo hi lo' hi' : Nat) (width : Int) (w : World) (hp : PFour x ra rc ca cc sa sc ta tc lo hi w) (hh : hi ≤ w.heap.size) (hv : Rd intF.shape lo' hi' w (.slice va vals.length vc) vals) (hh' : hi' ≤ w.heap.size) (hx : Right x) (hvr : RightV x vals) (hfull : vals.length = x.rules.length) (hz : Sized x) :
    Calls Try.prog 76 #[x.v ra rc ca cc sa sc ta tc, .slice va vals.length vc, .int .i64 width] w fun e w' => e = .returned (.agg #[.int .i64 (costR x vals width).over, .int .i64 (costR x vals width).sum]) ∧ Below w.heap.size w w' := by
  have HBI := Lib.hid (fun (w2 : World) (h2 : Below w.heap.size w w2) => bound_impl x vals ra ca sa ta va rc cc sc tc vc lo hi lo' hi' w2 (hp.below h2 hh) (Nat.le_trans hh h2.size) (hv.below h2 hh') (Nat.le_trans hh' h2.size) hx hvr)
  have HRI := Lib.hid (fun (w2 : World) (h2 : Below w.heap.size w w2) => render_impl x vals ra ca sa ta va rc cc sc tc vc lo hi lo' hi' w2 (hp.below h2 hh) (Nat.le_trans hh h2.size) (hv.below h2 hh') (Nat.le_trans hh' h2.size) hx hfull hz)
  have HCB := Lib.hid (cost_bd hx hz hvr width)
  have HW : Hid (max 0 (min width 100000) = clampW width) := by
    show _ = _
    unfold clampW
    split
    · omega
    · split <;> omega
  have hcw := clampW_bd width
  have HCD : Hid (costR x vals width = ⟨overS (clampW width) (linesR x vals), boundOf x vals⟩) := rfl
  have HLS := Lib.hid (lines_size hx hz vals)
  clear hfull hp hv
  unfold Piece.v at HBI HRI ⊢
  go_enter Try.func76, Try.ntmps76
  go_upto_region 1 with fail
  obtain ⟨hA, hB⟩ := heap_two w (.cells #[.int .i64 x.indent, .slice ra x.rules.length rc, .slice ca x.chunks.length cc, .slice sa x.spans.length sc, .slice ta x.ties.length tc] 29) (.cells #[.int .i64 0, .int .i64 0] 37)
  have hbA : Below w.heap.size w ((w.alloc (.cells #[.int .i64 x.indent, .slice ra x.rules.length rc, .slice ca x.chunks.length cc, .slice sa x.spans.length sc, .slice ta x.ties.length tc] 29)).alloc (.cells #[.int .i64 0, .int .i64 0] 37)) := ((Below.refl _ _).alloc (Nat.le_refl _) _).alloc (by simp) _
  have hsA : w.heap.size + 1 < ((w.alloc (.cells #[.int .i64 x.indent, .slice ra x.rules.length rc, .slice ca x.chunks.length cc, .slice sa x.spans.length sc, .slice ta x.ties.length tc] 29)).alloc (.cells #[.int .i64 0, .int .i64 0] 37)).heap.size := by simp
  generalize (w.alloc (.cells #[.int .i64 x.indent, .slice ra x.rules.length rc, .slice ca x.chunks.length cc, .slice sa x.spans.length sc, .slice ta x.ties.length tc] 29)).alloc (.cells #[.int .i64 0, .int .i64 0] 37) = w0 at *
  have hX0 : PBox x ra rc ca cc sa sc ta tc w.heap.size w0 := hA
  obtain ⟨p0, p1, p2, p3, p4⟩ := hX0.five
  have z0 : w0.cell? ⟨w.heap.size + 1, 0, none⟩ = some (.int .i64 0) := cell_heap0 hB rfl
  have z1 : w0.cell? ⟨w.heap.size + 1, 1, none⟩ = some (.int .i64 0) := cell_heap0 hB rfl
  have g0 : w0.frozen? ⟨w.heap.size + 1, 0, none⟩ = false := frozen_heap0 hB
  have g1 : w0.frozen? ⟨w.heap.size + 1, 1, none⟩ = false := frozen_heap0 hB
  generalize boundOf x vals = bnd at *
  generalize linesR x vals = ls at *
  have hbb : 0 ≤ bnd ∧ bnd ≤ 1000 := by have h := HCB.out; rw [HCD.out] at h; exact ⟨h.2.2.1, h.2.2.2⟩
  go_wp2_with fail
  rw [HW.out]
  generalize clampW width = W at *
  refine (HBI.out w0 hbA).mono ?_
  rintro e w1 ⟨rfl, hb1⟩
  have hs1 := hb1.size
  replace z0 := (hb1.cell (p := ⟨w.heap.size + 1, 0, none⟩) hsA).trans z0
  replace z1 := (hb1.cell (p := ⟨w.heap.size + 1, 1, none⟩) hsA).trans z1
  replace g0 := (hb1.frozen (p := ⟨w.heap.size + 1, 0, none⟩) hsA).trans g0
  replace g1 := (hb1.frozen (p := ⟨w.heap.size + 1, 1, none⟩) hsA).trans g1
  have hB1 := hbA.trans (hb1.mono (show w.heap.size ≤ w0.heap.size by omega))
  obtain ⟨q0, q1, q2, q3, q4⟩ := (hX0.below hb1).five
  have hxl := (hX0.below hb1).lt
  clear p0 p1 p2 p3 p4 hX0 hA hB hbA hb1
  go_wp2_with fail
  have hC := heap_alloc_new w1 (.cells #[.int .i64 0, .int .i64 bnd] 37)
  have hbC : Below w1.heap.size w1 (w1.alloc (.cells #[.int .i64 0, .int .i64 bnd] 37)) := (Below.refl _ _).alloc (Nat.le_refl _) _
  have hsC : w1.heap.size < (w1.alloc (.cells #[.int .i64 0, .int .i64 bnd] 37)).heap.size := by simp
  generalize w1.alloc (.cells #[.int .i64 0, .int .i64 bnd] 37) = w2 at *
  have hw1 : w.heap.size + 1 < w1.heap.size := by omega
  have hB2 := hB1.trans (hbC.mono (by omega))
  refine (HRI.out w2 hB2).mono ?_
  rintro e w3 ⟨u, rfl, hb3, hO3⟩
  have hs3 := hb3.size
  have c0 : w3.cell? ⟨w1.heap.size, 0, none⟩ = some (.int .i64 0) := cell_heap0 (blk hb3 hC) rfl
  have c1 : w3.cell? ⟨w1.heap.size, 1, none⟩ = some (.int .i64 bnd) := cell_heap0 (blk hb3 hC) rfl
  have f0 : w3.frozen? ⟨w1.heap.size, 0, none⟩ = false := frozen_heap0 (blk hb3 hC)
  have hb13 := hbC.trans (hb3.mono (by omega))
  replace z0 := (hb13.cell (p := ⟨w.heap.size + 1, 0, none⟩) hw1).trans z0
  replace z1 := (hb13.cell (p := ⟨w.heap.size + 1, 1, none⟩) hw1).trans z1
  replace g0 := (hb13.frozen (p := ⟨w.heap.size + 1, 0, none⟩) hw1).trans g0
  replace g1 := (hb13.frozen (p := ⟨w.heap.size + 1, 1, none⟩) hw1).trans g1
  have hB3 := hB2.trans (hb3.mono (by omega))
  clear q0 q1 q2 q3 q4 hC hbC hb3 hb13
  obtain ⟨ua, uc, rfl, -, -, -⟩ := hO3.form
  have hsl : w1.heap.size + 1 ≤ w2.heap.size := hsC
  go_wp2_with fail
  go_loopw [21] (fun i wr => ∃ (k : Nat) (z : Int), k ≤ ls.length ∧ i = .int .i64 k ∧ Hid (z = overS W (ls.take k)) ∧ wr.cell? ⟨w1.heap.size, 0, none⟩ = some (.int .i64 z) ∧ wr.cell? ⟨w1.heap.size, 1, none⟩ = some (.int .i64 bnd) ∧ wr.frozen? ⟨w1.heap.size, 0, none⟩ = false ∧ Same w.heap.size w1.heap.size w3 wr ∧ Same w2.heap.size w3.heap.size w3 wr ∧ Below w.heap.size w wr ∧ w3.heap.size ≤ wr.heap.size) (fun i _ => ls.length - (intOf i).toNat)
  case atStart => exact ⟨0, 0, Nat.zero_le _, rfl, rfl, c0, c1, f0, Same.refl _ _ _, Same.refl _ _ _, hB3, Nat.le_refl _⟩
  case round =>
    clear c0 c1 f0
    obtain ⟨k, z, hk, rfl, HZ, c0, c1, f0, hsm, hsm2, hb, hsz⟩ := hrel
    have hzb : 0 ≤ z ∧ z ≤ 8000000000 := by
      have h1 := overS_bd (W := W) hcw.1 (M := 100000000) (ls := ls.take k) (fun l hl => HLS.out.1 l (List.mem_of_mem_take hl))
      have h2 := HLS.out.2
      have h3 : (ls.take k).length ≤ 80 := by rw [List.length_take]; omega
      have := HZ.out
      omega
    by_cases hlt : k < ls.length
    · have hki : (k : Int) < (ls.length : Int) := by omega
      have hkz : (0 : Int) ≤ (k : Int) := by omega
      obtain ⟨hl9, h5⟩ := at_str (hO3.same hsm2).rd
      obtain ⟨b, off, rfl, -, -, d0⟩ := h5 k hlt
      have hls := HLS.out.1 _ (List.getElem_mem hlt)
      have HN : Hid (overS W (ls.take (k + 1)) = z + overOf W ls[k].size) := by show _ = _; rw [List.take_succ_eq_append_getElem hlt, overS_snoc, ← HZ.out]
      clear h5 hl9
      have hk1 : k + 1 ≤ ls.length := hlt
      have hl80 := HLS.out.2
      generalize ls[k] = l at HN d0 hls
      have HM : Hid (max ((l.size : Int) - W) 0 = overOf W l.size) := by
        show _ = _
        unfold overOf
        split <;> omega
      have hob := overOf_bd (W := W) (n := (l.size : Int)) hcw.1 (Int.natCast_nonneg _)
      go_wp2_with fail
      rw [HM.out]
      generalize overOf W (l.size : Int) = ov at *
      have hF0 : Hid ((wr.setCell ⟨w1.heap.size, 0, none⟩ (.int .i64 (z + ov))).cell? ⟨w1.heap.size, 0, none⟩ = some (.int .i64 (z + ov))) := World.cell?_setCell_same (w := wr) (a := ⟨w1.heap.size, 0, none⟩) (v := .int .i64 (z + ov)) c0
      have hF1 : Hid ((wr.setCell ⟨w1.heap.size, 0, none⟩ (.int .i64 (z + ov))).cell? ⟨w1.heap.size, 1, none⟩ = some (.int .i64 bnd)) := (World.cell?_setCell_other _ _ _ _ (fun c => by injection c with _ c _; omega)).trans c1
      have hF2 : Hid ((wr.setCell ⟨w1.heap.size, 0, none⟩ (.int .i64 (z + ov))).frozen? ⟨w1.heap.size, 0, none⟩ = false) := by show _ = _; rw [World.frozen?_setCell]; exact f0
      have hF3 : Hid (Same w.heap.size w1.heap.size w3 (wr.setCell ⟨w1.heap.size, 0, none⟩ (.int .i64 (z + ov)))) := hsm.trans (same_storeAll (g := w1.heap.size) (.inr (Nat.le_refl _)) [.int .i64 (z + ov)] 0 wr)
      have hF4 : Hid (Same w2.heap.size w3.heap.size w3 (wr.setCell ⟨w1.heap.size, 0, none⟩ (.int .i64 (z + ov)))) := hsm2.trans (same_storeAll (g := w1.heap.size) (.inl (by omega)) [.int .i64 (z + ov)] 0 wr)
      have hF5 : Hid (Below w.heap.size w (wr.setCell ⟨w1.heap.size, 0, none⟩ (.int .i64 (z + ov)))) := hb.setCell (p := ⟨w1.heap.size, 0, none⟩) (by show _ ≤ w1.heap.size; omega) _
      have hF6 : Hid (w3.heap.size ≤ (wr.setCell ⟨w1.heap.size, 0, none⟩ (.int .i64 (z + ov))).heap.size) := by show _ ≤ _; simpa [World.setCell] using hsz
      clear c0 c1 f0 hsm hsm2 hb hsz
      go_roundw
      case rel => exact ⟨k + 1, z + ov, hk1, by go_num, HN.out.symm, hF0.out, hF1.out, hF2.out, hF3.out, hF4.out, hF5.out, hF6.out⟩
      case measure => simp [intOf]; omega
    · obtain rfl : k = ls.length := by omega
      rw [List.take_length] at HZ
      have hz9 := HZ.out
      subst hz9
      replace z0 := (cells_same hsm (b := w.heap.size + 1) (j := 0) (by omega) hw1).trans z0
      replace z1 := (cells_same hsm (b := w.heap.size + 1) (j := 1) (by omega) hw1).trans z1
      replace g0 := (frz_same hsm (b := w.heap.size + 1) (j := 0) (by omega) hw1).trans g0
      replace g1 := (frz_same hsm (b := w.heap.size + 1) (j := 1) (by omega) hw1).trans g1
      generalize overS W ls = ov at *
      have r0 : ((wr.setCell ⟨w.heap.size + 1, 0, none⟩ (.int .i64 ov)).setCell ⟨w.heap.size + 1, 1, none⟩ (.int .i64 bnd)).cell? ⟨w.heap.size + 1, 0, none⟩ = some (.int .i64 ov) :=
        (World.cell?_setCell_other _ _ _ _ (fun c => by injection c with _ c _; omega)).trans (World.cell?_setCell_same (w := wr) (a := ⟨w.heap.size + 1, 0, none⟩) (v := .int .i64 ov) z0)
      have r1 : ((wr.setCell ⟨w.heap.size + 1, 0, none⟩ (.int .i64 ov)).setCell ⟨w.heap.size + 1, 1, none⟩ (.int .i64 bnd)).cell? ⟨w.heap.size + 1, 1, none⟩ = some (.int .i64 bnd) :=
        World.cell?_setCell_same (w := wr.setCell ⟨w.heap.size + 1, 0, none⟩ (.int .i64 ov)) (a := ⟨w.heap.size + 1, 1, none⟩) (v := .int .i64 bnd) ((World.cell?_setCell_other _ _ _ _ (fun c => by injection c with _ c _; omega)).trans z1)
      have hBF : Hid (Below w.heap.size w ((wr.setCell ⟨w.heap.size + 1, 0, none⟩ (.int .i64 ov)).setCell ⟨w.heap.size + 1, 1, none⟩ (.int .i64 bnd))) := (hb.setCell (p := ⟨w.heap.size + 1, 0, none⟩) (Nat.le_succ _) _).setCell (p := ⟨w.heap.size + 1, 1, none⟩) (Nat.le_succ _) _
      clear hsm hsm2 hb hzb
      go_wp2_with fail
      refine bodyPost_ret (v := .agg #[.int .i64 ov, .int .i64 bnd]) (by simp [results, Try.results76, go_sem, r0, r1]) rfl ?_
      exact ⟨by rw [HCD.out], hBF.out⟩
end Go.Proofs.Ytllpgomloblfjaa
