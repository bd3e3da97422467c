/- A piece in lines, of the reference. -/
import Derived.Test.YtllpgomloblfjaaRendT
namespace Go.Proofs.Ytllpgomloblfjaa
open Go.RowKit

set_option maxHeartbeats 1000000 in
set_option maxRecDepth 100000 in
theorem l09Pad (z : Int) (h0 : 0 ≤ z) (h1 : z ≤ 100) (w : World) : Calls Try.prog 115 #[.int .i64 z] w fun e w' => e = .returned (.string (padB z.toNat)) ∧ w' = w := by
  obtain ⟨q, rfl⟩ := Int.eq_ofNat_of_zero_le h0
  rw [Int.toNat_natCast]
  go_enter Try.func115, Try.ntmps115
  go_wp2
  go_loop [3, 4] (fun s i => ∃ k : Nat, k ≤ q ∧ i = .int .i64 k ∧ s = .string (padB k)) (fun _ i => q - (intOf i).toNat)
  case atStart => exact ⟨0, Nat.zero_le _, rfl, rfl⟩
  case round =>
    obtain ⟨k, hk, rfl, rfl⟩ := hrel
    have hz := padB_size k
    have HS := Lib.hid (padB_succ k)
    by_cases hlt : k < q
    · have hki : (k : Int) < (q : Int) := by omega
      go_wp2
      go_round
      case rel => exact ⟨k + 1, by omega, by go_num, by rw [HS.out]⟩
      case measure => simp [intOf]; omega
    · have hki : ¬ (k : Int) < (q : Int) := by omega
      obtain rfl : k = q := by omega
      go_wp2
      go_ret
      exact ⟨rfl, rfl⟩
set_option maxHeartbeats 2000000 in
set_option maxRecDepth 100000 in
theorem l09Render_any (x : Piece) (vals : List Int) (ra ca sa ta va : Option Addr) (rc cc sc tc vc lo hi lo' hi' : Nat) (w : World) (hp : PFour x ra rc ca cc sa sc ta tc lo hi w) (hh : hi ≤ w.heap.size) (hv : Rd intF.shape lo' hi' w (.slice va vals.length vc) vals) (hh' : hi' ≤ w.heap.size) (hx : Right x) (hfull : vals.length = x.rules.length) (hz : Sized x) :
    Calls Try.prog 78 #[x.v ra rc ca cc sa sc ta tc, .slice va vals.length vc] w fun e w' => ∃ u, e = .returned u ∧ Below w.heap.size w w' ∧ Own strF 9 w.heap.size w'.heap.size w' u (linesR x vals) := by
  obtain ⟨i0, hi0, hz0, hz1, hz2⟩ := info_parts Try.infoStrR
  have hp0 := hp
  obtain ⟨hr, hc, hsp, ht⟩ := hp
  obtain ⟨hcl, hc5⟩ := at_chunk hc
  obtain ⟨hin1, hin2⟩ := hx.indent
  obtain ⟨hcn1, hcn2⟩ := hx.chunks
  obtain ⟨B, HB⟩ : ∃ B, Hid (B = w.heap.size) := ⟨_, rfl⟩
  have hBw : B ≤ w.heap.size := Nat.le_of_eq HB.out
  have hBw' : w.heap.size ≤ B := Nat.le_of_eq HB.out.symm
  have HFU := Lib.hid hfull
  unfold Piece.v
  have hX0 := PBox.new x ra ca sa ta rc cc sc tc w
  have hb0 : Below B w (w.alloc (.cells #[.int .i64 x.indent, .slice ra x.rules.length rc, .slice ca x.chunks.length cc, .slice sa x.spans.length sc, .slice ta x.ties.length tc] 29)) := (Below.refl _ _).alloc hBw _
  go_enter Try.func78, Try.ntmps78
  go_upto_region 2 with fail
  have hX1 := hX0.alloc (.cells #[] 9)
  have hB1 := hb0.alloc (by simp; omega) (.cells #[] 9)
  have hO1 := empty2 strF 9 (lo := w.heap.size + 1) (w := w) (A := (.cells #[.int .i64 x.indent, .slice ra x.rules.length rc, .slice ca x.chunks.length cc, .slice sa x.spans.length sc, .slice ta x.ties.length tc] 29)) (Nat.le_refl _)
  have hs1 : w.heap.size + 1 ≤ ((w.alloc (.cells #[.int .i64 x.indent, .slice ra x.rules.length rc, .slice ca x.chunks.length cc, .slice sa x.spans.length sc, .slice ta x.ties.length tc] 29)).alloc (.cells #[] 9)).heap.size := by simp
  clear hX0 hb0
  generalize (w.alloc (.cells #[.int .i64 x.indent, .slice ra x.rules.length rc, .slice ca x.chunks.length cc, .slice sa x.spans.length sc, .slice ta x.ties.length tc] 29)).alloc (.cells #[] 9) = w1 at *
  obtain ⟨p0, p1, p2, p3, p4⟩ := hX1.five
  obtain ⟨C, HC⟩ : ∃ C, Hid (C = w.heap.size + 1) := ⟨_, rfl⟩
  have hBC : w.heap.size < C := by have := HC.out; omega
  have hCw : C ≤ w1.heap.size := by have := HC.out; omega
  rw [← HC.out] at hO1
  have hO2 : Own strF 9 C w1.heap.size w1 (.slice (some ⟨w.heap.size + 1, 0, none⟩) 0 0) [] := by rw [← HC.out]; exact hO1
  clear hfull hs1 hO1
  go_wp2_with fail
  refine (l09Pad x.indent hin1 (by omega) w1).mono ?_
  rintro e w' ⟨rfl, rfl⟩
  clear p0 p1 p2 p3 p4
  go_wp2_with fail
  go_loopw [5, 6, 7] (fun lv sv i wr => ∃ (k : Nat) (ls : List ByteArray) (l : ByteArray), k + 1 ≤ x.chunks.length ∧ i = .int .i64 k ∧ sv = .string l ∧ Hid (rendTo x vals k = (ls, l)) ∧ Own strF 9 C wr.heap.size wr lv ls ∧ Below C w' wr) (fun _ _ i _ => x.chunks.length - (intOf i).toNat)
  case atStart => exact ⟨0, [], _, by omega, rfl, rfl, rfl, hO2, Below.refl _ _⟩
  case round =>
    clear hO2
    obtain ⟨k, ls, l, hk, rfl, rfl, HT, hO, hbc⟩ := hrel
    have hX : PBox x ra rc ca cc sa sc ta tc w.heap.size wr := (hbc.block w.heap.size hBC).trans hX1
    have hb := hB1.trans (hbc.mono (by omega))
    have hcsz := hbc.size
    have hsz := hb.size
    have hxl := hX.lt
    have hlt : k < x.chunks.length := by omega
    have hki : (k : Int) < (x.chunks.length : Int) := by omega
    have hkz : (0 : Int) ≤ (k : Int) := by omega
    have hkw : IntKind.i64.wrap ((k : Int) + 1) = (k : Int) + 1 := IntWalk.i64_in _ (by omega)
    obtain ⟨z1, z2, -⟩ := rend_size hx hz vals k hlt
    rw [HT.out] at z1 z2
    simp only at z1 z2
    obtain ⟨p0, p1, p2, p3, p4⟩ := hX.five
    obtain ⟨b, off, rfl, hlo, hhi, c0, c1, c2, c3, c4⟩ := hc5 k hlt
    have hbb : b < B := by omega
    have d0 := (hb.cell (p := ⟨b, _, none⟩) hbb).trans c0
    have htx := hz.text _ (List.getElem_mem hlt)
    have HSP : Hid (splitsAt x vals k = true → rendTo x vals (k + 1) = (ls ++ [l ++ x.chunks[k].text], padB (x.indent + x.chunks[k].nest).toNat)) := fun h => by rw [rend_split hlt h, HT.out]
    have HJO : Hid (splitsAt x vals k = false → rendTo x vals (k + 1) = (ls, if x.chunks[k].space then l ++ x.chunks[k].text ++ ⟨#[32]⟩ else l ++ x.chunks[k].text)) := fun h => by rw [rend_join hlt h, HT.out]
    have HLA : Hid (k = x.chunks.length - 1 → linesR x vals = ls ++ [l ++ x.chunks[k].text]) := fun h => by rw [rend_last hlt h, HT.out]
    have HCH : Hid (k + 1 < x.chunks.length → 0 ≤ x.chunks[k].rule ∧ x.chunks[k].rule < x.rules.length ∧ 1 ≤ x.chunks[k].fro ∧ x.chunks[k].fro ≤ 2 ∧ 0 ≤ x.chunks[k].nest ∧ x.chunks[k].nest ≤ 40) := fun h => chunk_of hx h
    have HD : Hid (∀ (w2 : World), Below B w w2 → w2.cell? ⟨b, off + k * 5 + 1 + 1 + 1, none⟩ = some (.bool x.chunks[k].space) ∧ w2.cell? ⟨b, off + k * 5 + 1 + 1 + 1 + 1, none⟩ = some (.int .i64 x.chunks[k].nest)) := fun w2 h2 => ⟨(h2.cell (p := ⟨b, _, none⟩) hbb).trans c3, (h2.cell (p := ⟨b, _, none⟩) hbb).trans c4⟩
    have HSI := Lib.hid (fun (w2 : World) (h2 : Below B w w2) (h0 : 0 ≤ x.chunks[k].rule) (h1 : x.chunks[k].rule < (vals.length : Int)) => l08At_any x vals ra _ sa ta va rc cc sc tc vc k lo hi lo' hi' w2 (hp0.below h2 (by omega)) (by have := h2.size; omega) (hv.below h2 (by omega)) (by have := h2.size; omega) hlt h0 h1)
    clear c0 c1 c2 c3 c4 hc5
    generalize x.chunks[k] = ck at *
    obtain ⟨text, rule, fro, space, nest⟩ := ck
    simp only at d0 htx HSP HJO HLA HCH HSI HD
    have hsc : (l ++ text).size ≤ 95000000 := by rw [ByteArray.size_append]; omega
    by_cases g2 : k = x.chunks.length - 1
    · have g2d : ((k : Int) + 1 == (x.chunks.length : Int)) = true := beq_iff_eq.2 (by omega)
      have HF := Lib.hid (HLA.out g2)
      clear HSP HJO HLA HCH HSI g2
      go_wp2_with (at_builtin; refine wp_app1 (F := strF) (P := Try.prog) (y := l ++ text) rfl (.tmp 61) (.tmp 63) 51 rfl Try.underlying51 hi0 hz0 hz1 hz2 rfl (by decide) rfl (hO.alloc _) wr.heap.size rfl (heap_alloc_new _ _) rfl (by omega) (by omega) (by simp; omega) ?_; intro v' w9 hO9 hb9)
      go_ret
      have hB9 : Below C wr w9 := blw_al1 hb9 (by omega)
      have hBF := hb.trans (hB9.mono (by omega))
      rw [HF.out]
      exact ⟨_, rfl, by rw [← HB.out]; exact hBF, hO9.wide (by omega) (Nat.le_refl _)⟩
    · have g2d : ((k : Int) + 1 == (x.chunks.length : Int)) = false := by simp; omega
      obtain ⟨r1, r2, -, -, r5, r6⟩ := HCH.out (by omega)
      have hrv : rule < (vals.length : Int) := by rw [HFU.out]; exact r2
      go_wp2_with fail
      refine (HSI.out wr hb r1 hrv).mono ?_
      rintro e w3 ⟨rfl, hb3⟩
      have hs3 := hb3.size
      have hO3 := (hO.below hb3 (Nat.le_refl _)).wide (Nat.le_refl _) hs3
      have hX3 := hX.below hb3
      have hbc3 := hbc.trans (hb3.mono (by omega))
      have hB3 := hb.trans (hb3.mono (by omega))
      clear p0 p1 p2 p3 p4 d0 hb3 hO HSI hX
      cases gs : splitsAt x vals k with
      | true =>
        have HT2 := Lib.hid (HSP.out gs)
        clear HSP HJO HLA HCH gs
        go_upto_region 10 with (at_builtin; refine wp_app1 (F := strF) (P := Try.prog) (y := l ++ text) rfl (.tmp 37) (.tmp 39) 51 rfl Try.underlying51 hi0 hz0 hz1 hz2 rfl (by decide) rfl (hO3.alloc _) w3.heap.size rfl (heap_alloc_new _ _) rfl (by omega) (by omega) (by simp; omega) ?_; intro v' w9 hO9 hb9)
        have hB9 : Below C w3 w9 := blw_al1 hb9 (by omega)
        obtain ⟨-, d4⟩ := HD.out w9 (hB3.trans (hB9.mono (by omega)))
        obtain ⟨p0, p1, p2, p3, p4⟩ := PBox.five ((hB9.block w.heap.size hBC).trans hX3)
        have hnw : IntKind.i64.wrap (x.indent + nest) = x.indent + nest := IntWalk.i64_in _ (by omega)
        have hbF := hbc3.trans hB9
        go_wp2_with fail
        refine wp_region_held_drew (S := fun w' => w' = w9.drew) (by kernel_rfl) ?_ (fun hHeld => ?_)
        · exact rfl
        refine wpAnyH_take (i := 0) (v := ?v1) (at_op rfl) (by kernel_rfl) (by kernel_rfl) (by kernel_rfl) (fun _ _ _ h => h) (Or.inl ⟨by rfl, ?y1⟩) (by assumption) ?r1
        case y1 =>
          intro wx hSx
          subst hSx
          go_simp
          try with_reducible rfl
        try simp only [Act.put, List.setIfInBounds_toArray, List.set_cons_zero, List.set_cons_succ]
        refine wpAnyH_take (i := 1) (v := ?v2) (at_op rfl) (by kernel_rfl) (by kernel_rfl) (by kernel_rfl) (fun _ _ _ h => h) (Or.inl ⟨by rfl, ?y2⟩) (by assumption) ?r2
        case y2 =>
          intro wx hSx
          subst hSx
          go_simp
          try with_reducible rfl
        try simp only [Act.put, List.setIfInBounds_toArray, List.set_cons_zero, List.set_cons_succ]
        refine wpAnyH_take (i := 2) (v := ?v3) (at_op rfl) (by kernel_rfl) (by kernel_rfl) (by kernel_rfl) (fun _ _ _ h => h) (Or.inl ⟨by rfl, ?y3⟩) (by assumption) ?r3
        case y3 =>
          intro wx hSx
          subst hSx
          go_simp
          try with_reducible rfl
        try simp only [Act.put, List.setIfInBounds_toArray, List.set_cons_zero, List.set_cons_succ]
        refine wpAnyH_take (i := 3) (v := ?v4) (at_op rfl) (by kernel_rfl) (by kernel_rfl) (by kernel_rfl) (fun _ _ _ h => h) (Or.inl ⟨by rfl, ?y4⟩) (by assumption) ?r4
        case y4 =>
          intro wx hSx
          subst hSx
          go_simp
          try with_reducible rfl
        try simp only [Act.put, List.setIfInBounds_toArray, List.set_cons_zero, List.set_cons_succ]
        refine wpAnyH_take (i := 4) (v := ?v5) (at_op rfl) (by kernel_rfl) (by kernel_rfl) (by kernel_rfl) (fun _ _ _ h => h) (Or.inl ⟨by rfl, ?y5⟩) (by assumption) ?r5
        case y5 =>
          intro wx hSx
          subst hSx
          go_simp
          try with_reducible rfl
        try simp only [Act.put, List.setIfInBounds_toArray, List.set_cons_zero, List.set_cons_succ]
        refine wpAnyH_take (i := 5) (v := ?v6) (at_op rfl) (by kernel_rfl) (by kernel_rfl) (by kernel_rfl) (fun _ _ _ h => h) (Or.inl ⟨by rfl, ?y6⟩) (by assumption) ?r6
        case y6 =>
          intro wx hSx
          subst hSx
          go_simp
          try with_reducible rfl
        try simp only [Act.put, List.setIfInBounds_toArray, List.set_cons_zero, List.set_cons_succ]
        refine wpAnyH_take (i := 6) (v := ?v7) (at_op rfl) (by kernel_rfl) (by kernel_rfl) (by kernel_rfl) (fun _ _ _ h => h) (Or.inl ⟨by rfl, ?y7⟩) (by assumption) ?r7
        case y7 =>
          intro wx hSx
          subst hSx
          go_simp
          try with_reducible rfl
        try simp only [Act.put, List.setIfInBounds_toArray, List.set_cons_zero, List.set_cons_succ]
        refine wpAnyH_take (i := 7) (v := ?v8) (at_op rfl) (by kernel_rfl) (by kernel_rfl) (by kernel_rfl) (fun _ _ _ h => h) (Or.inl ⟨by rfl, ?y8⟩) (by assumption) ?r8
        case y8 =>
          intro wx hSx
          subst hSx
          go_simp
          try with_reducible rfl
        try simp only [Act.put, List.setIfInBounds_toArray, List.set_cons_zero, List.set_cons_succ]
        refine wpAnyH_take (i := 8) (v := ?v9) (at_op rfl) (by kernel_rfl) (by kernel_rfl) (by kernel_rfl) (fun _ _ _ h => h) (Or.inl ⟨by rfl, ?y9⟩) (by assumption) ?r9
        case y9 =>
          intro wx hSx
          subst hSx
          go_simp
          try with_reducible rfl
        try simp only [Act.put, List.setIfInBounds_toArray, List.set_cons_zero, List.set_cons_succ]
        refine wpAnyH_take (i := 9) (v := ?v10) (at_op rfl) (by kernel_rfl) (by kernel_rfl) (by kernel_rfl) (fun _ _ _ h => h) (Or.inl ⟨by rfl, ?y10⟩) (by assumption) ?r10
        case y10 =>
          intro wx hSx
          subst hSx
          go_simp
          try with_reducible rfl
        try simp only [Act.put, List.setIfInBounds_toArray, List.set_cons_zero, List.set_cons_succ]
        refine wpAnyH_ready (rs := [10]) (by kernel_rfl) (by simp) ?_
        refine AllReadyH.cons (at_op rfl) (fun K hK => ?_) AllReadyH.nil
        go_simp
        refine (l09Pad (x.indent + nest) (by omega) (by omega) _).mono ?_
        rintro e w' ⟨rfl, rfl⟩
        go_wp2_with fail
        refine hK.out _ _ rfl (fun _ => ?_)
        clear hK K
        try simp only [Act.put, List.setIfInBounds_toArray, List.set_cons_zero, List.set_cons_succ]
        refine wpAnyH_take (i := 11) (v := ?v11) (at_op rfl) (by kernel_rfl) (by kernel_rfl) (by kernel_rfl) (fun _ _ _ h => h) (Or.inl ⟨by rfl, ?y11⟩) (by assumption) ?r11
        case y11 =>
          intro wx hSx
          subst hSx
          go_simp
          try with_reducible rfl
        try simp only [Act.put, List.setIfInBounds_toArray, List.set_cons_zero, List.set_cons_succ]
        refine wpAnyH_done (by kernel_rfl) ?_ _
        go_wp2
        go_roundw
        case rel => exact ⟨k + 1, _, _, by omega, by go_num, rfl, HT2.out, hO9, hbF.drew⟩
        case measure => simp [intOf]; omega
      | false =>
        have HT2 := Lib.hid (HJO.out gs)
        obtain ⟨d3, -⟩ := HD.out w3 hB3
        obtain ⟨p0, p1, p2, p3, p4⟩ := hX3.five
        clear HSP HJO HLA HCH gs HD
        cases space with
        | true =>
          go_wp2
          go_roundw
          case rel => exact ⟨k + 1, _, _, by omega, by go_num, rfl, HT2.out, hO3, hbc3⟩
          case measure => simp [intOf]; omega
        | false =>
          go_wp2
          go_roundw
          case rel => exact ⟨k + 1, _, _, by omega, by go_num, rfl, HT2.out, hO3, hbc3⟩
          case measure => simp [intOf]; omega
end Go.Proofs.Ytllpgomloblfjaa
