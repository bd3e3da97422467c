/- A piece in lines, of both; splits; bytes that are no blanks; lines one behind the other. -/
import Derived.Test.YtllpgomloblfjaaDrawPr
import Derived.Test.YtllpgomloblfjaaCostT
import Derived.Test.YtllpgomloblfjaaRendL
import Derived.Test.YtllpgomloblfjaaRendZ
import Derived.Laws.IdiomStrings
namespace Go.Proofs.Ytllpgomloblfjaa
open Go.RowKit

def linesB (x : Piece) (v : List Int) : List ByteArray := if pieceOk x && valuesOk x.rules v then linesR x v else []
theorem linesB_full {x : Piece} {v : List Int} (hp : pieceOk x = true) (hf : FullV x v) : linesB x v = linesR x v := by
  unfold linesB
  rw [hp, valuesOk_full (right_of hp) hf]; rfl
set_option maxHeartbeats 2000000 in
set_option maxRecDepth 100000 in
theorem renderTop_spec (x : Piece) (v : List Int) (ra ca sa ta va : Option Addr) (rc cc sc tc vc lo hi lo' hi' : Nat) (w : World) (hp : PFour x ra rc ca cc sa sc ta tc lo hi w) (hh : hi ≤ w.heap.size) (hv : Rd intF.shape lo' hi' w (.slice va v.length vc) v) (hh' : hi' ≤ w.heap.size) (hz : Sized x) :
    Calls Try.prog 39 #[x.v ra rc ca cc sa sc ta tc, .slice va v.length vc] w fun e w' => ∃ u, e = .returned u ∧ Below w.heap.size w w' ∧ Own strF 9 w.heap.size w'.heap.size w' u (linesB x v) := by
  have hT : ∀ c ∈ x.chunks, c.text.size ≤ maxLen := fun c hc => by have := hz.text c hc; unfold maxLen; omega
  have HPP := Lib.hid (fun (w2 : World) (h2 : Below w.heap.size w w2) => hp.below h2 hh)
  have HVV := Lib.hid (fun (w2 : World) (h2 : Below w.heap.size w w2) => hv.below h2 hh')
  obtain ⟨cb, hcb⟩ : ∃ cb, Hid (linesB x v = cb) := ⟨_, rfl⟩
  rw [hcb.out]
  unfold Piece.v
  go_enter Try.func39, Try.ntmps39
  go_upto_region 1 with fail
  have hX0 := heap_alloc_new w (.cells #[.int .i64 x.indent, .slice ra x.rules.length rc, .slice ca x.chunks.length cc, .slice sa x.spans.length sc, .slice ta x.ties.length tc] 29)
  have hb0 : Below w.heap.size w (w.alloc (.cells #[.int .i64 x.indent, .slice ra x.rules.length rc, .slice ca x.chunks.length cc, .slice sa x.spans.length sc, .slice ta x.ties.length tc] 29)) := (Below.refl _ _).alloc (Nat.le_refl _) _
  have hs0 := hb0.size
  obtain ⟨P, hPe⟩ : ∃ P, Hid (P = w.heap.size) := ⟨_, rfl⟩
  rw [← hPe.out] at hX0 ⊢
  clear hPe
  generalize w.alloc (.cells #[.int .i64 x.indent, .slice ra x.rules.length rc, .slice ca x.chunks.length cc, .slice sa x.spans.length sc, .slice ta x.ties.length tc] 29) = w0 at *
  replace hX0 : PBox x ra rc ca cc sa sc ta tc P w0 := hX0
  obtain ⟨p0, p1, p2, p3, p4⟩ := hX0.five
  have HPK := Lib.hid (pieceOk_spec x ra ca sa ta rc cc sc tc lo hi w0 (HPP.out w0 hb0) (by omega) hT)
  unfold Piece.v at HPK
  go_wp2_with fail
  refine HPK.out.mono ?_
  clear HPK p0 p1 p2 p3 p4
  rintro e w1 ⟨rfl, k1⟩
  have hb1 := hb0.trans (k1.mono (by omega))
  have hX1 := hX0.below k1
  have hs1 := k1.size
  clear hX0 hb0 k1
  cases g2 : pieceOk x with
  | false =>
    obtain rfl : [] = cb := by rw [← hcb.out]; unfold linesB; rw [g2]; rfl
    clear hcb
    have HB := hb1
    go_wp2
    go_ret
    have hbe : Below w1.heap.size w1 (w1.alloc (.cells #[] 9)) := (Below.refl _ _).alloc (Nat.le_refl _) _
    exact ⟨_, rfl, HB.trans (hbe.mono HB.size), (Own.empty strF 9 w1.heap.size w1 (Nat.le_refl _)).wide HB.size (Nat.le_refl _)⟩
  | true =>
  have hx := right_of g2
  have HVK := valuesOk_spec x v ra ca sa ta va rc cc sc tc vc lo hi lo' hi' w1 (HPP.out w1 hb1) (by omega) (HVV.out w1 hb1) (by omega)
  unfold Piece.v at HVK
  replace HVK := Lib.hid HVK
  obtain ⟨p0, p1, p2, p3, p4⟩ := hX1.five
  have HG2 := Lib.hid g2
  clear g2
  go_wp2_with fail
  refine HVK.out.mono ?_
  clear HVK p0 p1 p2 p3 p4
  rintro e w2 ⟨rfl, k2⟩
  have hb2 := hb1.trans (k2.mono (by omega))
  have hX2 := hX1.below k2
  have hs2 := k2.size
  clear hX1 hb1 k2
  cases g3 : valuesOk x.rules v with
  | false =>
    obtain rfl : [] = cb := by rw [← hcb.out]; unfold linesB; rw [HG2.out, g3]; rfl
    clear hcb
    have HB := hb2
    go_wp2
    go_ret
    have hbe : Below w2.heap.size w2 (w2.alloc (.cells #[] 9)) := (Below.refl _ _).alloc (Nat.le_refl _) _
    exact ⟨_, rfl, HB.trans (hbe.mono HB.size), (Own.empty strF 9 w2.heap.size w2 (Nat.le_refl _)).wide HB.size (Nat.le_refl _)⟩
  | true =>
    obtain rfl : linesR x v = cb := by rw [← hcb.out]; unfold linesB; rw [HG2.out, g3]; rfl
    have hf := full_of hx g3
    have HCO := l09Render_any x v ra ca sa ta va rc cc sc tc vc lo hi lo' hi' w2 (HPP.out w2 hb2) (by omega) (HVV.out w2 hb2) (by omega) hx hf.full hz
    unfold Piece.v at HCO
    replace HCO := Lib.hid HCO
    obtain ⟨p0, p1, p2, p3, p4⟩ := hX2.five
    clear g3 hcb
    go_wp2_with fail
    refine HCO.out.mono ?_
    rintro e w3 ⟨u, rfl, k3, hO⟩
    go_wp2
    go_ret
    exact ⟨u, rfl, hb2.trans (k3.mono (by omega)), hO.wide (by omega) (Nat.le_refl _)⟩
set_option maxHeartbeats 2000000 in
set_option maxRecDepth 100000 in
theorem renderTop_impl (x : Piece) (v : List Int) (ra ca sa ta va : Option Addr) (rc cc sc tc vc lo hi lo' hi' : Nat) (w : World) (hp : PFour x ra rc ca cc sa sc ta tc lo hi w) (hh : hi ≤ w.heap.size) (hv : Rd intF.shape lo' hi' w (.slice va v.length vc) v) (hh' : hi' ≤ w.heap.size) (hz : Sized x) :
    Calls Try.prog 29 #[x.v ra rc ca cc sa sc ta tc, .slice va v.length vc] w fun e w' => ∃ u, e = .returned u ∧ Below w.heap.size w w' ∧ Own strF 9 w.heap.size w'.heap.size w' u (linesB x v) := by
  have hT : ∀ c ∈ x.chunks, c.text.size ≤ maxLen := fun c hc => by have := hz.text c hc; unfold maxLen; omega
  have HPP := Lib.hid (fun (w2 : World) (h2 : Below w.heap.size w w2) => hp.below h2 hh)
  have HVV := Lib.hid (fun (w2 : World) (h2 : Below w.heap.size w w2) => hv.below h2 hh')
  obtain ⟨cb, hcb⟩ : ∃ cb, Hid (linesB x v = cb) := ⟨_, rfl⟩
  rw [hcb.out]
  unfold Piece.v
  go_enter Try.func29, Try.ntmps29
  go_upto_region 1 with fail
  have hX0 := heap_alloc_new w (.cells #[.int .i64 x.indent, .slice ra x.rules.length rc, .slice ca x.chunks.length cc, .slice sa x.spans.length sc, .slice ta x.ties.length tc] 29)
  have hb0 : Below w.heap.size w (w.alloc (.cells #[.int .i64 x.indent, .slice ra x.rules.length rc, .slice ca x.chunks.length cc, .slice sa x.spans.length sc, .slice ta x.ties.length tc] 29)) := (Below.refl _ _).alloc (Nat.le_refl _) _
  have hs0 := hb0.size
  obtain ⟨P, hPe⟩ : ∃ P, Hid (P = w.heap.size) := ⟨_, rfl⟩
  rw [← hPe.out] at hX0 ⊢
  clear hPe
  generalize w.alloc (.cells #[.int .i64 x.indent, .slice ra x.rules.length rc, .slice ca x.chunks.length cc, .slice sa x.spans.length sc, .slice ta x.ties.length tc] 29) = w0 at *
  replace hX0 : PBox x ra rc ca cc sa sc ta tc P w0 := hX0
  obtain ⟨p0, p1, p2, p3, p4⟩ := hX0.five
  have HPK := Lib.hid (pieceOk_impl x ra ca sa ta rc cc sc tc lo hi w0 (HPP.out w0 hb0) (by omega) hT)
  unfold Piece.v at HPK
  go_wp2_with fail
  refine HPK.out.mono ?_
  clear HPK p0 p1 p2 p3 p4
  rintro e w1 ⟨rfl, k1⟩
  have hb1 := hb0.trans (k1.mono (by omega))
  have hX1 := hX0.below k1
  have hs1 := k1.size
  clear hX0 hb0 k1
  cases g2 : pieceOk x with
  | false =>
    obtain rfl : [] = cb := by rw [← hcb.out]; unfold linesB; rw [g2]; rfl
    clear hcb
    have HB := hb1
    go_wp2
    go_ret
    exact ⟨_, rfl, HB, Own.nil _ _ _ _ _⟩
  | true =>
  have hx := right_of g2
  have HVK := valuesOk_impl x v ra ca sa ta va rc cc sc tc vc lo hi lo' hi' w1 (at_rule (HPP.out w1 hb1).r).1 (fun k h => by obtain ⟨b, off, a1, a2, a3, a4, -⟩ := (at_rule (HPP.out w1 hb1).r).2 k h; exact ⟨b, off, a1, a2, a3, a4⟩) (by omega) (HVV.out w1 hb1) (by omega)
  unfold Piece.v at HVK
  replace HVK := Lib.hid HVK
  obtain ⟨p0, p1, p2, p3, p4⟩ := hX1.five
  have HG2 := Lib.hid g2
  clear g2
  go_wp2_with fail
  refine HVK.out.mono ?_
  clear HVK p0 p1 p2 p3 p4
  rintro e w2 ⟨rfl, k2⟩
  have hb2 := hb1.trans (k2.mono (by omega))
  have hX2 := hX1.below k2
  have hs2 := k2.size
  clear hX1 hb1 k2
  cases g3 : valuesOk x.rules v with
  | false =>
    obtain rfl : [] = cb := by rw [← hcb.out]; unfold linesB; rw [HG2.out, g3]; rfl
    clear hcb
    have HB := hb2
    go_wp2
    go_ret
    exact ⟨_, rfl, HB, Own.nil _ _ _ _ _⟩
  | true =>
    obtain rfl : linesR x v = cb := by rw [← hcb.out]; unfold linesB; rw [HG2.out, g3]; rfl
    have hf := full_of hx g3
    have HCO := render_impl x v ra ca sa ta va rc cc sc tc vc lo hi lo' hi' w2 (HPP.out w2 hb2) (by omega) (HVV.out w2 hb2) (by omega) hx hf.full hz
    unfold Piece.v at HCO
    replace HCO := Lib.hid HCO
    obtain ⟨p0, p1, p2, p3, p4⟩ := hX2.five
    clear g3 hcb
    go_wp2_with fail
    refine HCO.out.mono ?_
    rintro e w3 ⟨u, rfl, k3, hO⟩
    go_wp2
    go_ret
    exact ⟨u, rfl, hb2.trans (k3.mono (by omega)), hO.wide (by omega) (Nat.le_refl _)⟩
set_option maxHeartbeats 1000000 in
set_option maxRecDepth 100000 in
theorem splitsAt_spec (x : Piece) (v : List Int) (ra ca sa ta va : Option Addr) (rc cc sc tc vc lo hi lo' hi' : Nat) (w : World) (hp : PFour x ra rc ca cc sa sc ta tc lo hi w) (hh : hi ≤ w.heap.size) (hv : Rd intF.shape lo' hi' w (.slice va v.length vc) v) (hh' : hi' ≤ w.heap.size) (hok : pieceOk x = true) (hf : FullV x v) (hz : Sized x) (i : Nat) (hi1 : i + 1 < x.chunks.length) :
    Calls Try.prog 30 #[x.v ra rc ca cc sa sc ta tc, .slice va v.length vc, .int .i64 i] w fun e w' => e = .returned (.bool (splitsAt x v i)) ∧ Below w.heap.size w w' := by
  have hT : ∀ c ∈ x.chunks, c.text.size ≤ maxLen := fun c hc => by have := hz.text c hc; unfold maxLen; omega
  have HPP := Lib.hid (fun (w2 : World) (h2 : Below w.heap.size w w2) => hp.below h2 hh)
  have HVV := Lib.hid (fun (w2 : World) (h2 : Below w.heap.size w w2) => hv.below h2 hh')
  have hx := right_of hok
  have hl80 := hx.chunks
  have hsp := hx.split i hi1
  unfold splitOk at hsp
  simp only [Bool.and_eq_true] at hsp
  obtain ⟨⟨hsp1, -⟩, -⟩ := hsp
  have hsp2 := inR_of hsp1
  have hfl := hf.full
  have hrl := hx.rules
  have HS := Lib.hid (fun (w2 : World) (h2 : Below w.heap.size w w2) => l08At_any x v ra ca sa ta va rc cc sc tc vc i lo hi lo' hi' w2 (HPP.out w2 h2) (Nat.le_trans hh h2.size) (HVV.out w2 h2) (Nat.le_trans hh' h2.size) (by omega) hsp2.1 (by have : x.chunks[i].rule ≤ (x.rules.length : Int) - 1 := hsp2.2; omega))
  clear hsp1 hsp2 hfl
  unfold Piece.v at HS ⊢
  go_enter Try.func30, Try.ntmps30
  go_upto_region 1 with fail
  have hX0 := heap_alloc_new w (.cells #[.int .i64 x.indent, .slice ra x.rules.length rc, .slice ca x.chunks.length cc, .slice sa x.spans.length sc, .slice ta x.ties.length tc] 29)
  have hb0 : Below w.heap.size w (w.alloc (.cells #[.int .i64 x.indent, .slice ra x.rules.length rc, .slice ca x.chunks.length cc, .slice sa x.spans.length sc, .slice ta x.ties.length tc] 29)) := (Below.refl _ _).alloc (Nat.le_refl _) _
  have hs0 := hb0.size
  obtain ⟨P, hPe⟩ : ∃ P, Hid (P = w.heap.size) := ⟨_, rfl⟩
  rw [← hPe.out] at hX0 ⊢
  clear hPe
  generalize w.alloc (.cells #[.int .i64 x.indent, .slice ra x.rules.length rc, .slice ca x.chunks.length cc, .slice sa x.spans.length sc, .slice ta x.ties.length tc] 29) = w0 at *
  replace hX0 : PBox x ra rc ca cc sa sc ta tc P w0 := hX0
  obtain ⟨p0, p1, p2, p3, p4⟩ := hX0.five
  have HPK := Lib.hid (pieceOk_spec x ra ca sa ta rc cc sc tc lo hi w0 (HPP.out w0 hb0) (by omega) hT)
  unfold Piece.v at HPK
  go_wp2_with fail
  refine HPK.out.mono ?_
  clear HPK p0 p1 p2 p3 p4
  rintro e w1 ⟨rfl, k1⟩
  rw [hok]
  have hb1 := hb0.trans (k1.mono (by omega))
  have hX1 := hX0.below k1
  have hs1 := k1.size
  clear hX0 hb0 k1
  have HVK := valuesOk_spec x v ra ca sa ta va rc cc sc tc vc lo hi lo' hi' w1 (HPP.out w1 hb1) (by omega) (HVV.out w1 hb1) (by omega)
  unfold Piece.v at HVK
  rw [valuesOk_full hx hf] at HVK
  replace HVK := Lib.hid HVK
  obtain ⟨p0, p1, p2, p3, p4⟩ := hX1.five
  go_wp2_with fail
  refine HVK.out.mono ?_
  clear HVK p0 p1 p2 p3 p4
  rintro e w2 ⟨rfl, k2⟩
  have hb2 := hb1.trans (k2.mono (by omega))
  have hX2 := hX1.below k2
  have hs2 := k2.size
  clear hX1 hb1 k2
  obtain ⟨p0, p1, p2, p3, p4⟩ := hX2.five
  go_wp2_with fail
  refine (l01In_any (i : Int) 0 ((x.chunks.length : Int) - 2) w2).mono ?_
  rintro e w' ⟨rfl, rfl⟩
  rw [inR_yes (by omega) (by omega)]
  go_wp2_with fail
  refine (HS.out w2 hb2).mono ?_
  rintro e w3 ⟨rfl, k3⟩
  go_wp2
  go_ret
  exact ⟨rfl, hb2.trans (k3.mono (by omega))⟩
/-- the bytes that are no blanks, as a text -/
def bareS (s : ByteArray) : ByteArray := ⟨(bareL s).toArray⟩
def byI (b : UInt8) : Int := (b.toNat : Int)
theorem Try.infoByQ : (Try.prog.info? 5).map (fun i => (i.zero, i.size, i.bytes)) = some (some (.int .u8 0), 1, 1) := by kernel_rfl
set_option maxHeartbeats 1000000 in
set_option maxRecDepth 100000 in
theorem bare_any (s : ByteArray) (w : World) (hs : s.size ≤ 1048576) :
    Calls Try.prog 36 #[.string s] w fun e w' => e = .returned (.string (bareS s)) ∧ Below w.heap.size w w' := by
  obtain ⟨i0, hi0, hz0, hz1, hz2⟩ := info_parts Try.infoByQ
  go_enter Try.func36, Try.ntmps36
  go_upto_region 2 with fail
  have kb : Below w.heap.size w (w.alloc (.cells #[] 5)) := (Below.refl _ _).alloc (Nat.le_refl _) _
  have hE := Own.empty bytF 5 w.heap.size w (Nat.le_refl _)
  obtain ⟨C, HC⟩ : ∃ C, Hid (C = (w.alloc (.cells #[] 5)).heap.size) := ⟨_, rfl⟩
  have hC1 : C ≤ (w.alloc (.cells #[] 5)).heap.size := Nat.le_of_eq HC.out
  have hC2 : (w.alloc (.cells #[] 5)).heap.size ≤ C := Nat.le_of_eq HC.out.symm
  have hOE : OutE bytF 5 w.heap.size C (w.alloc (.cells #[] 5)) (.slice (some ⟨w.heap.size, 0, none⟩) 0 0) (([] : List UInt8).map byI) := .inr ⟨rfl, ⟨_, rfl⟩, hE.wide (Nat.le_refl _) hC2⟩
  have hBC : w.heap.size ≤ C := Nat.le_trans kb.size hC2
  clear hE
  generalize w.alloc (.cells #[] 5) = w0 at *
  go_wp2
  go_loopw [3, 4] (fun out i wr => ∃ (k : Nat) (l : List UInt8), k ≤ s.size ∧ i = .int .i64 k ∧ Hid (l = (s.data.toList.take k).filter (fun c => c != 32)) ∧ l.length ≤ k ∧ Below w.heap.size w wr ∧ C ≤ wr.heap.size ∧ OutE bytF 5 w.heap.size C wr out (l.map byI)) (fun _ i _ => s.size - (intOf i).toNat)
  case atStart => exact ⟨0, [], Nat.zero_le _, rfl, rfl, Nat.le_refl _, kb, hC1, hOE⟩
  case round =>
    clear hOE kb
    obtain ⟨k, l, hk, rfl, HL, hlk, hb, hCw, hO⟩ := hrel
    by_cases hlt : k < s.size
    · have hki : (k : Int) < s.size := by omega
      have hT : Hid ((s.data.toList.take (k + 1)).filter (fun c => c != 32) = l ++ [s[k]].filter (fun c => c != 32)) := by
        show _ = _
        rw [List.take_succ_eq_append_getElem (by simpa using hlt), List.filter_append, HL.out]; rfl
      by_cases h32 : s[k] = 32
      · have hn : ((s[k]).toNat : Int) = 32 := by rw [h32]; rfl
        have hL2 : Hid (l = (s.data.toList.take (k + 1)).filter (fun c => c != 32)) := by
          show _ = _
          rw [hT.out, h32]; simp
        clear hT HL h32
        go_wp2
        go_roundw
        case rel => exact ⟨k + 1, l, by omega, by go_num, hL2, by omega, hb, hCw, hO⟩
        case measure => simp [intOf]; omega
      · have hn : ¬ ((s[k]).toNat : Int) = 32 := by
          intro e
          apply h32
          apply UInt8.toNat_inj.1
          show s[k].toNat = 32
          omega
        have hL2 : Hid (l ++ [s[k]] = (s.data.toList.take (k + 1)).filter (fun c => c != 32)) := by
          show _ = _
          rw [hT.out, List.filter_cons_of_pos (by simpa using h32)]; rfl
        clear hT HL h32
        go_wp2_with (at_builtin; refine wp_app1e (F := bytF) (P := Try.prog) (y := byI s[k]) rfl (.tmp 16) (.tmp 20) 22 rfl Try.underlying22 hi0 hz0 hz1 hz2 rfl (by decide) rfl (hO.keep (w' := wr.alloc _) ((Below.refl _ _).alloc (Nat.le_refl _) _) (by omega)) wr.heap.size rfl (heap_alloc_new _ _) rfl (by simp; omega) (by simp; omega) (by simp; omega) ?_; intro v' w' hO' hb')
        have hbs : Below C wr w' := ((Below.refl C wr).alloc (by omega) _).trans hb'
        have hsw := hbs.size
        go_roundw
        case rel => exact ⟨k + 1, l ++ [s[k]], by omega, by go_num, hL2, by simp; omega, hb.trans (hbs.mono hBC), by omega, by rw [List.map_append]; exact hO'⟩
        case measure => simp [intOf]; omega
    · have hki : ¬ (k : Int) < s.size := by omega
      have hke : k = s.size := by omega
      have hL2 : Hid (bareS s = ⟨l.toArray⟩) := by
        show _ = _
        unfold bareS bareL
        rw [HL.out, List.take_of_length_le (by simp; omega)]
      clear HL hke
      have hw := hO.own hBC hCw
      obtain ⟨a, c, rfl, h1, h2, h3⟩ := hw.form
      have hcv : (convert 22 9 (.slice a l.length c)).run Try.prog wr = .ok (.string ⟨l.toArray⟩) wr := by
        cases a with
        | none =>
          have hl0 : l = [] := by
            apply List.eq_nil_of_length_eq_zero
            apply Nat.eq_zero_of_not_pos
            intro hp
            obtain ⟨g, hg, -⟩ := h3 (by rw [List.length_map]; exact hp)
            cases hg
          subst hl0
          exact (run_convert_bytes_string wr _ _ 5 none 0 c Try.underlying22 Try.underlying5 Try.underlying9).trans (by simp [Conv.bytesToString]; rfl)
        | some ad =>
          refine run_convert_bytes_back wr _ _ 5 ad c l Try.underlying22 Try.underlying5 Try.underlying9 fun j hj => ?_
          obtain ⟨g, hg, -, -⟩ := h3 (by rw [List.length_map]; omega)
          injection hg with hg
          subst hg
          have := hw.cell (k := j) (j := 0) rfl (by rw [List.length_map]; exact hj) (by decide)
          simp only [List.getElem_map] at this
          rw [Addr.add_lit]
          simpa [bytF, byI] using this
      go_wp2
      go_ret
      refine ⟨?_, hb⟩
      rw [hL2.out]; rfl
theorem joinB_size {ls : List ByteArray} {M : Nat} (hM : ∀ l ∈ ls, l.size ≤ M) : ∀ k, (joinB (ls.take k)).size ≤ k * M
  | 0 => Nat.zero_le _
  | k + 1 => by
    have ih := joinB_size hM k
    by_cases hlt : k < ls.length
    · rw [joinB_take hlt, ByteArray.size_append, Nat.succ_mul]
      have := hM _ (List.getElem_mem hlt)
      omega
    · rw [List.take_of_length_le (by omega)]
      rw [List.take_of_length_le (by omega)] at ih
      rw [Nat.succ_mul]
      omega
set_option maxHeartbeats 1000000 in
set_option maxRecDepth 100000 in
theorem joined_any (ls : List ByteArray) (v : Value) (lo hi M : Nat) (w : World) (hr : Rd strF.shape lo hi w v ls) (hM : ∀ l ∈ ls, l.size ≤ M) (hn : ls.length * M ≤ 1048576) :
    Calls Try.prog 37 #[v] w fun e w' => e = .returned (.string (joinB ls)) ∧ w' = w := by
  have hl := hr.len_le
  obtain ⟨a, c, rfl, h2, h3, h4, h5⟩ := hr.strF
  go_enter Try.func37, Try.ntmps37
  go_wp2
  go_loop [3, 4] (fun s i => ∃ k : Nat, k ≤ ls.length ∧ i = .int .i64 k ∧ s = .string (joinB (ls.take k))) (fun _ i => ls.length - (intOf i).toNat)
  case atStart => exact ⟨0, Nat.zero_le _, rfl, rfl⟩
  case round =>
    obtain ⟨k, hk, rfl, rfl⟩ := hrel
    by_cases hlt : k < ls.length
    · have hki : (k : Int) < (ls.length : Int) := by omega
      obtain ⟨b, off, rfl, hlo, hhi, c0⟩ := h5 k hlt
      have HS := Lib.hid (joinB_take hlt)
      have z1 := joinB_size hM k
      have z2 := hM _ (List.getElem_mem hlt)
      have z3 : (k + 1) * M ≤ ls.length * M := Nat.mul_le_mul_right _ hlt
      rw [Nat.succ_mul] at z3
      generalize k * M = kM at *
      generalize ls.length * M = lM at *
      clear hM
      generalize joinB (ls.take k) = acc at *
      generalize ls[k] = t at *
      have z4 : acc.size + t.size ≤ 1048576 := by omega
      go_wp2
      go_round
      case rel => exact ⟨k + 1, by omega, by go_num, by rw [HS.out]⟩
      case measure => simp [intOf]; omega
    · have hki : ¬ (k : Int) < (ls.length : Int) := by omega
      have hke : joinB (ls.take k) = joinB ls := by rw [List.take_of_length_le (by omega)]
      rw [hke]
      go_wp2
      go_ret
      exact ⟨rfl, rfl⟩
set_option maxHeartbeats 400000 in
set_option maxRecDepth 100000 in
theorem sameTx_any (xs : List ByteArray) (v u : Value) (lo hi lo' hi' : Nat) (w : World) (hr : Rd strF.shape lo hi w v xs) (hh : hi ≤ w.heap.size) (hr' : Rd strF.shape lo' hi' w u xs) (hh' : hi' ≤ w.heap.size) :
    Calls Try.prog 38 #[v, u] w fun e w' => e = .returned (.bool true) ∧ Below w.heap.size w w' := by
  have hl := hr.len_le
  obtain ⟨a, c, rfl, h2, h3, h4, h5⟩ := hr.strF
  obtain ⟨a', c', rfl, h2', h3', h4', h5'⟩ := hr'.strF
  unfold maxLen at h3 h3'
  go_enter Try.func38, Try.ntmps38
  go_wp2
  go_loopw [5] (fun i wr => ∃ k : Nat, k ≤ xs.length ∧ i = .int .i64 k ∧ Below w.heap.size w wr) (fun i _ => xs.length - (intOf i).toNat)
  case atStart => exact ⟨0, Nat.zero_le _, rfl, Below.refl _ _⟩
  case round =>
    obtain ⟨k, hk, rfl, hb⟩ := hrel
    by_cases hlt : k < xs.length
    · obtain ⟨b, off, rfl, hlo, hhi, c0⟩ := h5 k hlt
      obtain ⟨b', off', rfl, hlo', hhi', q0⟩ := h5' k hlt
      have d0 := (hb.cell (p := ⟨b, _, none⟩) (by show b < _; omega)).trans c0
      have r0 := (hb.cell (p := ⟨b', _, none⟩) (by show b' < _; omega)).trans q0
      clear c0 q0
      have hki : (k : Int) < (xs.length : Int) := by omega
      generalize xs[k] = x at *
      go_wp2_with fail
      go_quiet (fail)
      go_wp2
      go_roundw
      case rel => exact ⟨k + 1, by omega, by go_num, blw_drewN hb _⟩
      case measure => simp [intOf]; omega
    · go_wp2
      go_ret
      exact ⟨rfl, hb⟩
end Go.Proofs.Ytllpgomloblfjaa
