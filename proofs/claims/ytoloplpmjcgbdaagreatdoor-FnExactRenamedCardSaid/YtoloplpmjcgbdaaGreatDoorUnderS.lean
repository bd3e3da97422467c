/- UnderOf of the reference. -/
import Derived.Test.YtoloplpmjcgbdaaGreatDoorUnder
namespace Go.Proofs.YtoloplpmjcgbdaaGreatDoor
open Go.RowKit

set_option maxHeartbeats 4000000 in
set_option maxRecDepth 100000 in
theorem l22Mark_any (xs : List Node) (lo hi B : Nat) (v : Value) (hl : xs.length ≤ 1048576) (hB : hi ≤ B) : ∀ (q : Nat) (w : World) (bs : List Bool), Rd nodeS lo hi w v xs → q < xs.length → (∀ i : Nat, (i : Int) ≤ (q : Int) → Good xs i) → BOwn B w xs.length bs → Closed xs bs q →
    Calls Tryz.prog 58 #[v, .int .i64 q, .slice (some ⟨B, 0, none⟩) xs.length xs.length] w fun e w' => e = .returned (.tuple #[]) ∧ ∃ cs, SSt xs q bs cs ∧ Below B w w' ∧ BOwn B w' xs.length cs := by
  intro q
  induction q using Nat.strongRecOn with
  | _ q ih =>
  intro w bs hr hq hg hO hc
  obtain ⟨a, c, rfl⟩ := hr.sl
  obtain ⟨_, h2, h3⟩ := hr.lenEq
  have hqi : (q : Int) < (xs.length : Int) := by omega
  have hqz : (0 : Int) ≤ (q : Int) := by omega
  have hsz := hO.size
  have c0 := hO.cell (k := q) hq
  have HSE := Lib.hid (sst_seen hg hc)
  obtain ⟨bq, hbq⟩ : ∃ bq, Hid (bs.getD q false = bq) := ⟨_, rfl⟩
  rw [hbq.out] at c0 HSE
  cases bq with
  | true =>
    have HS := Lib.hid (HSE.out rfl)
    go_enter Tryz.func58, Tryz.ntmps58
    go_wp2
    first
      | go_end0
      | (try simp only [Exit.inBlock, Exit.then]
         refine bodyPost_ret (results_none rfl _ _ _) rfl ?_)
    exact ⟨rfl, bs, HS.out, Below.refl _ _, hO⟩
  | false =>
    have f0 := hO.frozen q
    have hO2 := hO.put (k := q) hq true
    have hb2 := (Below.refl B w).setCell (p := ⟨B, q, none⟩) (Nat.le_refl _) (.bool true)
    have HS0 := Lib.hid (skid_start (xs := xs) (q := q) (bs := bs) (by rw [hO.2]; exact hq))
    obtain ⟨b, off, ka, kc, eb, _, hbb, d0, d1, d2, d3, hk⟩ := rd_nodeAt hr hq
    subst eb
    have HX : Hid (nd xs (q : Int) = xs[q]) := nd_at hq
    have HBE := Lib.hid (hg q (by omega)).below
    have HEN := Lib.hid (fun cs (h : SKid xs q (nd xs (q : Int)).kids.length bs cs) => skid_end h)
    have HST := Lib.hid (fun (t z : Nat) cs ds (h : SKid xs q t bs cs) (e : kd (nd xs (q : Int)) t = (z : Int)) (hs : SSt xs z cs ds) => skid_succ h e hs)
    have HCL := Lib.hid (fun (t z : Nat) cs (h : SKid xs q t bs cs) (hz : z < q) => skid_closed h hc hz hg)
    rw [HX.out] at HBE HEN HST
    have HQ : Hid (∀ w4, Below B w w4 → w4.cell? ⟨b, off + q * 4, none⟩ = some (.int .i64 xs[q].kind) ∧ w4.cell? ⟨b, off + q * 4 + 2, none⟩ = some (.slice ka xs[q].kids.length kc) ∧ Rd intS lo hi w4 (.slice ka xs[q].kids.length kc) xs[q].kids ∧ Rd nodeS lo hi w4 (.slice (some ⟨b, off, none⟩) xs.length c) xs) := fun w4 h4 =>
      ⟨(h4.cell (p := ⟨b, _, none⟩) (by show b < _; omega)).trans d0, (h4.cell (p := ⟨b, _, none⟩) (by show b < _; omega)).trans d2, hk.below h4 hB, hr.below h4 hB⟩
    have IH := Lib.hid ih
    have HG := Lib.hid hg
    generalize xs[q] = x at *
    obtain ⟨_, hkl, hkc⟩ := hk.lenEq
    have hki : (x.kids.length : Int) ≤ 9223372036854775807 := by omega
    clear HSE hbq ih hg hc d0 d1 d2 d3 hk
    go_enter Tryz.func58, Tryz.ntmps58
    go_wp2
    clear c0 f0
    generalize w.setCell ⟨B, q, none⟩ (.bool true) = w2 at *
    go_loopw [6] (fun i w3 => ∃ (t : Nat) (cs : List Bool), t ≤ x.kids.length ∧ i = .int .i64 t ∧ Hid (SKid xs q t bs cs) ∧ Below B w w3 ∧ BOwn B w3 xs.length cs) (fun i _ => x.kids.length - (intOf i).toNat)
    case atStart => exact ⟨0, _, Nat.zero_le _, rfl, HS0.out, hb2, hO2⟩
    case round =>
      obtain ⟨t, cs, ht, rfl, HM, hb5, hO5⟩ := hrel
      have hs5 := hO5.size
      obtain ⟨q0, q2, hk5, hr5⟩ := HQ.out _ hb5
      by_cases htl : t < x.kids.length
      · obtain ⟨kb, koff, rfl, _, _, kc0⟩ := hk5.intAt htl
        have hti : (t : Int) < (x.kids.length : Int) := by omega
        have htz : (0 : Int) ≤ (t : Int) := by omega
        have hbk := HBE.out t htl
        have hkd : kd x t = x.kids.getD t 0 := rfl
        rw [hkd] at hbk
        obtain ⟨y, hy⟩ : ∃ y : Nat, x.kids.getD t 0 = (y : Int) := ⟨(x.kids.getD t 0).toNat, by omega⟩
        rw [hy] at kc0 hbk
        have HN := Lib.hid (HST.out t y cs)
        have HN2 := Lib.hid (fun ds (h : SSt xs y cs ds) => HN.out ds HM.out (hkd.trans hy) h)
        have HC := Lib.hid (HCL.out t y cs HM.out (by omega))
        clear hkd hy HN
        go_wp2_with fail
        refine (IH.out y (by omega) _ cs hr5 (by omega) (fun i hi => HG.out i (by omega)) hO5 HC.out).mono ?_
        rintro e w4 ⟨rfl, ds, hS, hb6, hO6⟩
        have HR := Lib.hid (HN2.out ds hS)
        go_wp2
        go_roundw
        case rel => exact ⟨t + 1, ds, by omega, by go_num, HR.out, hb5.trans (hb6.mono (Nat.le_refl _)), hO6⟩
        case measure => simp [intOf]; omega
      · have hti : ¬ (t : Int) < (x.kids.length : Int) := by omega
        have HN := Lib.hid (HEN.out cs (by have e := HM.out; rwa [show t = x.kids.length by omega] at e))
        go_wp2
        go_end0
        exact ⟨rfl, cs, HN.out, hb5, hO5⟩
set_option maxHeartbeats 4000000 in
set_option maxRecDepth 100000 in
theorem underOf_spec (xs : List Node) (v : Value) (lo hi : Nat) (k : Int) (w : World) (hr : Rd nodeS lo hi w v xs) (hh : hi ≤ w.heap.size) (hs : ∀ x ∈ xs, x.text.size ≤ 4611686018427387904) (hl : xs.length ≤ 1048576) :
    Calls Tryz.prog 27 #[v, .int .i64 k] w fun e w' => ∃ u, e = .returned u ∧ Below w.heap.size w w' ∧ Own intF 3 w.heap.size w'.heap.size w' u (underL xs k) := by
  obtain ⟨i0, hi0, hz0, hz1, hz2⟩ := info_parts Tryz.infoInt1
  obtain ⟨j0, hj0, hy0, hy1, hy2⟩ := info_parts Tryz.infoBool1
  obtain ⟨a, c, rfl⟩ := hr.sl
  obtain ⟨_, h2, h3⟩ := hr.lenEq
  have hxl : (xs.length : Int) ≤ 9223372036854775807 := by omega
  obtain ⟨B, HB⟩ : ∃ B, Hid (B = w.heap.size) := ⟨_, rfl⟩
  have hBw : B ≤ w.heap.size := Nat.le_of_eq HB.out
  have HF0 := Lib.hid (fun h : deepOf xs k = 0 => underL_zero h)
  go_enter Tryz.func27, Tryz.ntmps27
  go_wp2_with fail
  generalize hE : (.cells #[] 3 : Obj) = E
  have hO0 : Own intF 3 B (w.alloc E).heap.size (w.alloc E) (.slice (some ⟨w.heap.size, 0, none⟩) 0 0) [] := by rw [← hE]; exact Own.empty intF 3 B w hBw
  have hbE : Below w.heap.size w (w.alloc E) := (Below.refl _ _).alloc (Nat.le_refl _) E
  have hsE : (w.alloc E).heap.size = w.heap.size + 1 := by simp
  generalize w.alloc E = w0 at *
  clear hE
  refine (deepOf_spec xs _ lo hi k _ (hr.below hbE hh) (by omega) hs hl).mono ?_
  rintro e w1 ⟨rfl, hb1⟩
  have hs1 := hb1.size
  have hO1 := (hO0.below hb1 (Nat.le_refl _)).wide (Nat.le_refl _) hs1
  have hbW1 : Below B w w1 := (hbE.mono hBw).trans (hb1.mono (by omega))
  by_cases hd : deepOf xs k = 0
  · have td : (deepOf xs k == 0) = true := by rw [hd]; rfl
    have HU := Lib.hid (HF0.out hd)
    clear hd
    go_wp2
    go_ret
    have e := HB.out
    subst e
    exact ⟨_, rfl, hbW1, by rw [HU.out]; exact hO1⟩
  · have td : (deepOf xs k == 0) = false := eqf hd
    obtain ⟨k0, k1, hg⟩ := deepOf_pos hd
    obtain ⟨m, rfl⟩ : ∃ m : Nat, k = (m : Int) := ⟨k.toNat, by omega⟩
    have HU : Hid (underL xs (m : Int) = undL xs (m : Int) xs.length) := by show underL xs (m : Int) = _; unfold underL; rw [if_neg hd]
    have hml : m < xs.length := by omega
    have hrW := Lib.hid (fun w4 (h : Below w1.heap.size w1 w4) => (hr.below (hbE.trans (hb1.mono (by omega))) hh).below h (by omega))
    clear hd
    go_wp2_with (at_make; refine wpList_make_full _ rfl _ _ 72 rfl w1.heap.size 4 j0 _ 1 Tryz.underlying72 hj0 hy0 hy1 _ _ _ _ xs.length rfl rfl rfl rfl ?b1 ?b2 ?b3 ?_)
    case b1 => first | omega | (rw [hy2]; omega)
    case b2 => first | (unfold maxLen; omega) | omega
    try (case b3 => exact Nat.le_refl _)
    intro w2 hown hgr
    have hb2 : Below w1.heap.size w1 w2 := (Below.refl _ _).grown hgr (Nat.le_refl _) (fun k hk => by cases hk)
    have hB0 : Own bolF 4 w1.heap.size w2.heap.size w2 (.slice (some ⟨w1.heap.size, 0, none⟩) xs.length xs.length) (List.replicate xs.length false) :=
      Own.of_row hown (by simp) (by have h := made_cells bolF (by decide) false #[.bool false] rfl xs.length; rw [show xs.length * bolF.size = xs.length from Nat.mul_one _] at h; exact h) (Nat.le_refl _)
    have hBO : BOwn w1.heap.size w2 xs.length (List.replicate xs.length false) := ⟨⟨hB0.1, fun g hg => by have e : w1.heap.size = g := Option.some.inj hg; omega⟩, List.length_replicate ..⟩
    clear hown hgr hB0
    go_wp2_with fail
    refine (l22Mark_any xs lo hi w1.heap.size _ hl (by omega) m w2 _ (hrW.out _ hb2) hml hg hBO closed_none).mono ?_
    rintro e w3 ⟨rfl, cs, hS, hb3, hO3⟩
    have hs3 := hO3.size
    have hO4 : Own intF 3 B w1.heap.size w3 (.slice (some ⟨w.heap.size, 0, none⟩) 0 0) [] := (hO1.below hb2 (Nat.le_refl _)).below hb3 (Nat.le_refl _)
    have HY := Lib.hid (fun j (h : cs.getD j false = true) => undL_yes (xs := xs) (k := (m : Int)) (n := j) (((hS.2 j).1 h).elim (fun c => by rw [getB_rep] at c; cases c) id))
    have HN := Lib.hid (fun j (h : cs.getD j false = false) => undL_no (xs := xs) (k := (m : Int)) (n := j) (fun c => by rw [(hS.2 j).2 (.inr c)] at h; cases h))
    have HC := Lib.hid (fun w4 (h4 : Below w3.heap.size w3 w4) j (hj : j < xs.length) => (h4.cell (p := ⟨w1.heap.size, j, none⟩) hs3).trans (hO3.cell hj))
    have hbW3 : Below B w w3 := hbW1.trans ((hb2.trans (hb3.mono (Nat.le_refl _))).mono (by have := hbW1.size; omega))
    have h13 : w1.heap.size ≤ w3.heap.size := by have := hb2.size; have := hb3.size; omega
    generalize hG : w1.heap.size = G at *
    clear hg hS
    go_wp2
    go_loopw [5, 7] (fun out i wr => ∃ j : Nat, j ≤ xs.length ∧ i = .int .i64 j ∧ Below w3.heap.size w3 wr ∧ OutE intF 3 B w3.heap.size wr out (undL xs (m : Int) j)) (fun _ i _ => xs.length - (intOf i).toNat)
    case atStart => exact ⟨0, Nat.zero_le _, rfl, Below.refl _ _, .inr ⟨rfl, ⟨_, rfl⟩, hO4.wide (Nat.le_refl _) h13⟩⟩
    case round =>
      obtain ⟨j, hj, rfl, hb, hO⟩ := hrel
      have hsz := hb.size
      by_cases hlt : j < xs.length
      · have hji : (j : Int) < (xs.length : Int) := by omega
        have hjz : (0 : Int) ≤ (j : Int) := by omega
        have c0 := HC.out wr hb j hlt
        have HY1 := Lib.hid (HY.out j)
        have HN1 := Lib.hid (HN.out j)
        have hul := undL_len xs (m : Int) j (by omega)
        obtain ⟨bq, hbq⟩ : ∃ bq, Hid (cs.getD j false = bq) := ⟨_, rfl⟩
        rw [hbq.out] at c0 HY1 HN1
        cases bq with
        | false =>
          have HR := Lib.hid (HN1.out rfl)
          go_wp2
          go_roundw
          case rel => exact ⟨j + 1, by omega, by go_num, hb, by rw [HR.out]; exact hO⟩
          case measure => simp [intOf]; omega
        | true =>
          have HR := Lib.hid (HY1.out rfl)
          go_wp2_with (at_builtin; refine wp_app1e (C := w3.heap.size) (F := intF) (P := Tryz.prog) (y := (j : Int)) rfl (.tmp 31) (.tmp 33) 34 rfl Tryz.underlying34 hi0 hz0 hz1 hz2 rfl (by decide) rfl (hO.keep ((Below.refl _ _).alloc (Nat.le_refl _) _) hsz) wr.heap.size rfl (heap_alloc_new _ _) rfl (by omega) (by omega) (by simp; omega) ?_; intro v' w' hO' hb')
          go_roundw
          case rel => exact ⟨j + 1, by omega, by go_num, hb.trans (blw_al1 hb' hsz), by rw [HR.out]; exact hO'⟩
          case measure => simp [intOf]; omega
      · have hji : ¬ (j : Int) < (xs.length : Int) := by omega
        obtain rfl : j = xs.length := by omega
        go_wp2
        go_ret
        have e := HB.out
        subst e
        exact ⟨_, rfl, hbW3.trans (hb.mono (by have := hbW3.size; omega)), by rw [HU.out]; exact hO.own (by have := hbW3.size; omega) hsz⟩
end Go.Proofs.YtoloplpmjcgbdaaGreatDoor
