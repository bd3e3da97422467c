/- UnderOf of both. -/
import Derived.Test.YtoloplpmjcgbdaaGreatDoorDeepS
import Derived.Test.YtoloplpmjcgbdaaGreatDoorUnderB
namespace Go.Proofs.YtoloplpmjcgbdaaGreatDoor
open Go.RowKit

theorem Tryz.infoBool1 : (Tryz.prog.info? 4).map (fun i => (i.zero, i.size, i.bytes)) = some (some (.bool false), 1, 1) := by kernel_rfl
theorem rd_boolAt {lo hi n c : Nat} {w : World} {a : Option Addr} {bs : List Bool} (h : Rd bolF.shape lo hi w (.slice a n c) bs) {k : Nat} (hk : k < bs.length) : ∃ b off, a = some ⟨b, off, none⟩ ∧ lo ≤ b ∧ b < hi ∧ w.cell? ⟨b, off + k, none⟩ = some (.bool (bs.getD k false)) := by
  obtain ⟨a', c', e, h2, h3, h4, h5⟩ := h
  injection e with e1 e2 e3
  subst e1
  obtain ⟨b, off, cs, q1, q2, q3, rfl, q5⟩ := h5 k hk
  refine ⟨b, off, q1, q2, q3, ?_⟩
  have := q5 0 _ rfl
  rw [List.getD_eq_getElem?_getD, List.getElem?_eq_getElem hk]
  have e : off + k * bolF.shape.size + 0 = off + k := by show off + k * 1 + 0 = off + k; omega
  rwa [e] at this
/-- a row of marks in a block of its own -/
def BOwn (B : Nat) (w : World) (n : Nat) (bs : List Bool) : Prop := Own bolF 4 B (B + 1) w (.slice (some ⟨B, 0, none⟩) n n) bs ∧ bs.length = n
theorem BOwn.cell {B n : Nat} {w : World} {bs : List Bool} (h : BOwn B w n bs) {k : Nat} (hk : k < n) : w.cell? ⟨B, k, none⟩ = some (.bool (bs.getD k false)) := by
  obtain ⟨b, off, e, _, _, hc⟩ := rd_boolAt h.1.rd (k := k) (by rw [h.2]; exact hk)
  injection e with e
  injection e with e1 e2
  subst e1; subst e2
  rwa [Nat.zero_add] at hc
theorem BOwn.frozen {B n : Nat} {w : World} {bs : List Bool} (h : BOwn B w n bs) (k : Nat) : w.frozen? ⟨B, k, none⟩ = false := h.1.frozen h.2.symm k
theorem BOwn.put {B n : Nat} {w : World} {bs : List Bool} (h : BOwn B w n bs) {k : Nat} (hk : k < n) (v : Bool) : BOwn B (w.setCell ⟨B, k, none⟩ (.bool v)) n (bs.set k v) := by
  have := h.1.set (k := k) (j := 0) (u := .bool v) (x := v) h.2.symm (by rw [h.2]; exact hk) (by decide) rfl
  rw [show k * bolF.size + 0 = k from Nat.mul_one _] at this
  exact ⟨this, by rw [List.length_set]; exact h.2⟩
theorem BOwn.below {B n : Nat} {w w' : World} {bs : List Bool} (h : BOwn B w n bs) (hb : Below (B + 1) w w') : BOwn B w' n bs := ⟨h.1.below hb (Nat.le_refl _), h.2⟩
theorem BOwn.size {B n : Nat} {w : World} {bs : List Bool} (h : BOwn B w n bs) : B < w.heap.size := (h.1.below_heap B rfl).2.2
set_option maxHeartbeats 4000000 in
set_option maxRecDepth 100000 in
theorem underOf_walk (xs : List Node) (v : Value) (lo hi m : Nat) (w : World) (hr : Rd nodeS lo hi w v xs) (hh : hi ≤ w.heap.size) (hm : m < xs.length) (hl : xs.length ≤ 1048576) (hg : ∀ i : Nat, (i : Int) ≤ (m : Int) → Good xs i) :
    Calls Tryz.prog 65 #[v, .int .i64 m] w fun e w' => e = .returned (.slice (some ⟨w.heap.size, 0, none⟩) (m + 1) (m + 1)) ∧ ∃ bs, MSt xs m (-1) bs ∧ Below w.heap.size w w' ∧ BOwn w.heap.size w' (m + 1) bs := by
  obtain ⟨a, c, rfl⟩ := hr.sl
  obtain ⟨_, h2, h3⟩ := hr.lenEq
  obtain ⟨i0, hi0, hz0, hz1, hz2⟩ := info_parts Tryz.infoBool1
  have HR := Lib.hid (fun w4 (h4 : Below w.heap.size w w4) => hr.below h4 hh)
  have hmi : (m : Int) < (m : Int) + 1 := by omega
  have hmz : (0 : Int) ≤ (m : Int) := by omega
  go_enter Tryz.func65, Tryz.ntmps65
  go_wp2_with (at_make; refine wpList_make_full _ rfl _ _ 72 rfl w.heap.size 4 i0 _ 1 Tryz.underlying72 hi0 hz0 hz1 _ _ _ _ (m + 1) rfl rfl rfl rfl ?b1 ?b2 ?b3 ?_)
  case b1 => first | omega | (rw [hz2]; omega)
  case b2 => first | (unfold maxLen; omega) | omega
  try (case b3 => exact Nat.le_refl _)
  intro w1 hown hgr
  have hb1 : Below w.heap.size w w1 := (Below.refl _ _).grown hgr (Nat.le_refl _) (fun k hk => by cases hk)
  have hO0 : Own bolF 4 w.heap.size w1.heap.size w1 (.slice (some ⟨w.heap.size, 0, none⟩) (m + 1) (m + 1)) (List.replicate (m + 1) false) :=
    Own.of_row hown (by simp) (by have h := made_cells bolF (by decide) false #[.bool false] rfl (m + 1); rw [show (m + 1) * bolF.size = m + 1 from Nat.mul_one _] at h; exact h) (Nat.le_refl _)
  have hO : BOwn w.heap.size w1 (m + 1) (List.replicate (m + 1) false) := ⟨⟨hO0.1, fun g hg => by have e : w.heap.size = g := Option.some.inj hg; omega⟩, List.length_replicate ..⟩
  clear hown hgr hO0
  generalize hB : w.heap.size = B at *
  have c0 := hO.cell (k := m) (by omega)
  have f0 := hO.frozen m
  have hO2 := hO.put (k := m) (by omega) true
  have hS := Lib.hid (mst_start hg)
  have hb2 := hb1.setCell (p := ⟨B, m, none⟩) (Nat.le_refl _) (.bool true)
  go_wp2
  clear c0 f0 hO
  generalize w1.setCell ⟨B, m, none⟩ (.bool true) = w2 at *
  go_loopw [6] (fun i wr => ∃ (z : Nat) (bs : List Bool), z ≤ m + 1 ∧ i = .int .i64 ((z : Int) - 1) ∧ Hid (MSt xs m ((z : Int) - 1) bs) ∧ Below B w wr ∧ BOwn B wr (m + 1) bs) (fun i _ => (intOf i + 1).toNat)
  case atStart => exact ⟨m + 1, _, Nat.le_refl _, int_eq (by omega), (by have e := hS.out; rwa [show ((m + 1 : Nat) : Int) - 1 = (m : Int) by omega]), hb2, hO2⟩
  case round =>
    clear hO2 hb2 hS
    obtain ⟨z, bs, hz, rfl, HS, hb, hO⟩ := hrel
    cases z with
    | zero =>
      have HE : Hid (MSt xs m (-1) bs) := HS
      go_wp2
      go_ret
      subst hB
      exact ⟨rfl, bs, HE.out, hb, hO⟩
    | succ q =>
      rw [show ((q + 1 : Nat) : Int) - 1 = (q : Int) by omega] at HS ⊢
      have hqi : (q : Int) < (m : Int) + 1 := by omega
      have hqz : (0 : Int) ≤ (q : Int) := by omega
      have c0 := hO.cell (k := q) (by omega)
      have HAT := Lib.hid (mst_at HS.out (by omega) hg)
      obtain ⟨bq, hbq⟩ : ∃ bq, Hid (bs.getD q false = bq) := ⟨_, rfl⟩
      rw [hbq.out] at c0 HAT
      cases bq with
      | false =>
        have HN := Lib.hid (mst_no HS.out (fun c => by have := HAT.out.2 c; cases this))
        go_wp2
        go_roundw
        case rel => exact ⟨q, bs, by omega, by go_num, HN.out, hb, hO⟩
        case measure => first | (simp [intOf]; done) | (simp [intOf]; omega)
      | true =>
        have HRE := Lib.hid (HAT.out.1 rfl)
        have hqx : q < xs.length := by omega
        have hqxi : (q : Int) < (xs.length : Int) := by omega
        obtain ⟨b, off, ka, kc, eb, _, hbb, d0, d1, d2, d3, hk⟩ := rd_nodeAt (HR.out wr (by first | exact hb | (rw [hB]; exact hb))) hqx
        subst eb
        have HX : Hid (nd xs (q : Int) = xs[q]) := nd_at hqx
        have HBE := Lib.hid (hg q (by omega)).below
        have HEN := Lib.hid (fun bs (h : MKid xs m (q : Int) (nd xs (q : Int)).kids.length bs) => mkid_end h HRE.out)
        have HST := Lib.hid (fun (t z : Nat) bs (h : MKid xs m (q : Int) t bs) (e : kd (nd xs (q : Int)) t = (z : Int)) (hz : z ≤ m) => mkid_succ h e hz)
        rw [HX.out] at HBE HEN HST
        have H0 := Lib.hid (mkid_start HS.out)
        have hkb : hi ≤ B := by omega
        have HKB := Lib.hid (fun w4 (h4 : Below B wr w4) => hk.below h4 hkb)
        generalize xs[q] = x at *
        obtain ⟨_, hkl, hkc⟩ := hk.lenEq
        have hki : (x.kids.length : Int) ≤ 9223372036854775807 := by omega
        clear HAT hbq HRE
        go_wp2
        go_loopw [31] (fun i w3 => ∃ (t : Nat) (cs : List Bool), t ≤ x.kids.length ∧ i = .int .i64 t ∧ Hid (MKid xs m (q : Int) t cs) ∧ Below B wr w3 ∧ BOwn B w3 (m + 1) cs) (fun i _ => x.kids.length - (intOf i).toNat)
        case atStart => exact ⟨0, bs, Nat.zero_le _, rfl, H0.out, Below.refl _ _, hO⟩
        case round =>
          obtain ⟨t, cs, ht, rfl, HM, hb5, hO5⟩ := hrel
          by_cases htl : t < x.kids.length
          · obtain ⟨kb, koff, rfl, _, _, kc0⟩ := (HKB.out _ hb5).intAt htl
            have hti : (t : Int) < (x.kids.length : Int) := by omega
            have htz : (0 : Int) ≤ (t : Int) := by omega
            have hbk := HBE.out t htl
            have hkd : kd x t = x.kids.getD t 0 := rfl
            rw [hkd] at hbk
            obtain ⟨y, hy⟩ : ∃ y : Nat, x.kids.getD t 0 = (y : Int) := ⟨(x.kids.getD t 0).toNat, by omega⟩
            rw [hy] at kc0 hbk
            have HN := Lib.hid (HST.out t y cs HM.out (hkd.trans hy) (by omega))
            clear hkd hy
            have hyi : (y : Int) < (m : Int) + 1 := by omega
            have hyz : (0 : Int) ≤ (y : Int) := by omega
            have c1 := hO5.cell (k := y) (by omega)
            have f1 := hO5.frozen y
            have hO6 := hO5.put (k := y) (by omega) true
            have hb6 := hb5.setCell (p := ⟨B, y, none⟩) (Nat.le_refl _) (.bool true)
            go_wp2
            go_roundw
            case rel => exact ⟨t + 1, _, by omega, by go_num, HN.out, hb6, hO6⟩
            case measure => first | (simp [intOf]; done) | (simp [intOf]; omega)
          · have hti : ¬ (t : Int) < (x.kids.length : Int) := by omega
            have HN := Lib.hid (HEN.out cs (by have e := HM.out; rwa [show t = x.kids.length by omega] at e))
            go_wp2
            go_roundw
            case rel => exact ⟨q, cs, by omega, by go_num, HN.out, hb.trans (hb5.mono (Nat.le_refl _)), hO5⟩
            case measure => first | (simp [intOf]; done) | (simp [intOf]; omega)
theorem undL_len (xs : List Node) (k : Int) (n : Nat) (h : n ≤ 1048576) : (undL xs k n).length ≤ 1048576 := Nat.le_trans (undL_le xs k n) h
set_option maxHeartbeats 4000000 in
set_option maxRecDepth 100000 in
theorem underOf_impl (xs : List Node) (v : Value) (lo hi : Nat) (k : Int) (w : World) (hr : Rd nodeS lo hi w v xs) (hh : hi ≤ w.heap.size) (hs : ∀ x ∈ xs, x.text.size ≤ 4611686018427387904) (hl : xs.length ≤ 1048576) :
    Calls Tryz.prog 34 #[v, .int .i64 k] w fun e w' => ∃ u, e = .returned u ∧ Below w.heap.size w w' ∧ Own intF 3 w.heap.size w'.heap.size w' u (underL xs k) := by
  obtain ⟨i0, hi0, hz0, hz1, hz2⟩ := info_parts Tryz.infoInt1
  obtain ⟨B, HB⟩ : ∃ B, Hid (B = w.heap.size) := ⟨_, rfl⟩
  have hBw : B ≤ w.heap.size := Nat.le_of_eq HB.out
  have HF0 := Lib.hid (fun h : deepOf xs k = 0 => underL_zero h)
  go_enter Tryz.func34, Tryz.ntmps34
  go_wp2_with fail
  refine (deepOf_impl xs _ lo hi k _ hr hh hs hl).mono ?_
  rintro e w1 ⟨rfl, hb1⟩
  have hs1 := hb1.size
  by_cases hd : deepOf xs k = 0
  · have td : (deepOf xs k == 0) = true := by rw [hd]; rfl
    have HU := Lib.hid (HF0.out hd)
    clear hd
    go_wp2
    go_ret
    exact ⟨_, rfl, hb1, by rw [HU.out]; exact Own.nil _ _ _ _ _⟩
  · have td : (deepOf xs k == 0) = false := eqf hd
    obtain ⟨k0, k1, hg⟩ := deepOf_pos hd
    obtain ⟨m, rfl⟩ : ∃ m : Nat, k = (m : Int) := ⟨k.toNat, by omega⟩
    have HU := Lib.hid (underL_short hd)
    have HG := Lib.hid hg
    clear hd
    go_wp2_with fail
    refine (underOf_walk xs _ lo hi m _ (hr.below hb1 hh) (by omega) (by omega) hl hg).mono ?_
    rintro e w2 ⟨rfl, bs, hM, hb2, hO2⟩
    have HY := Lib.hid (fun j (hj : j < m + 1) (h : bs.getD j false = true) => undL_yes ((mst_end hM HG.out (by omega)).1 h))
    have HN := Lib.hid (fun j (hj : j < m + 1) (h : bs.getD j false = false) => undL_no (xs := xs) (k := (m : Int)) (n := j) (fun c => by rw [(mst_end hM HG.out (by omega)).2 c] at h; cases h))
    have hbw : Below B w w2 := (hb1.mono hBw).trans (hb2.mono (by omega))
    have hs2 := hO2.size
    have HC := Lib.hid (fun w4 (h4 : Below w2.heap.size w2 w4) j (hj : j < m + 1) => (h4.cell (p := ⟨w1.heap.size, j, none⟩) hs2).trans (hO2.cell hj))
    generalize hG : w1.heap.size = G at *
    clear hg hM
    go_wp2
    go_loopw [5, 16] (fun out i wr => ∃ j : Nat, j ≤ m + 1 ∧ i = .int .i64 j ∧ Below w2.heap.size w2 wr ∧ Own intF 3 w2.heap.size wr.heap.size wr out (undL xs (m : Int) j)) (fun _ i _ => m + 1 - (intOf i).toNat)
    case atStart => exact ⟨0, Nat.zero_le _, rfl, Below.refl _ _, Own.nil _ _ _ _ _⟩
    case round =>
      obtain ⟨j, hj, rfl, hb, hO⟩ := hrel
      have hsz := hb.size
      by_cases hlt : j < m + 1
      · have hji : (j : Int) < (m : Int) + 1 := by omega
        have hjz : (0 : Int) ≤ (j : Int) := by omega
        have c0 := HC.out wr hb j hlt
        have HY1 := Lib.hid (HY.out j hlt)
        have HN1 := Lib.hid (HN.out j hlt)
        have hul := undL_len xs (m : Int) j (by omega)
        obtain ⟨bq, hbq⟩ : ∃ bq, Hid (bs.getD j false = bq) := ⟨_, rfl⟩
        rw [hbq.out] at c0 HY1 HN1
        cases bq with
        | false =>
          have HR := Lib.hid (HN1.out rfl)
          go_wp2
          go_roundw
          case rel => exact ⟨j + 1, by omega, by go_num, hb, by rw [HR.out]; exact hO⟩
          case measure => simp [intOf]; omega
        | true =>
          have HR := Lib.hid (HY1.out rfl)
          go_wp2_with (at_builtin; refine wp_app1 (F := intF) (P := Tryz.prog) (y := (j : Int)) rfl (.tmp 22) (.tmp 24) 34 rfl Tryz.underlying34 hi0 hz0 hz1 hz2 rfl (by decide) rfl (hO.alloc _) wr.heap.size rfl (heap_alloc_new _ _) rfl (by omega) (by omega) (by simp; omega) ?_; intro v' w' hO' hb')
          go_roundw
          case rel => exact ⟨j + 1, by omega, by go_num, hb.trans (blw_al1 hb' (by omega)), by rw [HR.out]; exact hO'⟩
          case measure => simp [intOf]; omega
      · have hji : ¬ (j : Int) < (m : Int) + 1 := by omega
        obtain rfl : j = m + 1 := by omega
        go_wp2
        go_ret
        have e := HB.out
        subst e
        exact ⟨_, rfl, hbw.trans (hb.mono (by have := hbw.size; omega)), by rw [HU.out]; exact hO.wide (by have := hbw.size; omega) (Nat.le_refl _)⟩
end Go.Proofs.YtoloplpmjcgbdaaGreatDoor
