/- LetsIn of both. By mk_names.py. -/
import Derived.Test.YtiakdbcmppeniaaGreatDoorBind
namespace Go.Proofs.YtiakdbcmppeniaaGreatDoor
open Go.RowKit

set_option maxHeartbeats 4000000 in
set_option maxRecDepth 100000 in
theorem letsIn_impl (xs : List Node) (v : Value) (lo hi : Nat) (k : Int) (w : World) (hr : Rd nodeS lo hi w v xs) (hh : hi ≤ w.heap.size) (hs : ∀ x ∈ xs, x.text.size ≤ 4611686018427387904) (hl : xs.length ≤ 1048576) :
    Calls Tryz.prog 17 #[v, .int .i64 k] w fun e w' => ∃ u, e = .returned u ∧ Below w.heap.size w w' ∧ Own strF 9 w.heap.size w'.heap.size w' u (letsIn xs k) := by
  obtain ⟨a, c, rfl⟩ := hr.sl
  obtain ⟨_, h2, h3⟩ := hr.lenEq
  obtain ⟨B, HB⟩ : ∃ B, Hid (B = w.heap.size) := ⟨_, rfl⟩
  have hBw : B ≤ w.heap.size := Nat.le_of_eq HB.out
  have HMM := Lib.hid (fun x (h : x ∈ underL xs k) => underL_mem h)
  have HLE := Lib.hid (underL_le xs k)
  have HDF : Hid (letsIn xs k = onceL (letP xs (underL xs k)) xs (underL xs k)) := rfl
  have HR := Lib.hid (fun w4 (h4 : Below w.heap.size w w4) => hr.below h4 hh)
  go_enter Tryz.func17, Tryz.ntmps17
  go_wp2_with fail
  refine (underOf_impl xs _ lo hi k _ hr hh hs hl).mono ?_
  rintro e wa ⟨u, rfl, hb1, hOU⟩
  have hbWa := hb1
  have hsWa := hb1.size
  have hrda := hOU.rd
  have HGD : Hid (∀ x ∈ underL xs k, 0 ≤ x ∧ x < xs.length ∧ Good xs x) := fun x hx => ⟨(underL_mem hx).1, (underL_mem hx).2.1, (underL_mem hx).2.2.2⟩
  generalize underL xs k = us at *
  obtain ⟨oa, oc, rfl⟩ := hrda.sl
  have hul : (us.length : Int) ≤ 9223372036854775807 := by have := HLE.out; omega
  go_wp2_with fail
  refine (bindersOf_any xs us _ _ lo hi _ _ wa (HR.out wa hbWa) (by omega) hrda (Nat.le_refl _) hl HGD.out).mono ?_
  rintro e w1 ⟨rfl, bs, hBS, hb2, hM⟩
  have hs2 := hb2.size
  have HBS := Lib.hid hBS
  have hbW1 : Below w.heap.size w w1 := hbWa.trans (hb2.mono hsWa)
  have hsW1 := hbW1.size
  have hrd := hrda.below hb2 (Nat.le_refl _)
  have hu1 : wa.heap.size ≤ w1.heap.size := hs2
  have hMs := hM.size
  have HMC := Lib.hid (fun w4 (h4 : Below w1.heap.size w1 w4) y (hy : y < xs.length) => (h4.cell (p := ⟨wa.heap.size, y, none⟩) hMs).trans (hM.cell hy))
  have hBC : B ≤ w1.heap.size := by omega
  have hOE : OutE strF 9 B w1.heap.size w1 (.slice none 0 0) (onceL (letP xs us) xs (us.take 0)) := .inl (Own.nil _ _ _ _ _)
  have HUR := Lib.hid (fun w4 (h4 : Below w1.heap.size w1 w4) => hrd.below h4 hu1)
  have HNR := Lib.hid (fun w4 (h4 : Below w1.heap.size w1 w4) => HR.out w4 (hbW1.trans (h4.mono hsW1)))
  go_wp2
  go_loopw [7, 18] (fun out i wr => ∃ t : Nat, t ≤ us.length ∧ i = .int .i64 t ∧ Below w1.heap.size w1 wr ∧ OutE strF 9 B w1.heap.size wr out (onceL (letP xs us) xs (us.take t))) (fun _ i _ => us.length - (intOf i).toNat)
  case atStart => exact ⟨0, Nat.zero_le _, rfl, Below.refl _ _, hOE⟩
  case round =>
    obtain ⟨t, ht, rfl, hb, hO⟩ := hrel
    have hsz := hb.size
    by_cases htl : t < us.length
    · obtain ⟨ub, uoff, rfl, _, _, uc0⟩ := (HUR.out wr hb).intAt htl
      have hti : (t : Int) < (us.length : Int) := by omega
      have htz : (0 : Int) ≤ (t : Int) := by omega
      have hm := HMM.out _ (List.getElem_mem htl)
      have hge : us.getD t 0 = us[t] := by rw [List.getD_eq_getElem?_getD, List.getElem?_eq_getElem htl]; rfl
      rw [hge] at uc0
      have HY := Lib.hid (fun h => onceL_yes (p := letP xs us) (xs := xs) htl h)
      have HN := Lib.hid (fun h => onceL_no (p := letP xs us) (xs := xs) htl h)
      have hol0 := onceL_len (letP xs us) xs us t ht
      have hlen := HLE.out
      obtain ⟨y, hy⟩ : ∃ y : Nat, us[t] = (y : Int) := ⟨us[t].toNat, by omega⟩
      rw [hy] at uc0 hm HY HN
      have hyl : y < xs.length := by omega
      have hyi : (y : Int) < (xs.length : Int) := by omega
      have hyz : (0 : Int) ≤ (y : Int) := by omega
      obtain ⟨b, off, ya, yc, eb, _, _, q0, q1, q2, q3, _⟩ := rd_nodeAt (HNR.out wr hb) hyl
      subst eb
      have HX : Hid (nd xs (y : Int) = xs[y]) := nd_at hyl
      have HP : Hid ((letP xs us) (y : Int) = ((xs[y].kind == 12) || bs.getD y false)) := by show letP xs us (y : Int) = _; unfold letP; rw [HX.out, Int.toNat_natCast, HBS.out.2 y hyl]
      have m0 := HMC.out wr hb y hyl
      rw [HX.out] at HY
      clear hge hy hm
      generalize xs[y] = z at *
      obtain ⟨zk, zt, zs, zb⟩ := z
      simp only at q0 q1 q2 q3 HP HY
      obtain ⟨ol, hol⟩ : ∃ ol, Hid (onceL (letP xs us) xs (us.take t) = ol) := ⟨_, rfl⟩
      rw [hol.out] at HY HN hO hol0
      obtain ⟨bm, hbm⟩ : ∃ bm, Hid (bs.getD y false = bm) := ⟨_, rfl⟩
      rw [hbm.out] at HP m0
      cases g : (zk == 12) with
      | true =>
        have HR1 := Lib.hid (HY.out (by rw [HP.out]; rw [show (zk == 12) = true from g]; rfl))
        go_wp2_with fail
        refine (addOnce_impl ol _ zt B w1.heap.size _ hO hBC hsz (by omega)).mono ?_
        rintro e w2 ⟨u2, rfl, hb2, hO2⟩
        go_wp2
        go_roundw
        case rel => exact ⟨t + 1, by omega, by go_num, hb.trans hb2, by rw [HR1.out]; exact hO2⟩
        case measure => simp [intOf]; omega
      | false =>
      cases bm with
      | true =>
        have HR1 := Lib.hid (HY.out (by rw [HP.out]; rw [show (zk == 12) = false from g]; rfl))
        go_wp2_with fail
        refine (addOnce_impl ol _ zt B w1.heap.size _ hO hBC hsz (by omega)).mono ?_
        rintro e w2 ⟨u2, rfl, hb2, hO2⟩
        go_wp2
        go_roundw
        case rel => exact ⟨t + 1, by omega, by go_num, hb.trans hb2, by rw [HR1.out]; exact hO2⟩
        case measure => simp [intOf]; omega
      | false =>
        have HR1 := Lib.hid (HN.out (by rw [HP.out]; rw [show (zk == 12) = false from g]; rfl))
        go_wp2
        go_roundw
        case rel => exact ⟨t + 1, by omega, by go_num, hb, by rw [HR1.out]; exact hO⟩
        case measure => simp [intOf]; omega
    · have hti : ¬ (t : Int) < (us.length : Int) := by omega
      have HF : Hid (letsIn xs k = onceL (letP xs us) xs (us.take t)) := by show _ = _; rw [HDF.out, List.take_of_length_le (by omega)]
      go_wp2
      go_ret
      have e := HB.out
      subst e
      exact ⟨_, rfl, hbW1.trans (hb.mono hsW1), by rw [HF.out]; exact hO.own hBC hsz⟩
set_option maxHeartbeats 4000000 in
set_option maxRecDepth 100000 in
theorem letsIn_spec (xs : List Node) (v : Value) (lo hi : Nat) (k : Int) (w : World) (hr : Rd nodeS lo hi w v xs) (hh : hi ≤ w.heap.size) (hs : ∀ x ∈ xs, x.text.size ≤ 4611686018427387904) (hl : xs.length ≤ 1048576) :
    Calls Tryz.prog 16 #[v, .int .i64 k] w fun e w' => ∃ u, e = .returned u ∧ Below w.heap.size w w' ∧ Own strF 9 w.heap.size w'.heap.size w' u (letsIn xs k) := by
  obtain ⟨a, c, rfl⟩ := hr.sl
  obtain ⟨_, h2, h3⟩ := hr.lenEq
  obtain ⟨B, HB⟩ : ∃ B, Hid (B = w.heap.size) := ⟨_, rfl⟩
  have hBw : B ≤ w.heap.size := Nat.le_of_eq HB.out
  have HMM := Lib.hid (fun x (h : x ∈ underL xs k) => underL_mem h)
  have HLE := Lib.hid (underL_le xs k)
  have HDF : Hid (letsIn xs k = onceL (letP xs (underL xs k)) xs (underL xs k)) := rfl
  have HR := Lib.hid (fun w4 (h4 : Below w.heap.size w w4) => hr.below h4 hh)
  go_enter Tryz.func16, Tryz.ntmps16
  go_wp2_with fail
  generalize hE : (.cells #[] 9 : Obj) = E
  have hO0 : Own strF 9 B (w.alloc E).heap.size (w.alloc E) (.slice (some ⟨w.heap.size, 0, none⟩) 0 0) [] := by rw [← hE]; exact Own.empty strF 9 B w hBw
  have hbE : Below w.heap.size w (w.alloc E) := (Below.refl _ _).alloc (Nat.le_refl _) E
  have hsE : (w.alloc E).heap.size = w.heap.size + 1 := by simp
  generalize w.alloc E = w0 at *
  clear hE
  refine (underOf_spec xs _ lo hi k _ (hr.below hbE hh) (by omega) hs hl).mono ?_
  rintro e wa ⟨u, rfl, hb1, hOU⟩
  have hs1 := hb1.size
  have hbWa : Below w.heap.size w wa := hbE.trans (hb1.mono (by omega))
  have hsWa := hbWa.size
  have hrda := hOU.rd
  have HGD : Hid (∀ x ∈ underL xs k, 0 ≤ x ∧ x < xs.length ∧ Good xs x) := fun x hx => ⟨(underL_mem hx).1, (underL_mem hx).2.1, (underL_mem hx).2.2.2⟩
  generalize underL xs k = us at *
  obtain ⟨oa, oc, rfl⟩ := hrda.sl
  have hul : (us.length : Int) ≤ 9223372036854775807 := by have := HLE.out; omega
  go_wp2_with fail
  refine (l22Params_any xs us _ _ lo hi _ _ wa (HR.out wa hbWa) (by omega) hrda (Nat.le_refl _) hl HGD.out).mono ?_
  rintro e w1 ⟨rfl, bs, hBS, hb2, hM⟩
  have hs2 := hb2.size
  have HBS := Lib.hid hBS
  have hbW1 : Below w.heap.size w w1 := hbWa.trans (hb2.mono hsWa)
  have hsW1 := hbW1.size
  have hrd := hrda.below hb2 (Nat.le_refl _)
  have hu1 : wa.heap.size ≤ w1.heap.size := hs2
  have hMs := hM.size
  have HMC := Lib.hid (fun w4 (h4 : Below w1.heap.size w1 w4) y (hy : y < xs.length) => (h4.cell (p := ⟨wa.heap.size, y, none⟩) hMs).trans (hM.cell hy))
  have hBC : B ≤ w1.heap.size := by omega
  have hOE : OutE strF 9 B w1.heap.size w1 (.slice (some ⟨w.heap.size, 0, none⟩) 0 0) (onceL (letP xs us) xs (us.take 0)) := .inr ⟨rfl, ⟨_, rfl⟩, (((hO0.below hb1 (Nat.le_refl _)).wide (Nat.le_refl _) hs1).below hb2 (Nat.le_refl _)).wide (Nat.le_refl _) hs2⟩
  have HUR := Lib.hid (fun w4 (h4 : Below w1.heap.size w1 w4) => hrd.below h4 hu1)
  have HNR := Lib.hid (fun w4 (h4 : Below w1.heap.size w1 w4) => HR.out w4 (hbW1.trans (h4.mono hsW1)))
  go_wp2
  go_loopw [5, 8] (fun out i wr => ∃ t : Nat, t ≤ us.length ∧ i = .int .i64 t ∧ Below w1.heap.size w1 wr ∧ OutE strF 9 B w1.heap.size wr out (onceL (letP xs us) xs (us.take t))) (fun _ i _ => us.length - (intOf i).toNat)
  case atStart => exact ⟨0, Nat.zero_le _, rfl, Below.refl _ _, hOE⟩
  case round =>
    obtain ⟨t, ht, rfl, hb, hO⟩ := hrel
    have hsz := hb.size
    by_cases htl : t < us.length
    · obtain ⟨ub, uoff, rfl, _, _, uc0⟩ := (HUR.out wr hb).intAt htl
      have hti : (t : Int) < (us.length : Int) := by omega
      have htz : (0 : Int) ≤ (t : Int) := by omega
      have hm := HMM.out _ (List.getElem_mem htl)
      have hge : us.getD t 0 = us[t] := by rw [List.getD_eq_getElem?_getD, List.getElem?_eq_getElem htl]; rfl
      rw [hge] at uc0
      have HY := Lib.hid (fun h => onceL_yes (p := letP xs us) (xs := xs) htl h)
      have HN := Lib.hid (fun h => onceL_no (p := letP xs us) (xs := xs) htl h)
      have hol0 := onceL_len (letP xs us) xs us t ht
      have hlen := HLE.out
      obtain ⟨y, hy⟩ : ∃ y : Nat, us[t] = (y : Int) := ⟨us[t].toNat, by omega⟩
      rw [hy] at uc0 hm HY HN
      have hyl : y < xs.length := by omega
      have hyi : (y : Int) < (xs.length : Int) := by omega
      have hyz : (0 : Int) ≤ (y : Int) := by omega
      obtain ⟨b, off, ya, yc, eb, _, _, q0, q1, q2, q3, _⟩ := rd_nodeAt (HNR.out wr hb) hyl
      subst eb
      have HX : Hid (nd xs (y : Int) = xs[y]) := nd_at hyl
      have HP : Hid ((letP xs us) (y : Int) = ((xs[y].kind == 12) || bs.getD y false)) := by show letP xs us (y : Int) = _; unfold letP; rw [HX.out, Int.toNat_natCast, HBS.out.2 y hyl]
      have m0 := HMC.out wr hb y hyl
      rw [HX.out] at HY
      clear hge hy hm
      generalize xs[y] = z at *
      obtain ⟨zk, zt, zs, zb⟩ := z
      simp only at q0 q1 q2 q3 HP HY
      obtain ⟨ol, hol⟩ : ∃ ol, Hid (onceL (letP xs us) xs (us.take t) = ol) := ⟨_, rfl⟩
      rw [hol.out] at HY HN hO hol0
      obtain ⟨bm, hbm⟩ : ∃ bm, Hid (bs.getD y false = bm) := ⟨_, rfl⟩
      rw [hbm.out] at HP m0
      cases g : (zk == 12) with
      | true =>
        have HR1 := Lib.hid (HY.out (by rw [HP.out]; rw [show (zk == 12) = true from g]; rfl))
        go_wp2_with fail
        refine (l22Add_any ol _ zt B w1.heap.size _ hO hBC hsz (by omega)).mono ?_
        rintro e w2 ⟨u2, rfl, hb2, hO2⟩
        go_wp2
        go_roundw
        case rel => exact ⟨t + 1, by omega, by go_num, hb.trans hb2, by rw [HR1.out]; exact hO2⟩
        case measure => simp [intOf]; omega
      | false =>
      cases bm with
      | true =>
        have HR1 := Lib.hid (HY.out (by rw [HP.out]; rw [show (zk == 12) = false from g]; rfl))
        go_wp2_with fail
        refine (l22Add_any ol _ zt B w1.heap.size _ hO hBC hsz (by omega)).mono ?_
        rintro e w2 ⟨u2, rfl, hb2, hO2⟩
        go_wp2
        go_roundw
        case rel => exact ⟨t + 1, by omega, by go_num, hb.trans hb2, by rw [HR1.out]; exact hO2⟩
        case measure => simp [intOf]; omega
      | false =>
        have HR1 := Lib.hid (HN.out (by rw [HP.out]; rw [show (zk == 12) = false from g]; rfl))
        go_wp2
        go_roundw
        case rel => exact ⟨t + 1, by omega, by go_num, hb, by rw [HR1.out]; exact hO⟩
        case measure => simp [intOf]; omega
    · have hti : ¬ (t : Int) < (us.length : Int) := by omega
      have HF : Hid (letsIn xs k = onceL (letP xs us) xs (us.take t)) := by show _ = _; rw [HDF.out, List.take_of_length_le (by omega)]
      go_wp2
      go_ret
      have e := HB.out
      subst e
      exact ⟨_, rfl, hbW1.trans (hb.mono hsW1), by rw [HF.out]; exact hO.own hBC hsz⟩
end Go.Proofs.YtiakdbcmppeniaaGreatDoor
