/- Unused of both. By mk_names.py. -/
import Derived.Test.YtiakdbcmppeniaaGreatDoorFree
namespace Go.Proofs.YtiakdbcmppeniaaGreatDoor
open Go.RowKit

/-- the texts of those that use a name -/
def useT (xs : List Node) (us vs : List Int) : List ByteArray := (vs.filter (useP xs us)).map fun i => (nd xs i).text
theorem useT_yes {xs : List Node} {us vs : List Int} {t : Nat} (h : t < vs.length) (hp : useP xs us vs[t] = true) : useT xs us (vs.take (t + 1)) = useT xs us (vs.take t) ++ [(nd xs vs[t]).text] := by
  unfold useT; rw [filter_yes h hp, List.map_append]; rfl
theorem useT_no {xs : List Node} {us vs : List Int} {t : Nat} (h : t < vs.length) (hp : useP xs us vs[t] = false) : useT xs us (vs.take (t + 1)) = useT xs us (vs.take t) := by
  unfold useT; rw [filter_no h hp]
theorem useT_len (xs : List Node) (us vs : List Int) : (useT xs us vs).length ≤ vs.length := by unfold useT; rw [List.length_map]; exact List.length_filter_le _ _
theorem useT_has (xs : List Node) (us : List Int) (s : ByteArray) : (useT xs us us).contains s = usedB xs us s := used_contains
def hitP (xs : List Node) (us : List Int) (s : ByteArray) (i : Int) : Bool := useP xs us i && ((nd xs i).text.toList == s.toList)
theorem any_succ {α : Type} {p : α → Bool} {xs : List α} {t : Nat} (h : t < xs.length) : (xs.take (t + 1)).any p = ((xs.take t).any p || p xs[t]) := by
  rw [List.take_succ_eq_append_getElem h, List.any_append]; simp
set_option maxHeartbeats 4000000 in
set_option maxRecDepth 100000 in
theorem unused_impl (xs : List Node) (v : Value) (lo hi : Nat) (k : Int) (w : World) (hr : Rd nodeS lo hi w v xs) (hh : hi ≤ w.heap.size) (hs : ∀ x ∈ xs, x.text.size ≤ 4611686018427387904) (hl : xs.length ≤ 1048576) :
    Calls Tryz.prog 19 #[v, .int .i64 k] w fun e w' => ∃ u, e = .returned u ∧ Below w.heap.size w w' ∧ Own strF 9 w.heap.size w'.heap.size w' u (unusedL xs k) := by
  obtain ⟨a, c, rfl⟩ := hr.sl
  obtain ⟨_, h2, h3⟩ := hr.lenEq
  obtain ⟨i0, hi0, hz0, hz1, hz2⟩ := info_parts Tryz.infoStrN
  obtain ⟨B, HB⟩ : ∃ B, Hid (B = w.heap.size) := ⟨_, rfl⟩
  have hBw : B ≤ w.heap.size := Nat.le_of_eq HB.out
  have HMM := Lib.hid (fun x (h : x ∈ underL xs k) => underL_mem h)
  have HLE := Lib.hid (underL_le xs k)
  have HLL := Lib.hid (letsIn_len xs k)
  have HDF : Hid (unusedL xs k = (letsIn xs k).filter fun s => !usedB xs (underL xs k) s) := rfl
  have HR := Lib.hid (fun w4 (h4 : Below w.heap.size w w4) => hr.below h4 hh)
  go_enter Tryz.func19, Tryz.ntmps19
  go_wp2_with fail
  refine (underOf_impl xs _ lo hi k _ hr hh hs hl).mono ?_
  rintro e wa ⟨u, rfl, hb1, hOU⟩
  have hbWa := hb1
  have hsWa := hb1.size
  have hrda := hOU.rd
  have HGD : Hid (∀ x ∈ underL xs k, 0 ≤ x ∧ x < xs.length ∧ Good xs x) := fun x hx => ⟨(underL_mem hx).1, (underL_mem hx).2.1, (underL_mem hx).2.2.2⟩
  generalize underL xs k = us at *
  obtain ⟨oa, oc, rfl⟩ := hrda.sl
  have hul : (us.length : Int) ≤ 9223372036854775807 := by have := HLE.out; omega
  go_wp2_with fail
  refine (bindersOf_any xs us _ _ lo hi _ _ wa (HR.out wa hbWa) (by omega) hrda (Nat.le_refl _) hl HGD.out).mono ?_
  rintro e wb ⟨rfl, bs, hBS, hb2, hM⟩
  have hs2 := hb2.size
  have HBS := Lib.hid hBS
  have hbWb : Below w.heap.size w wb := hbWa.trans (hb2.mono hsWa)
  have hsWb := hbWb.size
  have hMs := hM.size
  have HMC := Lib.hid (fun w4 (h4 : Below wb.heap.size wb w4) y (hy : y < xs.length) => (h4.cell (p := ⟨wa.heap.size, y, none⟩) hMs).trans (hM.cell hy))
  have HUR := Lib.hid (fun w4 (h4 : Below wb.heap.size wb w4) => (hrda.below hb2 (Nat.le_refl _)).below h4 hs2)
  have HNR := Lib.hid (fun w4 (h4 : Below wb.heap.size wb w4) => HR.out w4 (hbWb.trans (h4.mono hsWb)))
  go_wp2
  go_loopw [7, 21] (fun out i wr => ∃ t : Nat, t ≤ us.length ∧ i = .int .i64 t ∧ Below wb.heap.size wb wr ∧ Own strF 9 wb.heap.size wr.heap.size wr out (useT xs us (us.take t))) (fun _ i _ => us.length - (intOf i).toNat)
  case atStart => exact ⟨0, Nat.zero_le _, rfl, Below.refl _ _, Own.nil _ _ _ _ _⟩
  case round =>
    obtain ⟨t, ht, rfl, hb, hO⟩ := hrel
    have hsz := hb.size
    by_cases htl : t < us.length
    · obtain ⟨ub, uoff, rfl, _, _, uc0⟩ := (HUR.out wr hb).intAt htl
      have hti : (t : Int) < (us.length : Int) := by omega
      have htz : (0 : Int) ≤ (t : Int) := by omega
      have hm := HMM.out _ (List.getElem_mem htl)
      have hge : us.getD t 0 = us[t] := by rw [List.getD_eq_getElem?_getD, List.getElem?_eq_getElem htl]; rfl
      rw [hge] at uc0
      have HY := Lib.hid (fun h => useT_yes (xs := xs) (us := us) htl h)
      have HN := Lib.hid (fun h => useT_no (xs := xs) (us := us) htl h)
      have hol0 := useT_len xs us (us.take t)
      rw [List.length_take] at hol0
      have hlen := HLE.out
      obtain ⟨y, hy⟩ : ∃ y : Nat, us[t] = (y : Int) := ⟨us[t].toNat, by omega⟩
      rw [hy] at uc0 hm HY HN
      have hyl : y < xs.length := by omega
      have hyi : (y : Int) < (xs.length : Int) := by omega
      have hyz : (0 : Int) ≤ (y : Int) := by omega
      obtain ⟨b, off, ya, yc, eb, _, _, q0, q1, q2, q3, _⟩ := rd_nodeAt (HNR.out wr hb) hyl
      subst eb
      have HX : Hid (nd xs (y : Int) = xs[y]) := nd_at hyl
      have HP : Hid (useP xs us (y : Int) = ((xs[y].kind == 1) && !bs.getD y false)) := by show useP xs us (y : Int) = _; unfold useP; rw [HX.out, Int.toNat_natCast, HBS.out.2 y hyl]
      have m0 := HMC.out wr hb y hyl
      rw [HX.out] at HY
      clear hge hy hm
      generalize xs[y] = z at *
      obtain ⟨zk, zt, zs, zb⟩ := z
      simp only at q0 q1 q2 q3 HP HY
      obtain ⟨ol, hol⟩ : ∃ ol, Hid (useT xs us (us.take t) = ol) := ⟨_, rfl⟩
      rw [hol.out] at HY HN hO hol0
      obtain ⟨bm, hbm⟩ : ∃ bm, Hid (bs.getD y false = bm) := ⟨_, rfl⟩
      rw [hbm.out] at HP m0
      cases g : (zk == 1) with
      | false =>
        have HR1 := Lib.hid (HN.out (by rw [HP.out]; rw [show (zk == 1) = false from g]; rfl))
        go_wp2
        go_roundw
        case rel => exact ⟨t + 1, by omega, by go_num, hb, by rw [HR1.out]; exact hO⟩
        case measure => simp [intOf]; omega
      | true =>
      cases bm with
      | true =>
        have HR1 := Lib.hid (HN.out (by rw [HP.out]; rw [show (zk == 1) = true from g]; rfl))
        go_wp2
        go_roundw
        case rel => exact ⟨t + 1, by omega, by go_num, hb, by rw [HR1.out]; exact hO⟩
        case measure => simp [intOf]; omega
      | false =>
        have HR1 := Lib.hid (HY.out (by rw [HP.out]; rw [show (zk == 1) = true from g]; rfl))
        go_wp2_with (at_builtin; refine wp_app1 (F := strF) (P := Tryz.prog) (y := zt) rfl (.tmp 38) (.tmp 44) 24 rfl Tryz.underlying24 hi0 hz0 hz1 hz2 rfl (by decide) rfl (hO.alloc _) wr.heap.size rfl (heap_alloc_new _ _) rfl (by omega) (by omega) (by simp; omega) ?_; intro v' w' hO' hb')
        go_roundw
        case rel => exact ⟨t + 1, by omega, by go_num, hb.trans (blw_al1 hb' hsz), by rw [HR1.out]; exact hO'⟩
        case measure => simp [intOf]; omega
    · have hti : ¬ (t : Int) < (us.length : Int) := by omega
      rw [List.take_of_length_le (by omega)] at hO
      have hbWr : Below w.heap.size w wr := hbWb.trans (hb.mono hsWb)
      have HUH := Lib.hid (useT_has xs us)
      obtain ⟨va, vc, rfl⟩ := hO.rd.sl
      go_wp2_with fail
      refine (letsIn_impl xs _ lo hi k _ (HR.out wr hbWr) (by have := hbWr.size; omega) hs hl).mono ?_
      rintro e w1 ⟨u, rfl, hb3, hOL⟩
      have hs3 := hb3.size
      obtain ⟨na, nc, rfl⟩ := hOL.rd.sl
      have hbW1 : Below w.heap.size w w1 := hbWr.trans (hb3.mono hbWr.size)
      have hsW1 := hbW1.size
      have hBC : B ≤ w1.heap.size := by omega
      have HLR := Lib.hid (fun w4 (h4 : Below w1.heap.size w1 w4) => hOL.rd.below h4 (Nat.le_refl _))
      have HVR := Lib.hid (fun w4 (h4 : Below w1.heap.size w1 w4) => (hO.rd.below hb3 (Nat.le_refl _)).below h4 hs3)
      have hOE : OutE strF 9 B w1.heap.size w1 (.slice none 0 0) (((letsIn xs k).take 0).filter (fun s => !usedB xs us s)) := .inl (Own.nil _ _ _ _ _)
      generalize letsIn xs k = ls at *
      have hul2 : (ls.length : Int) ≤ 9223372036854775807 := by have := HLL.out; omega
      have hlen := HLL.out
      generalize useT xs us us = vs at *
      go_wp2
      go_loopw [10, 51] (fun out i wr => ∃ t : Nat, t ≤ ls.length ∧ i = .int .i64 t ∧ Below w1.heap.size w1 wr ∧ OutE strF 9 B w1.heap.size wr out ((ls.take t).filter (fun s => !usedB xs us s))) (fun _ i _ => ls.length - (intOf i).toNat)
      case atStart => exact ⟨0, Nat.zero_le _, rfl, Below.refl _ _, hOE⟩
      case round =>
        obtain ⟨t, ht, rfl, hb, hO⟩ := hrel
        have hsz := hb.size
        by_cases htl : t < ls.length
        · obtain ⟨sb, soff, rfl, _, _, sc0⟩ := rd_strAt (HLR.out wr hb) htl
          have hti : (t : Int) < (ls.length : Int) := by omega
          have htz : (0 : Int) ≤ (t : Int) := by omega
          have hge : ls.getD t ByteArray.empty = ls[t] := by rw [List.getD_eq_getElem?_getD, List.getElem?_eq_getElem htl]; rfl
          rw [hge] at sc0
          have HY := Lib.hid (fun h => filter_yes (p := (fun s => !usedB xs us s)) htl h)
          have HN := Lib.hid (fun h => filter_no (p := (fun s => !usedB xs us s)) htl h)
          have hol0 : ((ls.take t).filter (fun s => !usedB xs us s)).length ≤ t := Nat.le_trans (List.length_filter_le _ _) (List.length_take_le _ _)
          clear hge
          obtain ⟨ol, hol⟩ : ∃ ol, Hid ((ls.take t).filter (fun s => !usedB xs us s) = ol) := ⟨_, rfl⟩
          rw [hol.out] at HY HN hO hol0
          generalize ls[t] = s at *
          go_wp2_with fail
          refine (contains_any vs _ s _ _ _ (HVR.out wr hb)).mono ?_
          rintro e w' ⟨rfl, hw⟩
          replace hw := hw.symm
          subst hw
          cases g : vs.contains s with
          | true =>
            have HR1 := Lib.hid (HN.out (by rw [← HUH.out, g]; rfl))
            go_wp2
            go_roundw
            case rel => exact ⟨t + 1, by omega, by go_num, hb, by rw [HR1.out]; exact hO⟩
            case measure => simp [intOf]; omega
          | false =>
            have HR1 := Lib.hid (HY.out (by rw [← HUH.out, g]; rfl))
            go_wp2_with (at_builtin; refine wp_app1e (C := w1.heap.size) (F := strF) (P := Tryz.prog) (y := s) rfl (.tmp 59) (.tmp 61) 24 rfl Tryz.underlying24 hi0 hz0 hz1 hz2 rfl (by decide) rfl (hO.keep ((Below.refl _ _).alloc (Nat.le_refl _) _) hsz) wr.heap.size rfl (heap_alloc_new _ _) rfl (by omega) (by omega) (by simp; omega) ?_; intro v' w' hO' hb')
            go_roundw
            case rel => exact ⟨t + 1, by omega, by go_num, hb.trans (blw_al1 hb' hsz), by rw [HR1.out]; exact hO'⟩
            case measure => simp [intOf]; omega
        · have hti : ¬ (t : Int) < (ls.length : Int) := by omega
          have HF : Hid (unusedL xs k = (ls.take t).filter (fun s => !usedB xs us s)) := by show _ = _; rw [HDF.out, List.take_of_length_le (by omega)]
          go_wp2
          go_ret
          have e := HB.out
          subst e
          exact ⟨_, rfl, hbW1.trans (hb.mono hsW1), by rw [HF.out]; exact hO.own hBC hsz⟩
set_option maxHeartbeats 4000000 in
set_option maxRecDepth 100000 in
theorem unused_spec (xs : List Node) (v : Value) (lo hi : Nat) (k : Int) (w : World) (hr : Rd nodeS lo hi w v xs) (hh : hi ≤ w.heap.size) (hs : ∀ x ∈ xs, x.text.size ≤ 4611686018427387904) (hl : xs.length ≤ 1048576) :
    Calls Tryz.prog 18 #[v, .int .i64 k] w fun e w' => ∃ u, e = .returned u ∧ Below w.heap.size w w' ∧ Own strF 9 w.heap.size w'.heap.size w' u (unusedL xs k) := by
  obtain ⟨a, c, rfl⟩ := hr.sl
  obtain ⟨_, h2, h3⟩ := hr.lenEq
  obtain ⟨i0, hi0, hz0, hz1, hz2⟩ := info_parts Tryz.infoStrN
  obtain ⟨B, HB⟩ : ∃ B, Hid (B = w.heap.size) := ⟨_, rfl⟩
  have hBw : B ≤ w.heap.size := Nat.le_of_eq HB.out
  have HMM := Lib.hid (fun x (h : x ∈ underL xs k) => underL_mem h)
  have HLE := Lib.hid (underL_le xs k)
  have HLL := Lib.hid (letsIn_len xs k)
  have HDF : Hid (unusedL xs k = (letsIn xs k).filter fun s => !usedB xs (underL xs k) s) := rfl
  have HR := Lib.hid (fun w4 (h4 : Below w.heap.size w w4) => hr.below h4 hh)
  go_enter Tryz.func18, Tryz.ntmps18
  go_wp2_with fail
  generalize hE : (.cells #[] 9 : Obj) = E
  have hO0 : Own strF 9 B (w.alloc E).heap.size (w.alloc E) (.slice (some ⟨w.heap.size, 0, none⟩) 0 0) [] := by rw [← hE]; exact Own.empty strF 9 B w hBw
  have hbE : Below w.heap.size w (w.alloc E) := (Below.refl _ _).alloc (Nat.le_refl _) E
  have hsE : (w.alloc E).heap.size = w.heap.size + 1 := by simp
  generalize w.alloc E = w0 at *
  clear hE
  refine (underOf_spec xs _ lo hi k _ (hr.below hbE hh) (by omega) hs hl).mono ?_
  rintro e wa ⟨u, rfl, hb1, hOU⟩
  have hs1 := hb1.size
  have hbWa : Below w.heap.size w wa := hbE.trans (hb1.mono (by omega))
  have hsWa := hbWa.size
  have hrda := hOU.rd
  have HGD : Hid (∀ x ∈ underL xs k, 0 ≤ x ∧ x < xs.length ∧ Good xs x) := fun x hx => ⟨(underL_mem hx).1, (underL_mem hx).2.1, (underL_mem hx).2.2.2⟩
  generalize underL xs k = us at *
  obtain ⟨oa, oc, rfl⟩ := hrda.sl
  have hul : (us.length : Int) ≤ 9223372036854775807 := by have := HLE.out; omega
  go_wp2_with fail
  refine (l22Params_any xs us _ _ lo hi _ _ wa (HR.out wa hbWa) (by omega) hrda (Nat.le_refl _) hl HGD.out).mono ?_
  rintro e wb ⟨rfl, bs, hBS, hb2, hM⟩
  have hs2 := hb2.size
  have HBS := Lib.hid hBS
  have hbWb : Below w.heap.size w wb := hbWa.trans (hb2.mono hsWa)
  have hsWb := hbWb.size
  have hMs := hM.size
  go_wp2_with fail
  refine (letsIn_spec xs _ lo hi k _ (HR.out wb hbWb) (by omega) hs hl).mono ?_
  rintro e w1 ⟨u, rfl, hb3, hOL⟩
  have hs3 := hb3.size
  obtain ⟨na, nc, rfl⟩ := hOL.rd.sl
  have hbW1 : Below w.heap.size w w1 := hbWb.trans (hb3.mono hsWb)
  have hsW1 := hbW1.size
  have hBC : B ≤ w1.heap.size := by omega
  have HMC := Lib.hid (fun w4 (h4 : Below w1.heap.size w1 w4) y (hy : y < xs.length) => (h4.cell (p := ⟨wa.heap.size, y, none⟩) (by show wa.heap.size < _; omega)).trans ((hb3.cell (p := ⟨wa.heap.size, y, none⟩) hMs).trans (hM.cell hy)))
  have HUR := Lib.hid (fun w4 (h4 : Below w1.heap.size w1 w4) => ((hrda.below hb2 (Nat.le_refl _)).below hb3 hs2).below h4 (by omega))
  have HNR := Lib.hid (fun w4 (h4 : Below w1.heap.size w1 w4) => HR.out w4 (hbW1.trans (h4.mono hsW1)))
  have HLR := Lib.hid (fun w4 (h4 : Below w1.heap.size w1 w4) => hOL.rd.below h4 (Nat.le_refl _))
  have hOE : OutE strF 9 B w1.heap.size w1 (.slice (some ⟨w.heap.size, 0, none⟩) 0 0) (((letsIn xs k).take 0).filter (fun s => !usedB xs us s)) := .inr ⟨rfl, ⟨_, rfl⟩, ((((hO0.below hb1 (Nat.le_refl _)).wide (Nat.le_refl _) hs1).below hb2 (Nat.le_refl _)).below hb3 (by omega)).wide (Nat.le_refl _) (by omega)⟩
  generalize letsIn xs k = ls at *
  have hul2 : (ls.length : Int) ≤ 9223372036854775807 := by have := HLL.out; omega
  have hlen := HLL.out
  have HUB : Hid (∀ s, usedB xs us s = us.any (hitP xs us s)) := fun s => rfl
  go_wp2
  go_loopw [5, 9] (fun out i wr => ∃ t : Nat, t ≤ ls.length ∧ i = .int .i64 t ∧ Below w1.heap.size w1 wr ∧ OutE strF 9 B w1.heap.size wr out ((ls.take t).filter (fun s => !usedB xs us s))) (fun _ i _ => ls.length - (intOf i).toNat)
  case atStart => exact ⟨0, Nat.zero_le _, rfl, Below.refl _ _, hOE⟩
  case round =>
    obtain ⟨t, ht, rfl, hb, hO⟩ := hrel
    have hsz := hb.size
    by_cases htl : t < ls.length
    · obtain ⟨sb, soff, rfl, _, _, sc0⟩ := rd_strAt (HLR.out wr hb) htl
      have hti : (t : Int) < (ls.length : Int) := by omega
      have htz : (0 : Int) ≤ (t : Int) := by omega
      have hge : ls.getD t ByteArray.empty = ls[t] := by rw [List.getD_eq_getElem?_getD, List.getElem?_eq_getElem htl]; rfl
      have HGE := Lib.hid hge
      rw [hge] at sc0
      have HY := Lib.hid (fun h => filter_yes (p := (fun s => !usedB xs us s)) htl h)
      have HN := Lib.hid (fun h => filter_no (p := (fun s => !usedB xs us s)) htl h)
      have hol0 : ((ls.take t).filter (fun s => !usedB xs us s)).length ≤ t := Nat.le_trans (List.length_filter_le _ _) (List.length_take_le _ _)
      clear hge
      obtain ⟨ol, hol⟩ : ∃ ol, Hid ((ls.take t).filter (fun s => !usedB xs us s) = ol) := ⟨_, rfl⟩
      rw [hol.out] at HY HN hO hol0
      obtain ⟨s, hs0⟩ : ∃ s : ByteArray, Hid (ls[t] = s) := ⟨ls[t], Lib.hid (rfl : ls[t] = ls[t])⟩
      rw [hs0.out] at HY HN HGE sc0
      go_wp2
      go_loopw [10, 11] (fun ub i w3 => ∃ t2 : Nat, t2 ≤ us.length ∧ i = .int .i64 t2 ∧ ub = .bool ((us.take t2).any (hitP xs us s)) ∧ Below wr.heap.size wr w3) (fun _ i _ => us.length - (intOf i).toNat)
      case atStart => exact ⟨0, Nat.zero_le _, rfl, rfl, Below.refl _ _⟩
      case round =>
        obtain ⟨t2, ht2, rfl, rfl, hb5⟩ := hrel
        have hb6 := hb.trans (hb5.mono hsz)
        have hs5 := hb5.size
        have hO5 := hO.keep hb5 hsz
        by_cases htl2 : t2 < us.length
        · obtain ⟨ub, uoff, rfl, _, _, uc0⟩ := (HUR.out _ hb6).intAt htl2
          have hti2 : (t2 : Int) < (us.length : Int) := by omega
          have htz2 : (0 : Int) ≤ (t2 : Int) := by omega
          have hm := HMM.out _ (List.getElem_mem htl2)
          have hge : us.getD t2 0 = us[t2] := by rw [List.getD_eq_getElem?_getD, List.getElem?_eq_getElem htl2]; rfl
          rw [hge] at uc0
          have HAS := Lib.hid (any_succ (p := hitP xs us s) htl2)
          obtain ⟨y, hy⟩ : ∃ y : Nat, us[t2] = (y : Int) := ⟨us[t2].toNat, by omega⟩
          rw [hy] at uc0 hm HAS
          have hyl : y < xs.length := by omega
          have hyi : (y : Int) < (xs.length : Int) := by omega
          have hyz : (0 : Int) ≤ (y : Int) := by omega
          obtain ⟨b, off, ya, yc, eb, _, _, q0, q1, q2, q3, _⟩ := rd_nodeAt (HNR.out _ hb6) hyl
          subst eb
          have HX : Hid (nd xs (y : Int) = xs[y]) := nd_at hyl
          have HP : Hid (hitP xs us s (y : Int) = (((xs[y].kind == 1) && !bs.getD y false) && (xs[y].text.toList == s.toList))) := by show hitP xs us s (y : Int) = _; unfold hitP useP; rw [HX.out, Int.toNat_natCast, HBS.out.2 y hyl]
          have m0 := HMC.out _ hb6 y hyl
          obtain ⟨sb2, soff2, es, _, _, sc1⟩ := rd_strAt (HLR.out _ hb6) htl
          injection es with es
          injection es with es1 es2
          subst es1; subst es2
          rw [HGE.out] at sc1
          clear hge hy hm
          generalize xs[y] = z at *
          obtain ⟨zk, zt, zs, zb⟩ := z
          simp only at q0 q1 q2 q3 HP
          obtain ⟨au, hau⟩ : ∃ au, Hid ((us.take t2).any (hitP xs us s) = au) := ⟨_, rfl⟩
          rw [hau.out] at HAS ⊢
          obtain ⟨bm, hbm⟩ : ∃ bm, Hid (bs.getD y false = bm) := ⟨_, rfl⟩
          rw [hbm.out] at HP m0
          cases au with
          | true =>
            have HR1 : Hid ((us.take (t2 + 1)).any (hitP xs us s) = true) := by show _ = _; rw [HAS.out]; rfl
            go_wp2_with fail
            go_quiet (fail)
            go_wp2
            go_roundw
            case rel => exact ⟨t2 + 1, by omega, by go_num, bool_eq HR1.out.symm, blw_drewN hb5 _⟩
            case measure => simp [intOf]; omega
          | false =>
          cases g1 : (zk == 1) with
          | false =>
            have HR1 : Hid ((us.take (t2 + 1)).any (hitP xs us s) = false) := by show _ = _; rw [HAS.out, HP.out]; rw [show (zk == 1) = false from g1]; rfl
            go_wp2_with fail
            go_quiet (fail)
            go_wp2
            go_roundw
            case rel => exact ⟨t2 + 1, by omega, by go_num, bool_eq HR1.out.symm, blw_drewN hb5 _⟩
            case measure => simp [intOf]; omega
          | true =>
          cases bm with
          | true =>
            have HR1 : Hid ((us.take (t2 + 1)).any (hitP xs us s) = false) := by show _ = _; rw [HAS.out, HP.out]; rw [show (zk == 1) = true from g1]; rfl
            go_wp2_with fail
            go_quiet (fail)
            go_wp2
            go_roundw
            case rel => exact ⟨t2 + 1, by omega, by go_num, bool_eq HR1.out.symm, blw_drewN hb5 _⟩
            case measure => simp [intOf]; omega
          | false =>
          cases g2 : (zt.toList == s.toList) with
          | false =>
            have HR1 : Hid ((us.take (t2 + 1)).any (hitP xs us s) = false) := by show _ = _; rw [HAS.out, HP.out]; rw [show (zk == 1) = true from g1, show (zt.toList == s.toList) = false from g2]; rfl
            go_wp2_with fail
            go_quiet (fail)
            go_wp2
            go_roundw
            case rel => exact ⟨t2 + 1, by omega, by go_num, bool_eq HR1.out.symm, blw_drewN hb5 _⟩
            case measure => simp [intOf]; omega
          | true =>
            have HR1 : Hid ((us.take (t2 + 1)).any (hitP xs us s) = true) := by show _ = _; rw [HAS.out, HP.out]; rw [show (zk == 1) = true from g1, show (zt.toList == s.toList) = true from g2]; rfl
            go_wp2_with fail
            go_quiet (fail)
            go_wp2
            go_roundw
            case rel => exact ⟨t2 + 1, by omega, by go_num, bool_eq HR1.out.symm, blw_drewN hb5 _⟩
            case measure => simp [intOf]; omega
        · have hti2 : ¬ (t2 : Int) < (us.length : Int) := by omega
          have HUE : Hid (usedB xs us s = (us.take t2).any (hitP xs us s)) := by show _ = _; rw [HUB.out, List.take_of_length_le (by omega)]
          obtain ⟨au, hau⟩ : ∃ au, Hid ((us.take t2).any (hitP xs us s) = au) := ⟨_, rfl⟩
          rw [hau.out] at HUE ⊢
          obtain ⟨sb2, soff2, es, _, _, sc1⟩ := rd_strAt (HLR.out _ hb6) htl
          injection es with es
          injection es with es1 es2
          subst es1; subst es2
          rw [HGE.out] at sc1
          have hsz6 := hb6.size
          cases au with
          | true =>
            have HR1 := Lib.hid (HN.out (by rw [HUE.out]; rfl))
            go_wp2
            go_roundw
            case rel => exact ⟨t + 1, by omega, by go_num, hb6, by rw [HR1.out]; exact hO5⟩
            case measure => simp [intOf]; omega
          | false =>
            have HR1 := Lib.hid (HY.out (by rw [HUE.out]; rfl))
            go_wp2_with (at_builtin; refine wp_app1e (C := w1.heap.size) (F := strF) (P := Tryz.prog) (y := s) rfl (.tmp 73) (.tmp 78) 24 rfl Tryz.underlying24 hi0 hz0 hz1 hz2 rfl (by decide) rfl (hO5.keep ((Below.refl _ _).alloc (Nat.le_refl _) _) hsz6) wr.heap.size rfl (heap_alloc_new _ _) rfl (by omega) (by omega) (by simp; omega) ?_; intro v' w' hO' hb')
            go_roundw
            case rel => exact ⟨t + 1, by omega, by go_num, hb6.trans (blw_al1 hb' hsz6), by rw [HR1.out]; exact hO'⟩
            case measure => simp [intOf]; omega
    · have hti : ¬ (t : Int) < (ls.length : Int) := by omega
      have HF : Hid (unusedL xs k = (ls.take t).filter (fun s => !usedB xs us s)) := by show _ = _; rw [HDF.out, List.take_of_length_le (by omega)]
      go_wp2
      go_ret
      have e := HB.out
      subst e
      exact ⟨_, rfl, hbW1.trans (hb.mono hsW1), by rw [HF.out]; exact hO.own hBC hsz⟩
end Go.Proofs.YtiakdbcmppeniaaGreatDoor
