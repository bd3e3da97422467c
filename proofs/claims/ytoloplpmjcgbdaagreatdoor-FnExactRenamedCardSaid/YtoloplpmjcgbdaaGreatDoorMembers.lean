/- MembersIn of both. -/
import Derived.Test.YtoloplpmjcgbdaaGreatDoorUnderS
import Derived.Test.YtoloplpmjcgbdaaGreatDoorTree
import Derived.Test.YtoloplpmjcgbdaaGreatDoorMembersP
import Derived.Test.YtoloplpmjcgbdaaGreatDoorSortInts
import Derived.StillTailTactics
namespace Go.Proofs.YtoloplpmjcgbdaaGreatDoor
open Go.RowKit

theorem filt_succ {p : Int → Bool} {ks : List Int} {t : Nat} (h : t < ks.length) {q : Int} (e : ks[t] = q) {b : Bool} (hb : p q = b) : (ks.take (t + 1)).filter p = (ks.take t).filter p ++ (if b then [q] else []) := by
  rw [List.take_succ_eq_append_getElem h, List.filter_append, e]
  cases b <;> simp [hb]
theorem memN_len {xs : List Node} (h : ∀ i : Nat, i < xs.length → (nd xs (i : Int)).kids.length ≤ 12) : ∀ i, i ≤ xs.length → (memN xs i).length ≤ 12 * i
  | 0, _ => by simp [memN]
  | i + 1, hi => by
    have h1 := memN_len h i (by omega)
    have h2 := h i (by omega)
    rw [memN, List.length_append]
    have : (ksOf xs i).length ≤ (nd xs (i : Int)).kids.length := by
      unfold ksOf
      split
      · exact List.length_filter_le _ _
      · simp
    omega
def memL (hs : List Bool) (j : Nat) : List Int := ((List.range j).filter fun q => hs.getD q false).map fun q : Nat => (q : Int)
theorem memL_succ (hs : List Bool) (j : Nat) {b : Bool} (h : hs.getD j false = b) : memL hs (j + 1) = memL hs j ++ (if b then [(j : Int)] else []) := by
  unfold memL
  rw [List.range_succ, List.filter_append, List.map_append, List.filter_cons, h]
  cases b <;> rfl
theorem memL_len (hs : List Bool) (j : Nat) : (memL hs j).length ≤ j := by
  unfold memL
  rw [List.length_map]
  exact Nat.le_trans (List.length_filter_le _ _) (by rw [List.length_range]; exact Nat.le_refl _)
theorem membersL_yes {xs : List Node} (h : treeOk xs = true) : membersL xs = memL (hasN xs xs.length) xs.length := by unfold membersL memL; rw [if_pos h]
theorem isCls_no {k : Int} (h1 : (k != 21) = true) (h2 : (k != 22) = true) : isCls k = false := by
  unfold isCls
  simp at h1 h2 ⊢
  exact ⟨h1, h2⟩
theorem isCls_21 {k : Int} (h1 : (k != 21) = false) : isCls k = true := by
  unfold isCls
  simp at h1 ⊢
  exact .inl h1
theorem isCls_22 {k : Int} (h1 : (k != 22) = false) : isCls k = true := by
  unfold isCls
  simp at h1 ⊢
  exact .inr h1
theorem ksOf_no {xs : List Node} {i : Nat} (h : isCls (nd xs (i : Int)).kind = false) : memN xs (i + 1) = memN xs i := by
  rw [memN, ksOf, h]; simp
theorem ksOf_yes {xs : List Node} {i : Nat} (h : isCls (nd xs (i : Int)).kind = true) : memN xs (i + 1) = memN xs i ++ (nd xs (i : Int)).kids.filter (okMem xs) := by
  rw [memN, ksOf, h]; simp
theorem hasN_no {xs : List Node} {i : Nat} (h : isCls (nd xs (i : Int)).kind = false) : hasN xs (i + 1) = hasN xs i := by
  rw [hasN, h]; simp [hasK]
theorem hasN_yes {xs : List Node} {i : Nat} (h : isCls (nd xs (i : Int)).kind = true) : hasN xs (i + 1) = hasK xs (hasN xs i) (nd xs (i : Int)).kids := by
  rw [hasN, h]; simp
theorem tree_twelve {xs : List Node} (h : treeOk xs = true) : ∀ i : Nat, i < xs.length → (nd xs (i : Int)).kids.length ≤ 12 := fun i hi => by
  have h1 := (tree_good (treeOk_iff.1 h) i hi).count; have h2 := hiK_le (nd xs (i : Int)).kind; omega
theorem isCls_noe {k : Int} (h1 : (k == 21) = false) (h2 : (k == 22) = false) : isCls k = false := by unfold isCls; rw [h1, h2]; rfl
theorem isCls_21e {k : Int} (h1 : (k == 21) = true) : isCls k = true := by unfold isCls; rw [h1]; rfl
theorem isCls_22e {k : Int} (h1 : (k == 22) = true) : isCls k = true := by unfold isCls; rw [h1]; exact Bool.or_true _
set_option maxHeartbeats 4000000 in
set_option maxRecDepth 100000 in
theorem membersIn_impl (xs : List Node) (v : Value) (lo hi : Nat) (w : World) (hr : Rd nodeS lo hi w v xs) (hh : hi ≤ w.heap.size) (hs : ∀ x ∈ xs, x.text.size ≤ 4611686018427387904) (hl : xs.length ≤ 1048576) :
    Calls Tryz.prog 31 #[v] w fun e w' => ∃ u, e = .returned u ∧ Below w.heap.size w w' ∧ Own intF 3 w.heap.size w'.heap.size w' u (membersL xs) := by
  obtain ⟨i0, hi0, hz0, hz1, hz2⟩ := info_parts Tryz.infoInt1
  obtain ⟨a, c, rfl⟩ := hr.sl
  obtain ⟨_, h2, h3⟩ := hr.lenEq
  have hxl : (xs.length : Int) ≤ 9223372036854775807 := by omega
  obtain ⟨B, HB⟩ : ∃ B, Hid (B = w.heap.size) := ⟨_, rfl⟩
  have hBw : B ≤ w.heap.size := Nat.le_of_eq HB.out
  have HF0 := Lib.hid (membersL_no (xs := xs))
  have HT := Lib.hid (treeOk_impl xs _ lo hi w hr hh hs hl)
  have HY := Lib.hid (fun h => (members_sorted (xs := xs) h))
  have HK12 := Lib.hid (tree_twelve (xs := xs))
  have HGD := Lib.hid (fun (h : treeOk xs = true) => tree_good (treeOk_iff.1 h))
  obtain ⟨tv, htv⟩ : ∃ tv, Hid (treeOk xs = tv) := ⟨_, rfl⟩
  rw [htv.out] at HF0 HT HY HK12 HGD
  go_enter Tryz.func31, Tryz.ntmps31
  go_wp2_with fail
  refine HT.out.mono ?_
  rintro e w1 ⟨rfl, hb1⟩
  have hs1 := hb1.size
  cases tv with
  | false =>
    have HU := Lib.hid (HF0.out rfl)
    go_wp2
    go_ret
    exact ⟨_, rfl, hb1, by rw [HU.out]; exact Own.nil _ _ _ _ _⟩
  | true =>
    have HK := Lib.hid (HK12.out rfl)
    have HML := Lib.hid (memN_len HK.out)
    have HG := Lib.hid (HGD.out rfl)
    have HS := Lib.hid (HY.out rfl)
    have hbB : Below B w w1 := hb1.mono hBw
    have HR := Lib.hid (fun w4 (h : Below w1.heap.size w1 w4) => (hr.below (hb1.trans (h.mono hs1)) hh))
    go_wp2
    go_loopw [3, 13] (fun out i wr => ∃ j : Nat, j ≤ xs.length ∧ i = .int .i64 j ∧ Below w1.heap.size w1 wr ∧ Own intF 3 w1.heap.size wr.heap.size wr out (memN xs j)) (fun _ i _ => xs.length - (intOf i).toNat)
    case atStart => exact ⟨0, Nat.zero_le _, rfl, Below.refl _ _, Own.nil _ _ _ _ _⟩
    case round =>
      obtain ⟨j, hj, rfl, hb, hO⟩ := hrel
      have hsz := hb.size
      by_cases hlt : j < xs.length
      · have hji : (j : Int) < (xs.length : Int) := by omega
        have hjz : (0 : Int) ≤ (j : Int) := by omega
        have hml := HML.out j hj
        obtain ⟨b, off, xa, xc, eb, _, hbb, p0, p1, p2, p3, hk⟩ := rd_nodeAt (HR.out w1 (Below.refl _ _)) hlt
        subst eb
        have HX : Hid (nd xs (j : Int) = xs[j]) := nd_at hlt
        have HBE := Lib.hid (HG.out j hlt).below
        have HL12 := HK.out j hlt
        have HNO := Lib.hid (ksOf_no (xs := xs) (i := j))
        have HYE := Lib.hid (ksOf_yes (xs := xs) (i := j))
        rw [HX.out] at HBE HL12 HNO HYE
        have HQ : Hid (∀ w4, Below w1.heap.size w1 w4 → w4.cell? ⟨b, off + j * 4, none⟩ = some (.int .i64 xs[j].kind) ∧ w4.cell? ⟨b, off + j * 4 + 1, none⟩ = some (.string xs[j].text) ∧ w4.cell? ⟨b, off + j * 4 + 2, none⟩ = some (.slice xa xs[j].kids.length xc) ∧ w4.cell? ⟨b, off + j * 4 + 3, none⟩ = some (.bool xs[j].blank) ∧ Rd intS lo hi w4 (.slice xa xs[j].kids.length xc) xs[j].kids ∧ Rd nodeS lo hi w4 (.slice (some ⟨b, off, none⟩) xs.length c) xs) := fun w4 h4 =>
          ⟨(h4.cell (p := ⟨b, _, none⟩) (by show b < _; omega)).trans p0, (h4.cell (p := ⟨b, _, none⟩) (by show b < _; omega)).trans p1, (h4.cell (p := ⟨b, _, none⟩) (by show b < _; omega)).trans p2, (h4.cell (p := ⟨b, _, none⟩) (by show b < _; omega)).trans p3, hk.below h4 (by omega), HR.out w4 h4⟩
        clear p0 p1 p2 p3
        generalize xs[j] = x at *
        obtain ⟨xk, xt, ks, xb⟩ := x
        obtain ⟨_, hkl, hkc⟩ := hk.lenEq
        simp only at hk HL12 HNO HYE HQ hkl
        have hki : (ks.length : Int) ≤ 9223372036854775807 := by omega
        obtain ⟨q0, q1, q2, q3, _, _⟩ := HQ.out _ hb
        cases g1 : (xk != 21) with
        | true =>
          cases g2 : (xk != 22) with
          | true =>
            have HE := Lib.hid (HNO.out (isCls_no g1 g2))
            go_wp2
            go_roundw
            case rel => exact ⟨j + 1, by omega, by go_num, hb.alloc (by omega) _, by rw [HE.out]; exact (hO.alloc _).up⟩
            case measure => simp [intOf]; omega
          | false =>
            have HE := Lib.hid (HYE.out (isCls_22 g2))
            go_wp2
            have hbA := hb.alloc (by omega : w1.heap.size ≤ wr.heap.size) (Obj.cells #[Value.int IntKind.i64 xk, Value.string xt, Value.slice xa ks.length xc, Value.bool xb] 38)
            have hOA := (hO.alloc (Obj.cells #[Value.int IntKind.i64 xk, Value.string xt, Value.slice xa ks.length xc, Value.bool xb] 38)).up
            generalize wr.alloc (Obj.cells #[Value.int IntKind.i64 xk, Value.string xt, Value.slice xa ks.length xc, Value.bool xb] 38) = w3 at *
            clear hb hO q0 q1 q2 q3
            go_loopw [3, 28] (fun out i wr => ∃ t : Nat, t ≤ ks.length ∧ i = .int .i64 t ∧ Below w1.heap.size w1 wr ∧ Own intF 3 w1.heap.size wr.heap.size wr out (memN xs j ++ (ks.take t).filter (okMem xs))) (fun _ i _ => ks.length - (intOf i).toNat)
            case atStart => exact ⟨0, Nat.zero_le _, rfl, hbA, by rw [List.take_zero, List.filter_nil, List.append_nil]; exact hOA⟩
            case round =>
              clear hbA hOA
              obtain ⟨t, ht, rfl, hb5, hO5⟩ := hrel
              have hsz5 := hb5.size
              obtain ⟨q0, q1, q2, q3, hk5, hr5⟩ := HQ.out _ hb5
              by_cases htl : t < ks.length
              · have hti : (t : Int) < (ks.length : Int) := by omega
                have htz : (0 : Int) ≤ (t : Int) := by omega
                obtain ⟨kb, koff, rfl, _, _, kc0⟩ := hk5.intAt htl
                have hbk := HBE.out t htl
                rw [kd_at (x := ⟨xk, xt, ks, xb⟩) htl] at hbk
                rw [List.getD_eq_getElem?_getD, List.getElem?_eq_getElem htl] at kc0
                replace kc0 : wr.cell? ⟨kb, koff + t, none⟩ = some (.int .i64 ks[t]) := kc0
                replace hbk : 0 ≤ ks[t] ∧ ks[t] < (j : Int) := hbk
                obtain ⟨q, hq⟩ : ∃ q : Nat, ks[t] = (q : Int) := ⟨ks[t].toNat, by omega⟩
                have HQE := Lib.hid hq
                rw [hq] at kc0 hbk
                clear hq
                have hql : q < xs.length := by omega
                have hqi : (q : Int) < (xs.length : Int) := by omega
                have hqz : (0 : Int) ≤ (q : Int) := by omega
                obtain ⟨b9, off9, _, _, e9, _, _, z0, _⟩ := rd_nodeAt hr5 hql
                injection e9 with e9
                injection e9 with ee1 ee2
                subst ee1; subst ee2
                have HOK : Hid (okMem xs (q : Int) = (xs[q].kind != 19)) := by show okMem xs (q : Int) = _; unfold okMem; rw [nd_at hql]
                generalize xs[q].kind = zk at *
                obtain ⟨bz, hbz⟩ : ∃ bz, (zk != 19) = bz := ⟨_, rfl⟩
                rw [hbz] at HOK
                have hll : (memN xs j ++ (ks.take t).filter (okMem xs)).length ≤ 16777216 := by
                  rw [List.length_append]
                  have h1 := List.length_filter_le (okMem xs) (ks.take t)
                  have h2 := List.length_take_le t ks
                  omega
                cases bz with
                | true =>
                  have HS2 : Hid (memN xs j ++ (ks.take (t + 1)).filter (okMem xs) = (memN xs j ++ (ks.take t).filter (okMem xs)) ++ [(q : Int)]) := by show _ = _; rw [filt_succ htl HQE.out HOK.out, if_pos rfl, List.append_assoc]
                  go_wp2_with (at_builtin; refine wp_app1 (F := intF) (P := Tryz.prog) (y := (q : Int)) rfl (.tmp 38) (.tmp 40) 34 rfl Tryz.underlying34 hi0 hz0 hz1 hz2 rfl (by decide) rfl (hO5.alloc _) wr.heap.size rfl (heap_alloc_new _ _) rfl (by omega) (by omega) (by simp; omega) ?_; intro v' w' hO' hb')
                  go_roundw
                  case rel => exact ⟨t + 1, by omega, by go_num, hb5.trans (blw_al1 hb' (by omega)), by rw [HS2.out]; exact hO'⟩
                  case measure => simp [intOf]; omega
                | false =>
                  have HS2 : Hid (memN xs j ++ (ks.take (t + 1)).filter (okMem xs) = memN xs j ++ (ks.take t).filter (okMem xs)) := by show _ = _; rw [filt_succ htl HQE.out HOK.out, if_neg (by decide), List.append_nil]
                  go_wp2
                  go_roundw
                  case rel => exact ⟨t + 1, by omega, by go_num, hb5, by rw [HS2.out]; exact hO5⟩
                  case measure => simp [intOf]; omega
              · have hti : ¬ (t : Int) < (ks.length : Int) := by omega
                have HK5 : Hid (memN xs (j + 1) = memN xs j ++ (ks.take t).filter (okMem xs)) := by show _ = _; rw [HE.out, List.take_of_length_le (by omega)]
                rw [← HK5.out] at hO5
                go_wp2
                go_roundw
                case rel => exact ⟨j + 1, by omega, by go_num, hb5, hO5⟩
                case measure => simp [intOf]; omega
        | false =>
          have HE := Lib.hid (HYE.out (isCls_21 g1))
          go_wp2
          have hbA := hb.alloc (by omega : w1.heap.size ≤ wr.heap.size) (Obj.cells #[Value.int IntKind.i64 xk, Value.string xt, Value.slice xa ks.length xc, Value.bool xb] 38)
          have hOA := (hO.alloc (Obj.cells #[Value.int IntKind.i64 xk, Value.string xt, Value.slice xa ks.length xc, Value.bool xb] 38)).up
          generalize wr.alloc (Obj.cells #[Value.int IntKind.i64 xk, Value.string xt, Value.slice xa ks.length xc, Value.bool xb] 38) = w3 at *
          clear hb hO q0 q1 q2 q3
          go_loopw [3, 28] (fun out i wr => ∃ t : Nat, t ≤ ks.length ∧ i = .int .i64 t ∧ Below w1.heap.size w1 wr ∧ Own intF 3 w1.heap.size wr.heap.size wr out (memN xs j ++ (ks.take t).filter (okMem xs))) (fun _ i _ => ks.length - (intOf i).toNat)
          case atStart => exact ⟨0, Nat.zero_le _, rfl, hbA, by rw [List.take_zero, List.filter_nil, List.append_nil]; exact hOA⟩
          case round =>
            clear hbA hOA
            obtain ⟨t, ht, rfl, hb5, hO5⟩ := hrel
            have hsz5 := hb5.size
            obtain ⟨q0, q1, q2, q3, hk5, hr5⟩ := HQ.out _ hb5
            by_cases htl : t < ks.length
            · have hti : (t : Int) < (ks.length : Int) := by omega
              have htz : (0 : Int) ≤ (t : Int) := by omega
              obtain ⟨kb, koff, rfl, _, _, kc0⟩ := hk5.intAt htl
              have hbk := HBE.out t htl
              rw [kd_at (x := ⟨xk, xt, ks, xb⟩) htl] at hbk
              rw [List.getD_eq_getElem?_getD, List.getElem?_eq_getElem htl] at kc0
              replace kc0 : wr.cell? ⟨kb, koff + t, none⟩ = some (.int .i64 ks[t]) := kc0
              replace hbk : 0 ≤ ks[t] ∧ ks[t] < (j : Int) := hbk
              obtain ⟨q, hq⟩ : ∃ q : Nat, ks[t] = (q : Int) := ⟨ks[t].toNat, by omega⟩
              have HQE := Lib.hid hq
              rw [hq] at kc0 hbk
              clear hq
              have hql : q < xs.length := by omega
              have hqi : (q : Int) < (xs.length : Int) := by omega
              have hqz : (0 : Int) ≤ (q : Int) := by omega
              obtain ⟨b9, off9, _, _, e9, _, _, z0, _⟩ := rd_nodeAt hr5 hql
              injection e9 with e9
              injection e9 with ee1 ee2
              subst ee1; subst ee2
              have HOK : Hid (okMem xs (q : Int) = (xs[q].kind != 19)) := by show okMem xs (q : Int) = _; unfold okMem; rw [nd_at hql]
              generalize xs[q].kind = zk at *
              obtain ⟨bz, hbz⟩ : ∃ bz, (zk != 19) = bz := ⟨_, rfl⟩
              rw [hbz] at HOK
              have hll : (memN xs j ++ (ks.take t).filter (okMem xs)).length ≤ 16777216 := by
                rw [List.length_append]
                have h1 := List.length_filter_le (okMem xs) (ks.take t)
                have h2 := List.length_take_le t ks
                omega
              cases bz with
              | true =>
                have HS2 : Hid (memN xs j ++ (ks.take (t + 1)).filter (okMem xs) = (memN xs j ++ (ks.take t).filter (okMem xs)) ++ [(q : Int)]) := by show _ = _; rw [filt_succ htl HQE.out HOK.out, if_pos rfl, List.append_assoc]
                go_wp2_with (at_builtin; refine wp_app1 (F := intF) (P := Tryz.prog) (y := (q : Int)) rfl (.tmp 38) (.tmp 40) 34 rfl Tryz.underlying34 hi0 hz0 hz1 hz2 rfl (by decide) rfl (hO5.alloc _) wr.heap.size rfl (heap_alloc_new _ _) rfl (by omega) (by omega) (by simp; omega) ?_; intro v' w' hO' hb')
                go_roundw
                case rel => exact ⟨t + 1, by omega, by go_num, hb5.trans (blw_al1 hb' (by omega)), by rw [HS2.out]; exact hO'⟩
                case measure => simp [intOf]; omega
              | false =>
                have HS2 : Hid (memN xs j ++ (ks.take (t + 1)).filter (okMem xs) = memN xs j ++ (ks.take t).filter (okMem xs)) := by show _ = _; rw [filt_succ htl HQE.out HOK.out, if_neg (by decide), List.append_nil]
                go_wp2
                go_roundw
                case rel => exact ⟨t + 1, by omega, by go_num, hb5, by rw [HS2.out]; exact hO5⟩
                case measure => simp [intOf]; omega
            · have hti : ¬ (t : Int) < (ks.length : Int) := by omega
              have HK5 : Hid (memN xs (j + 1) = memN xs j ++ (ks.take t).filter (okMem xs)) := by show _ = _; rw [HE.out, List.take_of_length_le (by omega)]
              rw [← HK5.out] at hO5
              go_wp2
              go_roundw
              case rel => exact ⟨j + 1, by omega, by go_num, hb5, hO5⟩
              case measure => simp [intOf]; omega
      · have hji : ¬ (j : Int) < (xs.length : Int) := by omega
        obtain rfl : j = xs.length := by omega
        have hml := HML.out xs.length hj
        go_wp2_with fail
        refine (sortInts_own hO hsz (by omega)).mono ?_
        rintro e w5 ⟨rfl, hO5, hb5⟩
        rw [HS.out] at hO5
        go_wp2
        go_ret
        have e := HB.out
        subst e
        exact ⟨_, rfl, hb1.trans ((hb.trans hb5).mono hs1), hO5.wide hs1 (Nat.le_refl _)⟩
set_option maxHeartbeats 4000000 in
set_option maxRecDepth 100000 in
theorem membersIn_spec (xs : List Node) (v : Value) (lo hi : Nat) (w : World) (hr : Rd nodeS lo hi w v xs) (hh : hi ≤ w.heap.size) (hs : ∀ x ∈ xs, x.text.size ≤ 4611686018427387904) (hl : xs.length ≤ 1048576) :
    Calls Tryz.prog 24 #[v] w fun e w' => ∃ u, e = .returned u ∧ Below w.heap.size w w' ∧ Own intF 3 w.heap.size w'.heap.size w' u (membersL xs) := by
  obtain ⟨i0, hi0, hz0, hz1, hz2⟩ := info_parts Tryz.infoInt1
  obtain ⟨j0, hj0, hy0, hy1, hy2⟩ := info_parts Tryz.infoBool1
  obtain ⟨a, c, rfl⟩ := hr.sl
  obtain ⟨_, h2, h3⟩ := hr.lenEq
  have hxl : (xs.length : Int) ≤ 9223372036854775807 := by omega
  obtain ⟨B, HB⟩ : ∃ B, Hid (B = w.heap.size) := ⟨_, rfl⟩
  have hBw : B ≤ w.heap.size := Nat.le_of_eq HB.out
  have HF0 := Lib.hid (membersL_no (xs := xs))
  have HT := Lib.hid (fun w4 (h4 : Below w.heap.size w w4) => treeOk_spec xs _ lo hi w4 (hr.below h4 hh) (by have := h4.size; omega) hs hl)
  have HY := Lib.hid (fun h => (membersL_yes (xs := xs) h))
  have HK12 := Lib.hid (tree_twelve (xs := xs))
  have HGD := Lib.hid (fun (h : treeOk xs = true) => tree_good (treeOk_iff.1 h))
  obtain ⟨tv, htv⟩ : ∃ tv, Hid (treeOk xs = tv) := ⟨_, rfl⟩
  rw [htv.out] at HF0 HT HY HK12 HGD
  go_enter Tryz.func24, Tryz.ntmps24
  go_wp2_with fail
  generalize hE : (.cells #[] 3 : Obj) = E
  have hO0 : Own intF 3 B (w.alloc E).heap.size (w.alloc E) (.slice (some ⟨w.heap.size, 0, none⟩) 0 0) [] := by rw [← hE]; exact Own.empty intF 3 B w hBw
  have hbE : Below w.heap.size w (w.alloc E) := (Below.refl _ _).alloc (Nat.le_refl _) E
  have hsE : (w.alloc E).heap.size = w.heap.size + 1 := by simp
  generalize w.alloc E = w0 at *
  clear hE
  refine (HT.out w0 hbE).mono ?_
  rintro e w1 ⟨rfl, hb1⟩
  have hs1 := hb1.size
  have hO1 := (hO0.below hb1 (Nat.le_refl _)).wide (Nat.le_refl _) hs1
  have hbW1 : Below B w w1 := (hbE.mono hBw).trans (hb1.mono (by omega))
  cases tv with
  | false =>
    have HU := Lib.hid (HF0.out rfl)
    go_wp2
    go_ret
    have e := HB.out
    subst e
    exact ⟨_, rfl, hbW1, by rw [HU.out]; exact hO1⟩
  | true =>
    have HG := Lib.hid (HGD.out rfl)
    have HK := Lib.hid (HK12.out rfl)
    have HS := Lib.hid (HY.out rfl)
    have HR := Lib.hid (fun w4 (h : Below w1.heap.size w1 w4) => (hr.below (hbE.trans (hb1.mono (by omega))) hh).below h (by omega))
    go_wp2_with (at_make; refine wpList_make_full _ rfl _ _ 72 rfl w1.heap.size 4 j0 _ 1 Tryz.underlying72 hj0 hy0 hy1 _ _ _ _ xs.length rfl rfl rfl rfl ?b1 ?b2 ?b3 ?_)
    case b1 => first | omega | (rw [hy2]; omega)
    case b2 => first | (unfold maxLen; omega) | omega
    try (case b3 => exact Nat.le_refl _)
    intro w2 hown hgr
    have hb2 : Below w1.heap.size w1 w2 := (Below.refl _ _).grown hgr (Nat.le_refl _) (fun k hk => by cases hk)
    have hB0 : Own bolF 4 w1.heap.size w2.heap.size w2 (.slice (some ⟨w1.heap.size, 0, none⟩) xs.length xs.length) (List.replicate xs.length false) :=
      Own.of_row hown (by simp) (by have h := made_cells bolF (by decide) false #[.bool false] rfl xs.length; rw [show xs.length * bolF.size = xs.length from Nat.mul_one _] at h; exact h) (Nat.le_refl _)
    have hBO : BOwn w1.heap.size w2 xs.length (hasN xs 0) := ⟨⟨hB0.1, fun g hg => by have e : w1.heap.size = g := Option.some.inj hg; omega⟩, List.length_replicate ..⟩
    clear hown hgr hB0
    go_wp2
    go_loopw [5] (fun i wr => ∃ j : Nat, j ≤ xs.length ∧ i = .int .i64 j ∧ Below w1.heap.size w1 wr ∧ BOwn w1.heap.size wr xs.length (hasN xs j)) (fun i _ => xs.length - (intOf i).toNat)
    case atStart => exact ⟨0, Nat.zero_le _, rfl, hb2, hBO⟩
    case round =>
      clear hb2 hBO
      obtain ⟨j, hj, rfl, hb, hO⟩ := hrel
      have hsz := hb.size
      by_cases hlt : j < xs.length
      · have hji : (j : Int) < (xs.length : Int) := by omega
        have hjz : (0 : Int) ≤ (j : Int) := by omega
        obtain ⟨b, off, xa, xc, eb, _, hbb, p0, p1, p2, p3, hk⟩ := rd_nodeAt (HR.out w1 (Below.refl _ _)) hlt
        subst eb
        have HX : Hid (nd xs (j : Int) = xs[j]) := nd_at hlt
        have HBE := Lib.hid (HG.out j hlt).below
        have HL12 := HK.out j hlt
        have HNO := Lib.hid (hasN_no (xs := xs) (i := j))
        have HYE := Lib.hid (hasN_yes (xs := xs) (i := j))
        rw [HX.out] at HBE HL12 HNO HYE
        have HQ : Hid (∀ w4, Below w1.heap.size w1 w4 → w4.cell? ⟨b, off + j * 4, none⟩ = some (.int .i64 xs[j].kind) ∧ w4.cell? ⟨b, off + j * 4 + 1, none⟩ = some (.string xs[j].text) ∧ w4.cell? ⟨b, off + j * 4 + 2, none⟩ = some (.slice xa xs[j].kids.length xc) ∧ w4.cell? ⟨b, off + j * 4 + 3, none⟩ = some (.bool xs[j].blank) ∧ Rd intS lo hi w4 (.slice xa xs[j].kids.length xc) xs[j].kids ∧ Rd nodeS lo hi w4 (.slice (some ⟨b, off, none⟩) xs.length c) xs) := fun w4 h4 =>
          ⟨(h4.cell (p := ⟨b, _, none⟩) (by show b < _; omega)).trans p0, (h4.cell (p := ⟨b, _, none⟩) (by show b < _; omega)).trans p1, (h4.cell (p := ⟨b, _, none⟩) (by show b < _; omega)).trans p2, (h4.cell (p := ⟨b, _, none⟩) (by show b < _; omega)).trans p3, hk.below h4 (by omega), HR.out w4 h4⟩
        clear p0 p1 p2 p3
        generalize xs[j] = x at *
        obtain ⟨xk, xt, ks, xb⟩ := x
        obtain ⟨_, hkl, hkc⟩ := hk.lenEq
        simp only at hk HL12 HNO HYE HQ hkl
        have hki : (ks.length : Int) ≤ 9223372036854775807 := by omega
        obtain ⟨q0, q1, q2, q3, _, _⟩ := HQ.out _ hb
        cases g2 : (xk == 22) with
        | true =>
          have HE := Lib.hid (HYE.out (isCls_22e g2))
          go_wp2
          clear q0 q1 q2 q3
          go_loopw [6] (fun i wr => ∃ t : Nat, t ≤ ks.length ∧ i = .int .i64 t ∧ Below w1.heap.size w1 wr ∧ BOwn w1.heap.size wr xs.length (hasK xs (hasN xs j) (ks.take t))) (fun i _ => ks.length - (intOf i).toNat)
          case atStart => exact ⟨0, Nat.zero_le _, rfl, hb, hO⟩
          case round =>
            clear hb hO
            obtain ⟨t, ht, rfl, hb5, hO5⟩ := hrel
            have hsz5 := hb5.size
            obtain ⟨q0, q1, q2, q3, hk5, hr5⟩ := HQ.out _ hb5
            by_cases htl : t < ks.length
            · have hti : (t : Int) < (ks.length : Int) := by omega
              have htz : (0 : Int) ≤ (t : Int) := by omega
              obtain ⟨kb, koff, rfl, _, _, kc0⟩ := hk5.intAt htl
              have hbk := HBE.out t htl
              rw [kd_at (x := ⟨xk, xt, ks, xb⟩) htl] at hbk
              rw [List.getD_eq_getElem?_getD, List.getElem?_eq_getElem htl] at kc0
              replace kc0 : wr.cell? ⟨kb, koff + t, none⟩ = some (.int .i64 ks[t]) := kc0
              replace hbk : 0 ≤ ks[t] ∧ ks[t] < (j : Int) := hbk
              obtain ⟨q, hq⟩ : ∃ q : Nat, ks[t] = (q : Int) := ⟨ks[t].toNat, by omega⟩
              have HQE := Lib.hid hq
              rw [hq] at kc0 hbk
              clear hq
              have hql : q < xs.length := by omega
              have hqi : (q : Int) < (xs.length : Int) := by omega
              have hqz : (0 : Int) ≤ (q : Int) := by omega
              obtain ⟨b9, off9, _, _, e9, _, _, z0, _⟩ := rd_nodeAt hr5 hql
              injection e9 with e9
              injection e9 with ee1 ee2
              subst ee1; subst ee2
              have HOK : Hid (okMem xs (q : Int) = (xs[q].kind != 19)) := by show okMem xs (q : Int) = _; unfold okMem; rw [nd_at hql]
              generalize xs[q].kind = zk at *
              obtain ⟨bz, hbz⟩ : ∃ bz, (zk != 19) = bz := ⟨_, rfl⟩
              rw [hbz] at HOK
              have HSU : Hid (hasK xs (hasN xs j) (ks.take (t + 1)) = (hasK xs (hasN xs j) (ks.take t)).set q bz) := by show _ = _; rw [hasK_succ htl, HQE.out, HOK.out, Int.toNat_natCast]
              have c0 := hO5.cell (k := q) hql
              have f0 := hO5.frozen q
              have hO6 := hO5.put (k := q) hql bz
              rw [← HSU.out] at hO6
              generalize (hasK xs (hasN xs j) (ks.take t)).getD q false = ob at *
              go_wp2
              go_still_tail 23, (by kernel_rfl)
              change wpList _ _ _ _ _ wr.drew
              go_wp2
              go_roundw
              case rel => exact ⟨t + 1, by omega, by go_num, (hb5.setCell (p := ⟨w1.heap.size, q, none⟩) (Nat.le_refl _) _).drew, hO6⟩
              case measure => simp [intOf]; omega
            · have hti : ¬ (t : Int) < (ks.length : Int) := by omega
              have HK5 : Hid (hasN xs (j + 1) = hasK xs (hasN xs j) (ks.take t)) := by show _ = _; rw [HE.out, List.take_of_length_le (by omega)]
              rw [← HK5.out] at hO5
              go_wp2
              go_roundw
              case rel => exact ⟨j + 1, by omega, by go_num, hb5, hO5⟩
              case measure => simp [intOf]; omega
        | false =>
          cases g1 : (xk == 21) with
          | true =>
            have HE := Lib.hid (HYE.out (isCls_21e g1))
            go_wp2
            clear q0 q1 q2 q3
            go_loopw [6] (fun i wr => ∃ t : Nat, t ≤ ks.length ∧ i = .int .i64 t ∧ Below w1.heap.size w1 wr ∧ BOwn w1.heap.size wr xs.length (hasK xs (hasN xs j) (ks.take t))) (fun i _ => ks.length - (intOf i).toNat)
            case atStart => exact ⟨0, Nat.zero_le _, rfl, hb, hO⟩
            case round =>
              clear hb hO
              obtain ⟨t, ht, rfl, hb5, hO5⟩ := hrel
              have hsz5 := hb5.size
              obtain ⟨q0, q1, q2, q3, hk5, hr5⟩ := HQ.out _ hb5
              by_cases htl : t < ks.length
              · have hti : (t : Int) < (ks.length : Int) := by omega
                have htz : (0 : Int) ≤ (t : Int) := by omega
                obtain ⟨kb, koff, rfl, _, _, kc0⟩ := hk5.intAt htl
                have hbk := HBE.out t htl
                rw [kd_at (x := ⟨xk, xt, ks, xb⟩) htl] at hbk
                rw [List.getD_eq_getElem?_getD, List.getElem?_eq_getElem htl] at kc0
                replace kc0 : wr.cell? ⟨kb, koff + t, none⟩ = some (.int .i64 ks[t]) := kc0
                replace hbk : 0 ≤ ks[t] ∧ ks[t] < (j : Int) := hbk
                obtain ⟨q, hq⟩ : ∃ q : Nat, ks[t] = (q : Int) := ⟨ks[t].toNat, by omega⟩
                have HQE := Lib.hid hq
                rw [hq] at kc0 hbk
                clear hq
                have hql : q < xs.length := by omega
                have hqi : (q : Int) < (xs.length : Int) := by omega
                have hqz : (0 : Int) ≤ (q : Int) := by omega
                obtain ⟨b9, off9, _, _, e9, _, _, z0, _⟩ := rd_nodeAt hr5 hql
                injection e9 with e9
                injection e9 with ee1 ee2
                subst ee1; subst ee2
                have HOK : Hid (okMem xs (q : Int) = (xs[q].kind != 19)) := by show okMem xs (q : Int) = _; unfold okMem; rw [nd_at hql]
                generalize xs[q].kind = zk at *
                obtain ⟨bz, hbz⟩ : ∃ bz, (zk != 19) = bz := ⟨_, rfl⟩
                rw [hbz] at HOK
                have HSU : Hid (hasK xs (hasN xs j) (ks.take (t + 1)) = (hasK xs (hasN xs j) (ks.take t)).set q bz) := by show _ = _; rw [hasK_succ htl, HQE.out, HOK.out, Int.toNat_natCast]
                have c0 := hO5.cell (k := q) hql
                have f0 := hO5.frozen q
                have hO6 := hO5.put (k := q) hql bz
                rw [← HSU.out] at hO6
                generalize (hasK xs (hasN xs j) (ks.take t)).getD q false = ob at *
                go_wp2
                go_still_tail 23, (by kernel_rfl)
                change wpList _ _ _ _ _ wr.drew
                go_wp2
                go_roundw
                case rel => exact ⟨t + 1, by omega, by go_num, (hb5.setCell (p := ⟨w1.heap.size, q, none⟩) (Nat.le_refl _) _).drew, hO6⟩
                case measure => simp [intOf]; omega
              · have hti : ¬ (t : Int) < (ks.length : Int) := by omega
                have HK5 : Hid (hasN xs (j + 1) = hasK xs (hasN xs j) (ks.take t)) := by show _ = _; rw [HE.out, List.take_of_length_le (by omega)]
                rw [← HK5.out] at hO5
                go_wp2
                go_roundw
                case rel => exact ⟨j + 1, by omega, by go_num, hb5, hO5⟩
                case measure => simp [intOf]; omega
          | false =>
            have HE := Lib.hid (HNO.out (isCls_noe g1 g2))
            go_wp2
            go_loopw [6] (fun i w3 => i = .int .i64 0 ∧ wr = w3) (fun _ _ => 0)
            case atStart => exact ⟨rfl, rfl⟩
            case round =>
              obtain ⟨rfl, rfl⟩ := hrel
              by_cases htl : 0 < ks.length
              · have hti : (0 : Int) < (ks.length : Int) := by omega
                go_wp2
                go_roundw
                case rel => exact ⟨j + 1, by omega, by go_num, hb, by rw [HE.out]; exact hO⟩
                case measure => simp [intOf]; omega
              · have hti : ks.length = 0 := by omega
                have hti2 : ¬ (0 : Int) < (ks.length : Int) := by omega
                go_wp2
                go_roundw
                case rel => exact ⟨j + 1, by omega, by go_num, hb, by rw [HE.out]; exact hO⟩
                case measure => simp [intOf]; omega
      · have hji : ¬ (j : Int) < (xs.length : Int) := by omega
        obtain rfl : j = xs.length := by omega
        obtain ⟨wz, rfl⟩ : ∃ wz, wz = wr := ⟨_, rfl⟩
        have h13 : w1.heap.size < wz.heap.size := hO.size
        have hO4 : Own intF 3 B w1.heap.size wz (.slice (some ⟨w.heap.size, 0, none⟩) 0 0) [] := hO1.below hb (Nat.le_refl _)
        have HC := Lib.hid (fun w4 (h4 : Below wz.heap.size wz w4) j (hj : j < xs.length) => (h4.cell (p := ⟨w1.heap.size, j, none⟩) h13).trans (hO.cell hj))
        have HLS := Lib.hid (fun j b => memL_succ (hasN xs xs.length) j (b := b))
        have HLL := Lib.hid (memL_len (hasN xs xs.length))
        have hbW3 : Below B w wz := hbW1.trans (hb.mono (by have := hbW1.size; omega))
        generalize hasN xs xs.length = hs9 at *
        generalize hG : w1.heap.size = G at *
        go_wp2
        go_loopw [3, 7] (fun out i wr => ∃ j : Nat, j ≤ xs.length ∧ i = .int .i64 j ∧ Below wz.heap.size wz wr ∧ OutE intF 3 B wz.heap.size wr out (memL hs9 j)) (fun _ i _ => xs.length - (intOf i).toNat)
        case atStart => exact ⟨0, Nat.zero_le _, rfl, Below.refl _ _, .inr ⟨rfl, ⟨_, rfl⟩, hO4.wide (Nat.le_refl _) (by omega)⟩⟩
        case round =>
          obtain ⟨j, hj, rfl, hb7, hO7⟩ := hrel
          have hs7 := hb7.size
          by_cases hlt : j < xs.length
          · have hji : (j : Int) < (xs.length : Int) := by omega
            have hjz : (0 : Int) ≤ (j : Int) := by omega
            have c0 := HC.out _ hb7 j hlt
            have HL1 := Lib.hid (HLS.out j)
            have hul := HLL.out j
            obtain ⟨bq, hbq⟩ : ∃ bq, Hid (hs9.getD j false = bq) := ⟨_, rfl⟩
            have HR7 := Lib.hid (HL1.out bq hbq.out)
            rw [hbq.out] at c0
            cases bq with
            | false =>
              have HR8 : Hid (memL hs9 (j + 1) = memL hs9 j) := by show _ = _; rw [HR7.out, if_neg (by decide), List.append_nil]
              go_wp2
              go_roundw
              case rel => exact ⟨j + 1, by omega, by go_num, hb7, by rw [HR8.out]; exact hO7⟩
              case measure => simp [intOf]; omega
            | true =>
              have HR8 : Hid (memL hs9 (j + 1) = memL hs9 j ++ [(j : Int)]) := by show _ = _; rw [HR7.out, if_pos rfl]
              go_wp2_with (at_builtin; refine wp_app1e (C := wz.heap.size) (F := intF) (P := Tryz.prog) (y := (j : Int)) rfl (.tmp 81) (.tmp 83) 34 rfl Tryz.underlying34 hi0 hz0 hz1 hz2 rfl (by decide) rfl (hO7.keep ((Below.refl _ _).alloc (Nat.le_refl _) _) hs7) wr.heap.size rfl (heap_alloc_new _ _) rfl (by omega) (by omega) (by simp; omega) ?_; intro v' w' hO' hb')
              go_roundw
              case rel => exact ⟨j + 1, by omega, by go_num, hb7.trans (blw_al1 hb' hs7), by rw [HR8.out]; exact hO'⟩
              case measure => simp [intOf]; omega
          · have hji : ¬ (j : Int) < (xs.length : Int) := by omega
            obtain rfl : j = xs.length := by omega
            go_wp2
            go_ret
            have e := HB.out
            subst e
            exact ⟨_, rfl, hbW3.trans (hb7.mono (by have := hbW3.size; omega)), by rw [HS.out]; exact hO7.own (by have := hbW3.size; omega) hs7⟩
end Go.Proofs.YtoloplpmjcgbdaaGreatDoor
