/- DeepOf of the program. -/
import Derived.Test.YtoloplpmjcgbdaaGreatDoorNodeI5
import Derived.Test.YtoloplpmjcgbdaaGreatDoorDeepD
import Derived.Test.YtoloplpmjcgbdaaGreatDoorDeepR
namespace Go.Proofs.YtoloplpmjcgbdaaGreatDoor
open Go.RowKit

theorem Node.text_le {n : Nat} (xs : List Node) (h : Node.wts xs ≤ n) : ∀ x ∈ xs, x.text.size ≤ n := by
  intro x hx
  obtain ⟨k, hk, rfl⟩ := List.mem_iff_getElem.1 hx
  have h1 := sumOf_succ Node.wt xs k hk
  have h2 := sumOf_le Node.wt xs (k + 1)
  unfold Node.wts at h
  have h3 : Node.wt xs[k] = xs[k].text.size + xs[k].kids.length := rfl
  omega
theorem Node.texts (xs : List Node) (h : Node.wts xs ≤ 1048576) : ∀ x ∈ xs, x.text.size ≤ 4611686018427387904 := fun x hx => Nat.le_trans (Node.text_le xs h x hx) (by decide)
theorem fill_end (ds : List Int) : ds ++ List.replicate 0 (0 : Int) = ds := List.append_nil _
theorem fill_len {ds : List Int} {m i : Nat} (h : ds.length = i) (hi : i ≤ m) : (ds ++ List.replicate (m - i) (0 : Int)).length = m := by rw [List.length_append, List.length_replicate]; omega
theorem fill_at {ds : List Int} {m j : Nat} (hj : j < ds.length) : (ds ++ List.replicate m (0 : Int)).getD j 0 = ds.getD j 0 := by
  rw [List.getD_eq_getElem?_getD, List.getElem?_append_left hj, ← List.getD_eq_getElem?_getD]
theorem fill_put {ds : List Int} {m i : Nat} (h : ds.length = i) (hi : i < m) (d : Int) : (ds ++ List.replicate (m - i) (0 : Int)).set i d = (ds ++ [d]) ++ List.replicate (m - (i + 1)) 0 := by
  subst h
  rw [show m - ds.length = (m - (ds.length + 1)) + 1 by omega, fill_set]
theorem deepOf_back {xs : List Node} {m i : Nat} (hm : m < xs.length) (hi : i ≤ m + 1) (h : deeps xs i = none) : deepOf xs (m : Int) = 0 := deepOf_none hm (deeps_none h _ hi)
set_option maxHeartbeats 4000000 in
set_option maxRecDepth 100000 in
theorem deepOf_impl (xs : List Node) (v : Value) (lo hi : Nat) (k : Int) (w : World) (hr : Rd nodeS lo hi w v xs) (hh : hi ≤ w.heap.size) (hs : ∀ x ∈ xs, x.text.size ≤ 4611686018427387904) (hl : xs.length ≤ 1048576) :
    Calls Tryz.prog 51 #[v, .int .i64 k] w fun e w' => e = .returned (.int .i64 (deepOf xs k)) ∧ Below w.heap.size w w' := by
  obtain ⟨a, c, rfl⟩ := hr.sl
  obtain ⟨_, h2, h3⟩ := hr.lenEq
  obtain ⟨i0, hi0, hz0, hz1, hz2⟩ := info_parts Tryz.infoInt1
  by_cases hin : 0 ≤ k ∧ k < xs.length
  · have hN := Lib.hid (isNode_any k a xs.length c w (by omega))
    rw [decide_eq_true hin.1, decide_eq_true hin.2] at hN
    obtain ⟨m, rfl⟩ : ∃ m : Nat, k = (m : Int) := ⟨k.toNat, by omega⟩
    have hml : m < xs.length := by omega
    have hmi : (m : Int) < (xs.length : Int) := by omega
    have hmz : (0 : Int) ≤ (m : Int) := by omega
    clear hin
    go_enter Tryz.func51, Tryz.ntmps51
    go_wp2_with fail
    refine hN.out.mono ?_
    rintro e w' ⟨rfl, hw⟩
    subst hw
    go_wp2_with (at_make; refine wpList_make_full _ rfl _ _ 34 rfl w.heap.size 3 i0 _ 1 Tryz.underlying34 hi0 hz0 hz1 _ _ _ _ (m + 1) rfl rfl rfl rfl ?b1 ?b2 ?b3 ?_)
    case b1 => rw [hz2]; omega
    case b2 => unfold maxLen; omega
    case b3 => exact Nat.le_refl _
    intro w1 hown hg
    have hb1 : Below w.heap.size w w1 := (Below.refl _ _).grown hg (Nat.le_refl _) (fun k hk => by cases hk)
    have hO : Own intF 3 w.heap.size w1.heap.size w1 (.slice (some ⟨w.heap.size, 0, none⟩) (m + 1) (m + 1)) (List.replicate (m + 1) 0) :=
      Own.of_row hown (by simp) (by have h := made_cells intF (by decide) 0 #[.int .i64 0] rfl (m + 1); rw [show (m + 1) * intF.size = m + 1 from Nat.mul_one _] at h; exact h) (Nat.le_refl _)
    clear hown hg
    have HB := Lib.hid hh
    generalize hB : w.heap.size = B at *
    have HD := Lib.hid (fun i (h : deeps xs i = none) (hi : i ≤ m + 1) => deepOf_back hml hi h)
    go_wp2
    go_loopw [19] (fun i wr => ∃ (j : Nat) (ds : List Int), j ≤ m + 1 ∧ i = .int .i64 j ∧ Hid (deeps xs j = some ds) ∧ Hid (ds.length = j) ∧ Below B w wr ∧ Own intF 3 B wr.heap.size wr (.slice (some ⟨B, 0, none⟩) (m + 1) (m + 1)) (ds ++ List.replicate (m + 1 - j) 0)) (fun i _ => m + 1 - (intOf i).toNat)
    case atStart => exact ⟨0, [], Nat.zero_le _, rfl, rfl, rfl, hb1, hO⟩
    case round =>
      obtain ⟨j, ds, hj, rfl, HS, HL, hb, hO⟩ := hrel
      have hsz := hb.size
      by_cases hlt : j < m + 1
      · have hji : (j : Int) < (m : Int) + 1 := by omega
        have hjx : j < xs.length := by omega
        have hjz : (0 : Int) ≤ (j : Int) := by omega
        have hjxi : (j : Int) < (xs.length : Int) := by omega
        go_wp2_with fail
        refine (nodeOk_impl xs _ lo hi (j : Int) _ (hr.below hb HB.out) (by have := HB.out; omega) hs).mono ?_
        rintro e w2 ⟨rfl, hb2⟩
        have hs2 := hb2.size
        have hbB := hb.trans (hb2.mono (by omega))
        replace hO := (hO.below hb2 (Nat.le_refl _)).wide (Nat.le_refl _) hs2
        cases hok : nodeOk xs (j : Int) with
        | false =>
          have HF := Lib.hid (HD.out (j + 1) (deeps_bad HS.out hok) (by omega))
          go_wp2
          go_ret
          exact ⟨ret_int HF.out.symm, by first | exact hbB | (rw [hB]; exact hbB)⟩
        | true =>
          have HOK := Lib.hid hok
          clear hok
          have HG := Lib.hid (nodeOk_iff.1 HOK.out)
          obtain ⟨b, off, ka, kc, eb, hlo, hhi, d0, d1, d2, d3, hk⟩ := rd_nodeAt (hr.below hbB HB.out) hjx
          subst eb
          have HX : Hid (nd xs (j : Int) = xs[j]) := nd_at hjx
          have HBE := Lib.hid HG.out.below
          rw [HX.out] at HBE
          generalize hx : xs[j] = x at *
          clear hx
          obtain ⟨_, hkl, hkc⟩ := hk.lenEq
          have hki : (x.kids.length : Int) ≤ 9223372036854775807 := by omega
          go_wp2
          go_loopw [7, 32] (fun d i wr => ∃ t : Nat, t ≤ x.kids.length ∧ i = .int .i64 t ∧ d = .int .i64 (maxK ds (x.kids.take t)) ∧ w2 = wr) (fun _ i _ => x.kids.length - (intOf i).toNat)
          case atStart => exact ⟨0, Nat.zero_le _, rfl, rfl, rfl⟩
          case round =>
            obtain ⟨t, ht, rfl, rfl, rfl⟩ := hrel
            by_cases htl : t < x.kids.length
            · obtain ⟨kb, koff, rfl, _, _, kc0⟩ := hk.intAt htl
              have hti : (t : Int) < (x.kids.length : Int) := by omega
              have htz : (0 : Int) ≤ (t : Int) := by omega
              have hbk := HBE.out t htl
              have HM := Lib.hid (maxK_succ (ds := ds) htl)
              rw [kd_at htl] at hbk
              rw [List.getD_eq_getElem?_getD, List.getElem?_eq_getElem htl] at kc0
              replace kc0 : w2.cell? ⟨kb, koff + t, none⟩ = some (.int .i64 x.kids[t]) := kc0
              obtain ⟨q, hq⟩ : ∃ q : Nat, x.kids[t] = (q : Int) := ⟨x.kids[t].toNat, by omega⟩
              rw [hq] at kc0 hbk HM
              rw [Int.toNat_natCast] at HM
              clear hq
              have hqi : (q : Int) < (m : Int) + 1 := by omega
              have hqz : (0 : Int) ≤ (q : Int) := by omega
              have dc := hO.rd.cellsAt q (by rw [fill_len HL.out hj]; omega)
              rw [fill_at (by rw [HL.out]; omega), Nat.zero_add] at dc
              obtain ⟨dq, hdq⟩ : ∃ dq, Hid (ds.getD q 0 = dq) := ⟨_, rfl⟩
              rw [hdq.out] at dc HM
              obtain ⟨mk, hmk⟩ : ∃ mk, Hid (maxK ds (x.kids.take t) = mk) := ⟨_, rfl⟩
              rw [hmk.out] at HM ⊢
              go_wp2
              go_roundw
              case rel => exact ⟨t + 1, by omega, by go_num, int_eq HM.out.symm, by trivial⟩
              case measure => simp [intOf]; omega
            · have hti : ¬ (t : Int) < (x.kids.length : Int) := by omega
              have HT : Hid (maxK ds (x.kids.take t) = maxK ds (nd xs (j : Int)).kids) := by show _ = _; rw [List.take_of_length_le (by omega), HX.out]
              rw [HT.out]
              have h0 := maxK_ge0 ds (nd xs (j : Int)).kids
              have HMD := Lib.hid (fun h : 14 ≤ maxK ds (nd xs (j : Int)).kids => HD.out (j + 1) (deeps_deep HS.out HOK.out h) (by omega))
              have HMS := Lib.hid (fun h : maxK ds (nd xs (j : Int)).kids < 14 => deeps_succ HS.out HOK.out h)
              generalize maxK ds (nd xs (j : Int)).kids = d at *
              by_cases hd : 14 ≤ d
              · have HF := Lib.hid (HMD.out hd)
                go_wp2
                go_ret
                exact ⟨ret_int HF.out.symm, by first | exact hbB | (rw [hB]; exact hbB)⟩
              · have HN := Lib.hid (HMS.out (by omega))
                have hfl := Lib.hid (fill_len HL.out hj)
                obtain ⟨u0, f0⟩ : ∃ u, w2.cell? ⟨B, j, none⟩ = some u := ⟨_, by have := hO.cell (k := j) (j := 0) hfl.out.symm (by rw [hfl.out]; omega) (by decide); rw [show j * intF.size + 0 = j from Nat.mul_one _] at this; exact this⟩
                have g0 : w2.frozen? ⟨B, j, none⟩ = false := hO.frozen hfl.out.symm _
                have hO2 := hO.set (k := j) (j := 0) (u := .int .i64 (d + 1)) (x := d + 1) hfl.out.symm (by rw [hfl.out]; omega) (by decide) rfl
                rw [show j * intF.size + 0 = j from Nat.mul_one _, fill_put HL.out hlt] at hO2
                go_wp2
                go_roundw
                case rel => exact ⟨j + 1, ds ++ [d + 1], by omega, by go_num, HN.out, (by show (ds ++ [d + 1]).length = j + 1; rw [List.length_append, HL.out]; rfl), hbB.setCell (p := ⟨B, j, none⟩) (Nat.le_refl _) _, hO2.wide (Nat.le_refl _) (by simp [World.setCell])⟩
                case measure => simp [intOf]; omega
      · have hji : ¬ (j : Int) < (m : Int) + 1 := by omega
        obtain rfl : j = m + 1 := by omega
        have dc := hO.rd.cellsAt m (by rw [fill_len HL.out hj]; omega)
        rw [fill_at (by rw [HL.out]; omega), Nat.zero_add] at dc
        have HF := Lib.hid (deepOf_some hml HS.out)
        have hmm : (m : Int) < (m : Int) + 1 := by omega
        rw [← HF.out] at dc
        go_wp2
        go_ret
        exact ⟨rfl, by first | exact hb | (rw [hB]; exact hb)⟩
  · have hN := Lib.hid (isNode_any k a xs.length c w (by omega))
    rw [show (decide (0 ≤ k) && decide (k < (xs.length : Int))) = false by
      rw [Bool.eq_false_iff]; intro h; rw [Bool.and_eq_true, decide_eq_true_iff, decide_eq_true_iff] at h; exact hin h] at hN
    have HF := Lib.hid (deepOf_out hin)
    go_enter Tryz.func51, Tryz.ntmps51
    go_wp2_with fail
    refine hN.out.mono ?_
    rintro e w' ⟨rfl, rfl⟩
    go_wp2
    go_ret
    exact ⟨ret_int HF.out.symm, Below.refl _ _⟩
end Go.Proofs.YtoloplpmjcgbdaaGreatDoor
