/- TreeOk of both. By mk_tree.py. -/
import Derived.Test.YtoloplpmjcgbdaaGreatDoorDeepS
import Derived.Test.YtoloplpmjcgbdaaGreatDoorTreeD
namespace Go.Proofs.YtoloplpmjcgbdaaGreatDoor
open Go.RowKit

set_option maxHeartbeats 4000000 in
set_option maxRecDepth 100000 in
theorem treeOk_impl (xs : List Node) (v : Value) (lo hi : Nat) (w : World) (hr : Rd nodeS lo hi w v xs) (hh : hi ≤ w.heap.size) (hs : ∀ x ∈ xs, x.text.size ≤ 4611686018427387904) (hl : xs.length ≤ 1048576) :
    Calls Tryz.prog 61 #[v] w fun e w' => e = .returned (.bool (treeOk xs)) ∧ Below w.heap.size w w' := by
  obtain ⟨a, c, rfl⟩ := hr.sl
  obtain ⟨_, h2, h3⟩ := hr.lenEq
  have hxl : (xs.length : Int) ≤ 9223372036854775807 := by omega
  obtain ⟨i0, hi0, hz0, hz1, hz2⟩ := info_parts Tryz.infoInt1
  by_cases hn : 1 ≤ xs.length ∧ xs.length ≤ 300
  · have hI := Lib.hid (inRange_yes xs.length 1 300 w (by omega) (by omega))
    have e1 : (0 : Int) ≤ (xs.length : Int) - 1 := by omega
    have e2 : (xs.length : Int) - 1 < (xs.length : Int) := by omega
    have e3 : ((xs.length : Int) - 1).toNat = xs.length - 1 := by omega
    obtain ⟨b, off, ka, kc, eb, hlo, hbh, d0, _, _, _, _⟩ := rd_nodeAt hr (k := xs.length - 1) (by omega)
    subst eb
    have HX : Hid (nd xs ((xs.length : Int) - 1) = xs[xs.length - 1]) := by
      have h := nd_at (xs := xs) (k := xs.length - 1) (by omega)
      rwa [show ((xs.length - 1 : Nat) : Int) = (xs.length : Int) - 1 by omega] at h
    have HKN := Lib.hid (fun t : Tree xs => (by have h := t.kind; rw [HX.out] at h; exact h : xs[xs.length - 1].kind = 22))
    have HKY := Lib.hid (fun (h : xs[xs.length - 1].kind = 22) hd hu => Tree.mk hn.1 hn.2 (by rw [HX.out]; exact h) hd hu)
    generalize xs[xs.length - 1].kind = kn at *
    go_enter Tryz.func61, Tryz.ntmps61
    go_wp2_with fail
    refine hI.out.mono ?_
    rintro e w' ⟨rfl, hw⟩
    subst hw
    by_cases hk : kn = 22
    · have t22 : (kn != 22) = false := by rw [hk]; rfl
      have HK1 := Lib.hid (HKY.out hk)
      have HD := Lib.hid (deepOf_impl xs _ lo hi ((xs.length : Int) - 1) w hr hh hs hl)
      obtain ⟨dv, hdv⟩ : ∃ dv, Hid (deepOf xs ((xs.length : Int) - 1) = dv) := ⟨_, rfl⟩
      rw [hdv.out] at HD HK1
      clear hk
      go_wp2_with fail
      refine HD.out.mono ?_
      rintro e w1 ⟨rfl, hb1⟩
      have hs1 := hb1.size
      by_cases hd : dv = 0
      · have td : (dv == 0) = true := by rw [hd]; rfl
        have HF := Lib.hid (treeOk_no (xs := xs) (fun t => t.deep (hdv.out.trans hd)))
        clear hd
        go_wp2
        go_ret
        exact ⟨ret_bool HF.out.symm, hb1⟩
      · have td : (dv == 0) = false := eqf hd
        have HK2 := Lib.hid (HK1.out hd)
        have HG : Hid (∀ i : Nat, i < xs.length → Good xs (i : Int)) := fun i hi => (deepOf_pos (by rw [hdv.out]; exact hd)).2.2 i (by omega)
        have HGL : Hid (∀ i : Nat, i < xs.length → (nd xs (i : Int)).kids.length ≤ 12) := fun i hi => by have h1 := (HG.out i hi).count; have h2 := hiK_le (nd xs (i : Int)).kind; omega
        have HSM := Lib.hid (useN_small HGL.out)
        have HB := Lib.hid (hr.below hb1 hh)
        have hhw := Lib.hid (Nat.le_trans hh hs1)
        clear hd HK1 HD
        go_wp2_with (at_make; refine wpList_make_full _ rfl _ _ 34 rfl w1.heap.size 3 i0 _ 1 Tryz.underlying34 hi0 hz0 hz1 _ _ _ _ xs.length rfl rfl rfl rfl ?b1 ?b2 ?b3 ?_)
        case b1 => rw [hz2]; omega
        case b2 => unfold maxLen; omega
        case b3 => exact Nat.le_refl _
        intro w2 hown hg
        have hb2 : Below w1.heap.size w1 w2 := (Below.refl _ _).grown hg (Nat.le_refl _) (fun k hk => by cases hk)
        have hO : Own intF 3 w1.heap.size w2.heap.size w2 (.slice (some ⟨w1.heap.size, 0, none⟩) xs.length xs.length) (List.replicate xs.length 0) :=
          Own.of_row hown (by simp) (by have h := made_cells intF (by decide) 0 #[.int .i64 0] rfl xs.length; rw [show xs.length * intF.size = xs.length from Nat.mul_one _] at h; exact h) (Nat.le_refl _)
        clear hown hg
        have HBW : Hid (∀ wr, Below w1.heap.size w1 wr → Below w.heap.size w wr) := fun wr h => hb1.trans (h.mono hs1)
        generalize hBB : w1.heap.size = B at *
        go_wp2
        go_loopw [36] (fun i wr => ∃ j : Nat, j ≤ xs.length ∧ i = .int .i64 j ∧ Below B w1 wr ∧ B < wr.heap.size ∧ Own intF 3 B (B + 1) wr (.slice (some ⟨B, 0, none⟩) xs.length xs.length) (useN xs j)) (fun i _ => xs.length - (intOf i).toNat)
        case atStart => exact ⟨0, Nat.zero_le _, rfl, hb2, (hO.below_heap B rfl).2.2, ⟨hO.1, fun g hg => by have e : B = g := Option.some.inj hg; omega⟩⟩
        case round =>
          clear hO
          obtain ⟨j, hj, rfl, hb, hBs, hO⟩ := hrel
          have hsz := hb.size
          by_cases hlt : j < xs.length
          · have hji : (j : Int) < (xs.length : Int) := by omega
            have hjz : (0 : Int) ≤ (j : Int) := by omega
            obtain ⟨b', off', xa, xc, eb, _, hbb, p0, p1, p2, p3, hk⟩ := rd_nodeAt HB.out hlt
            injection eb with eb
            injection eb with ee1 ee2
            subst ee1; subst ee2
            have HQ : Hid (∀ w4, Below B w1 w4 → w4.cell? ⟨b, off + j * 4, none⟩ = some (.int .i64 xs[j].kind) ∧ w4.cell? ⟨b, off + j * 4 + 1, none⟩ = some (.string xs[j].text) ∧ w4.cell? ⟨b, off + j * 4 + 2, none⟩ = some (.slice xa xs[j].kids.length xc) ∧ w4.cell? ⟨b, off + j * 4 + 3, none⟩ = some (.bool xs[j].blank) ∧ Rd intS lo hi w4 (.slice xa xs[j].kids.length xc) xs[j].kids) := fun w4 h4 =>
              ⟨(h4.cell (p := ⟨b, _, none⟩) (by show b < _; have := hhw.out; omega)).trans p0, (h4.cell (p := ⟨b, _, none⟩) (by show b < _; have := hhw.out; omega)).trans p1, (h4.cell (p := ⟨b, _, none⟩) (by show b < _; have := hhw.out; omega)).trans p2, (h4.cell (p := ⟨b, _, none⟩) (by show b < _; have := hhw.out; omega)).trans p3, hk.below h4 hhw.out⟩
            clear p0 p1 p2 p3
            have HX2 : Hid (nd xs (j : Int) = xs[j]) := nd_at hlt
            have HBE := Lib.hid (HG.out j hlt).below
            have HL12 := HGL.out j hlt
            have HSJ := Lib.hid (HSM.out j hj)
            have HUS : Hid (useN xs (j + 1) = useK (useN xs j) (nd xs (j : Int)).kids) := rfl
            rw [HX2.out] at HBE HL12 HUS
            have HUL := Lib.hid (useN_len xs j)
            generalize xs[j] = x at *
            obtain ⟨xk, xt, ks, xb⟩ := x
            simp only at hk HL12 HUS HQ
            obtain ⟨_, hkl, hkc⟩ := hk.lenEq
            have hki : (ks.length : Int) ≤ 9223372036854775807 := by omega
            generalize useN xs j = us at *
            obtain ⟨q0, q1, q2, q3, _⟩ := HQ.out _ hb
            go_wp2
            have hbA := hb.alloc (by omega : B ≤ wr.heap.size) (Obj.cells #[Value.int IntKind.i64 xk, Value.string xt, Value.slice xa ks.length xc, Value.bool xb] 38)
            have hOA := hO.alloc (Obj.cells #[Value.int IntKind.i64 xk, Value.string xt, Value.slice xa ks.length xc, Value.bool xb] 38)
            have hBA : B < (wr.alloc (Obj.cells #[Value.int IntKind.i64 xk, Value.string xt, Value.slice xa ks.length xc, Value.bool xb] 38)).heap.size := by simp; omega
            generalize wr.alloc (Obj.cells #[Value.int IntKind.i64 xk, Value.string xt, Value.slice xa ks.length xc, Value.bool xb] 38) = w3 at *
            clear hb hO hBs q0 q1 q2 q3
            go_loopw [43] (fun i wr => ∃ t : Nat, t ≤ ks.length ∧ i = .int .i64 t ∧ Below B w1 wr ∧ B < wr.heap.size ∧ Own intF 3 B (B + 1) wr (.slice (some ⟨B, 0, none⟩) xs.length xs.length) (useK us (ks.take t))) (fun i _ => ks.length - (intOf i).toNat)
            case atStart => exact ⟨0, Nat.zero_le _, rfl, hbA, hBA, hOA⟩
            case round =>
              obtain ⟨t, ht, rfl, hb5, hBs5, hO5⟩ := hrel
              have hsz5 := hb5.size
              obtain ⟨q0, q1, q2, q3, hk5⟩ := HQ.out _ hb5
              have HUL5 := Lib.hid ((useK_len us (ks.take t)).trans HUL.out)
              by_cases htl : t < ks.length
              · have hti : (t : Int) < (ks.length : Int) := by omega
                have htz : (0 : Int) ≤ (t : Int) := by omega
                obtain ⟨kb, koff, rfl, _, _, kc0⟩ := hk5.intAt htl
                have hbk := HBE.out t htl
                have HSU := Lib.hid (useK_succ (us := us) htl)
                have HSM5 := Lib.hid (HSJ.out.use (ks.take t))
                have htk : (ks.take t).length = t := by rw [List.length_take]; omega
                rw [htk] at HSM5
                clear htk
                rw [kd_at (x := ⟨xk, xt, ks, xb⟩) htl] at hbk
                rw [List.getD_eq_getElem?_getD, List.getElem?_eq_getElem htl] at kc0
                replace kc0 : wr.cell? ⟨kb, koff + t, none⟩ = some (.int .i64 ks[t]) := kc0
                replace hbk : 0 ≤ ks[t] ∧ ks[t] < (j : Int) := hbk
                obtain ⟨q, hq⟩ : ∃ q : Nat, ks[t] = (q : Int) := ⟨ks[t].toNat, by omega⟩
                rw [hq] at kc0 hbk HSU
                rw [Int.toNat_natCast] at HSU
                clear hq
                have hql : q < xs.length := by omega
                have hqi : (q : Int) < (xs.length : Int) := by omega
                have hqz : (0 : Int) ≤ (q : Int) := by omega
                have uc := hO5.rd.cellsAt q (by rw [HUL5.out]; exact hql)
                rw [Nat.zero_add] at uc
                have g0 : wr.frozen? ⟨B, q, none⟩ = false := hO5.frozen HUL5.out.symm _
                have hsm := HSM5.out q
                obtain ⟨uv, huv⟩ : ∃ uv, Hid ((useK us (ks.take t)).getD q 0 = uv) := ⟨_, rfl⟩
                rw [huv.out] at uc hsm HSU
                have hO6 := hO5.set (k := q) (j := 0) (u := .int .i64 (uv + 1)) (x := uv + 1) HUL5.out.symm (by rw [HUL5.out]; exact hql) (by decide) rfl
                rw [show q * intF.size + 0 = q from Nat.mul_one _, ← HSU.out] at hO6
                have hw1 : IntKind.i64.wrap (uv + 1) = uv + 1 := by
                  have : (uv + 1 : Int) ≤ 9223372036854775807 := by omega
                  simp [IntKind.wrap, IntKind.signed, IntKind.bits]; omega
                go_wp2
                go_roundw
                case rel => exact ⟨t + 1, by omega, by go_num, hb5.setCell (p := ⟨B, q, none⟩) (Nat.le_refl _) _, by simpa [World.setCell] using hBs5, hO6⟩
                case measure => simp [intOf]; omega
              · have hti : ¬ (t : Int) < (ks.length : Int) := by omega
                have HK5 : Hid (useN xs (j + 1) = useK us (ks.take t)) := by show _ = _; rw [HUS.out, List.take_of_length_le (by omega)]
                rw [← HK5.out] at hO5
                go_wp2
                go_roundw
                case rel => exact ⟨j + 1, by omega, by go_num, hb5, hBs5, hO5⟩
                case measure => simp [intOf]; omega
          · have hji : ¬ (j : Int) < (xs.length : Int) := by omega
            obtain rfl : j = xs.length := by omega
            have HUL := Lib.hid (useN_len xs xs.length)
            have HFY := Lib.hid (fun hu => treeOk_iff.2 (HK2.out hu))
            have HFN := Lib.hid (fun (i : Nat) (hi : i + 1 < xs.length) (h : (useN xs xs.length).getD i 0 ≠ 1) => treeOk_no (xs := xs) (fun t => h (t.used i hi)))
            have hca : ∀ i, i < xs.length → wr.cell? ⟨B, i, none⟩ = some (.int .i64 ((useN xs xs.length).getD i 0)) := fun i hi => by
              have h := hO.rd.cellsAt i (by rw [HUL.out]; exact hi)
              rwa [Nat.zero_add] at h
            have HCA := Lib.hid hca
            have e4 : (xs.length : Int) - 1 ≤ (xs.length : Int) := by omega
            have hbW := HBW.out wr hb
            clear hca hO
            generalize useN xs xs.length = us at *
            go_wp2
            go_loopw [60] (fun i w2 => ∃ t : Nat, t + 1 ≤ xs.length ∧ i = .int .i64 t ∧ Hid (∀ s, s < t → us.getD s 0 = 1) ∧ wr = w2) (fun i _ => xs.length - (intOf i).toNat)
            case atStart => exact ⟨0, by omega, rfl, (fun s hs => absurd hs (Nat.not_lt_zero _)), rfl⟩
            case round =>
              obtain ⟨t, ht, rfl, HA, rfl⟩ := hrel
              by_cases htl : t + 1 < xs.length
              · have hti : (t : Int) < (xs.length : Int) - 1 := by omega
                have htz : (0 : Int) ≤ (t : Int) := by omega
                have hti2 : (t : Int) < (xs.length : Int) := by omega
                have uc := HCA.out t (by omega)
                have HN := Lib.hid (HFN.out t htl)
                obtain ⟨uv, huv⟩ : ∃ uv, Hid (us.getD t 0 = uv) := ⟨_, rfl⟩
                rw [huv.out] at uc HN
                by_cases hu : uv = 1
                · have tu : (uv != 1) = false := by rw [hu]; rfl
                  have HA2 : Hid (∀ s, s < t + 1 → us.getD s 0 = 1) := fun s hs => by
                    by_cases e : s = t
                    · subst e; rw [huv.out]; exact hu
                    · exact HA.out s (by omega)
                  clear hu
                  go_wp2
                  go_roundw
                  case rel => exact ⟨t + 1, by omega, by go_num, HA2.out, by trivial⟩
                  case measure => simp [intOf]; omega
                · have tu : (uv != 1) = true := by simpa using hu
                  have HF := Lib.hid (HN.out hu)
                  clear hu
                  go_wp2
                  go_ret
                  exact ⟨ret_bool HF.out.symm, hbW⟩
              · have hti : ¬ (t : Int) < (xs.length : Int) - 1 := by omega
                have HF := Lib.hid (HFY.out (fun i hi => HA.out i (by omega)))
                go_wp2
                go_ret
                exact ⟨ret_bool HF.out.symm, hbW⟩
    · have t22 : (kn != 22) = true := by simpa using hk
      have HF := Lib.hid (treeOk_no (xs := xs) (fun t => hk (HKN.out t)))
      clear hk
      go_wp2
      go_ret
      exact ⟨ret_bool HF.out.symm, Below.refl _ _⟩
  · have hI := Lib.hid (inRange_no xs.length 1 300 w (by omega))
    have HF := Lib.hid (treeOk_no (xs := xs) (fun t => hn ⟨t.low, t.high⟩))
    clear hn
    go_enter Tryz.func61, Tryz.ntmps61
    go_wp2_with fail
    refine hI.out.mono ?_
    rintro e w' ⟨rfl, hw⟩
    subst hw
    go_wp2
    go_ret
    exact ⟨ret_bool HF.out.symm, Below.refl _ _⟩
set_option maxHeartbeats 4000000 in
set_option maxRecDepth 100000 in
theorem treeOk_spec (xs : List Node) (v : Value) (lo hi : Nat) (w : World) (hr : Rd nodeS lo hi w v xs) (hh : hi ≤ w.heap.size) (hs : ∀ x ∈ xs, x.text.size ≤ 4611686018427387904) (hl : xs.length ≤ 1048576) :
    Calls Tryz.prog 54 #[v] w fun e w' => e = .returned (.bool (treeOk xs)) ∧ Below w.heap.size w w' := by
  obtain ⟨a, c, rfl⟩ := hr.sl
  obtain ⟨_, h2, h3⟩ := hr.lenEq
  have hxl : (xs.length : Int) ≤ 9223372036854775807 := by omega
  obtain ⟨i0, hi0, hz0, hz1, hz2⟩ := info_parts Tryz.infoInt1
  by_cases hn : 1 ≤ xs.length ∧ xs.length ≤ 300
  · have hI := Lib.hid (l01In_yes xs.length 1 300 w (by omega) (by omega))
    have e1 : (0 : Int) ≤ (xs.length : Int) - 1 := by omega
    have e2 : (xs.length : Int) - 1 < (xs.length : Int) := by omega
    have e3 : ((xs.length : Int) - 1).toNat = xs.length - 1 := by omega
    obtain ⟨b, off, ka, kc, eb, hlo, hbh, d0, _, _, _, _⟩ := rd_nodeAt hr (k := xs.length - 1) (by omega)
    subst eb
    have HX : Hid (nd xs ((xs.length : Int) - 1) = xs[xs.length - 1]) := by
      have h := nd_at (xs := xs) (k := xs.length - 1) (by omega)
      rwa [show ((xs.length - 1 : Nat) : Int) = (xs.length : Int) - 1 by omega] at h
    have HKN := Lib.hid (fun t : Tree xs => (by have h := t.kind; rw [HX.out] at h; exact h : xs[xs.length - 1].kind = 22))
    have HKY := Lib.hid (fun (h : xs[xs.length - 1].kind = 22) hd hu => Tree.mk hn.1 hn.2 (by rw [HX.out]; exact h) hd hu)
    generalize xs[xs.length - 1].kind = kn at *
    go_enter Tryz.func54, Tryz.ntmps54
    go_wp2_with fail
    refine hI.out.mono ?_
    rintro e w' ⟨rfl, hw⟩
    subst hw
    by_cases hk : kn = 22
    · have t22 : (kn != 22) = false := by rw [hk]; rfl
      have HK1 := Lib.hid (HKY.out hk)
      have HD := Lib.hid (deepOf_spec xs _ lo hi ((xs.length : Int) - 1) w hr hh hs hl)
      obtain ⟨dv, hdv⟩ : ∃ dv, Hid (deepOf xs ((xs.length : Int) - 1) = dv) := ⟨_, rfl⟩
      rw [hdv.out] at HD HK1
      clear hk
      go_wp2_with fail
      refine HD.out.mono ?_
      rintro e w1 ⟨rfl, hb1⟩
      have hs1 := hb1.size
      by_cases hd : dv = 0
      · have td : (dv == 0) = true := by rw [hd]; rfl
        have HF := Lib.hid (treeOk_no (xs := xs) (fun t => t.deep (hdv.out.trans hd)))
        clear hd
        go_wp2
        go_ret
        exact ⟨ret_bool HF.out.symm, hb1⟩
      · have td : (dv == 0) = false := eqf hd
        have HK2 := Lib.hid (HK1.out hd)
        have HG : Hid (∀ i : Nat, i < xs.length → Good xs (i : Int)) := fun i hi => (deepOf_pos (by rw [hdv.out]; exact hd)).2.2 i (by omega)
        have HGL : Hid (∀ i : Nat, i < xs.length → (nd xs (i : Int)).kids.length ≤ 12) := fun i hi => by have h1 := (HG.out i hi).count; have h2 := hiK_le (nd xs (i : Int)).kind; omega
        have HSM := Lib.hid (useN_small HGL.out)
        have HB := Lib.hid (hr.below hb1 hh)
        have hhw := Lib.hid (Nat.le_trans hh hs1)
        clear hd HK1 HD
        go_wp2_with (at_make; refine wpList_make_full _ rfl _ _ 34 rfl w1.heap.size 3 i0 _ 1 Tryz.underlying34 hi0 hz0 hz1 _ _ _ _ xs.length rfl rfl rfl rfl ?b1 ?b2 ?b3 ?_)
        case b1 => rw [hz2]; omega
        case b2 => unfold maxLen; omega
        case b3 => exact Nat.le_refl _
        intro w2 hown hg
        have hb2 : Below w1.heap.size w1 w2 := (Below.refl _ _).grown hg (Nat.le_refl _) (fun k hk => by cases hk)
        have hO : Own intF 3 w1.heap.size w2.heap.size w2 (.slice (some ⟨w1.heap.size, 0, none⟩) xs.length xs.length) (List.replicate xs.length 0) :=
          Own.of_row hown (by simp) (by have h := made_cells intF (by decide) 0 #[.int .i64 0] rfl xs.length; rw [show xs.length * intF.size = xs.length from Nat.mul_one _] at h; exact h) (Nat.le_refl _)
        clear hown hg
        have HBW : Hid (∀ wr, Below w1.heap.size w1 wr → Below w.heap.size w wr) := fun wr h => hb1.trans (h.mono hs1)
        generalize hBB : w1.heap.size = B at *
        go_wp2
        go_loopw [5] (fun i wr => ∃ j : Nat, j ≤ xs.length ∧ i = .int .i64 j ∧ Below B w1 wr ∧ B < wr.heap.size ∧ Own intF 3 B (B + 1) wr (.slice (some ⟨B, 0, none⟩) xs.length xs.length) (useN xs j)) (fun i _ => xs.length - (intOf i).toNat)
        case atStart => exact ⟨0, Nat.zero_le _, rfl, hb2, (hO.below_heap B rfl).2.2, ⟨hO.1, fun g hg => by have e : B = g := Option.some.inj hg; omega⟩⟩
        case round =>
          clear hO
          obtain ⟨j, hj, rfl, hb, hBs, hO⟩ := hrel
          have hsz := hb.size
          by_cases hlt : j < xs.length
          · have hji : (j : Int) < (xs.length : Int) := by omega
            have hjz : (0 : Int) ≤ (j : Int) := by omega
            obtain ⟨b', off', xa, xc, eb, _, hbb, p0, p1, p2, p3, hk⟩ := rd_nodeAt HB.out hlt
            injection eb with eb
            injection eb with ee1 ee2
            subst ee1; subst ee2
            have HQ : Hid (∀ w4, Below B w1 w4 → w4.cell? ⟨b, off + j * 4, none⟩ = some (.int .i64 xs[j].kind) ∧ w4.cell? ⟨b, off + j * 4 + 1, none⟩ = some (.string xs[j].text) ∧ w4.cell? ⟨b, off + j * 4 + 2, none⟩ = some (.slice xa xs[j].kids.length xc) ∧ w4.cell? ⟨b, off + j * 4 + 3, none⟩ = some (.bool xs[j].blank) ∧ Rd intS lo hi w4 (.slice xa xs[j].kids.length xc) xs[j].kids) := fun w4 h4 =>
              ⟨(h4.cell (p := ⟨b, _, none⟩) (by show b < _; have := hhw.out; omega)).trans p0, (h4.cell (p := ⟨b, _, none⟩) (by show b < _; have := hhw.out; omega)).trans p1, (h4.cell (p := ⟨b, _, none⟩) (by show b < _; have := hhw.out; omega)).trans p2, (h4.cell (p := ⟨b, _, none⟩) (by show b < _; have := hhw.out; omega)).trans p3, hk.below h4 hhw.out⟩
            clear p0 p1 p2 p3
            have HX2 : Hid (nd xs (j : Int) = xs[j]) := nd_at hlt
            have HBE := Lib.hid (HG.out j hlt).below
            have HL12 := HGL.out j hlt
            have HSJ := Lib.hid (HSM.out j hj)
            have HUS : Hid (useN xs (j + 1) = useK (useN xs j) (nd xs (j : Int)).kids) := rfl
            rw [HX2.out] at HBE HL12 HUS
            have HUL := Lib.hid (useN_len xs j)
            generalize xs[j] = x at *
            obtain ⟨xk, xt, ks, xb⟩ := x
            simp only at hk HL12 HUS HQ
            obtain ⟨_, hkl, hkc⟩ := hk.lenEq
            have hki : (ks.length : Int) ≤ 9223372036854775807 := by omega
            generalize useN xs j = us at *
            obtain ⟨q0, q1, q2, q3, _⟩ := HQ.out _ hb
            go_wp2
            go_loopw [6] (fun i wr => ∃ t : Nat, t ≤ ks.length ∧ i = .int .i64 t ∧ Below B w1 wr ∧ B < wr.heap.size ∧ Own intF 3 B (B + 1) wr (.slice (some ⟨B, 0, none⟩) xs.length xs.length) (useK us (ks.take t))) (fun i _ => ks.length - (intOf i).toNat)
            case atStart => exact ⟨0, Nat.zero_le _, rfl, hb, hBs, hO⟩
            case round =>
              obtain ⟨t, ht, rfl, hb5, hBs5, hO5⟩ := hrel
              have hsz5 := hb5.size
              obtain ⟨q0, q1, q2, q3, hk5⟩ := HQ.out _ hb5
              have HUL5 := Lib.hid ((useK_len us (ks.take t)).trans HUL.out)
              by_cases htl : t < ks.length
              · have hti : (t : Int) < (ks.length : Int) := by omega
                have htz : (0 : Int) ≤ (t : Int) := by omega
                obtain ⟨kb, koff, rfl, _, _, kc0⟩ := hk5.intAt htl
                have hbk := HBE.out t htl
                have HSU := Lib.hid (useK_succ (us := us) htl)
                have HSM5 := Lib.hid (HSJ.out.use (ks.take t))
                have htk : (ks.take t).length = t := by rw [List.length_take]; omega
                rw [htk] at HSM5
                clear htk
                rw [kd_at (x := ⟨xk, xt, ks, xb⟩) htl] at hbk
                rw [List.getD_eq_getElem?_getD, List.getElem?_eq_getElem htl] at kc0
                replace kc0 : wr.cell? ⟨kb, koff + t, none⟩ = some (.int .i64 ks[t]) := kc0
                replace hbk : 0 ≤ ks[t] ∧ ks[t] < (j : Int) := hbk
                obtain ⟨q, hq⟩ : ∃ q : Nat, ks[t] = (q : Int) := ⟨ks[t].toNat, by omega⟩
                rw [hq] at kc0 hbk HSU
                rw [Int.toNat_natCast] at HSU
                clear hq
                have hql : q < xs.length := by omega
                have hqi : (q : Int) < (xs.length : Int) := by omega
                have hqz : (0 : Int) ≤ (q : Int) := by omega
                have uc := hO5.rd.cellsAt q (by rw [HUL5.out]; exact hql)
                rw [Nat.zero_add] at uc
                have g0 : wr.frozen? ⟨B, q, none⟩ = false := hO5.frozen HUL5.out.symm _
                have hsm := HSM5.out q
                obtain ⟨uv, huv⟩ : ∃ uv, Hid ((useK us (ks.take t)).getD q 0 = uv) := ⟨_, rfl⟩
                rw [huv.out] at uc hsm HSU
                have hO6 := hO5.set (k := q) (j := 0) (u := .int .i64 (uv + 1)) (x := uv + 1) HUL5.out.symm (by rw [HUL5.out]; exact hql) (by decide) rfl
                rw [show q * intF.size + 0 = q from Nat.mul_one _, ← HSU.out] at hO6
                have hw1 : IntKind.i64.wrap (uv + 1) = uv + 1 := by
                  have : (uv + 1 : Int) ≤ 9223372036854775807 := by omega
                  simp [IntKind.wrap, IntKind.signed, IntKind.bits]; omega
                go_wp2
                go_roundw
                case rel => exact ⟨t + 1, by omega, by go_num, hb5.setCell (p := ⟨B, q, none⟩) (Nat.le_refl _) _, by simpa [World.setCell] using hBs5, hO6⟩
                case measure => simp [intOf]; omega
              · have hti : ¬ (t : Int) < (ks.length : Int) := by omega
                have HK5 : Hid (useN xs (j + 1) = useK us (ks.take t)) := by show _ = _; rw [HUS.out, List.take_of_length_le (by omega)]
                rw [← HK5.out] at hO5
                go_wp2
                go_roundw
                case rel => exact ⟨j + 1, by omega, by go_num, hb5, hBs5, hO5⟩
                case measure => simp [intOf]; omega
          · have hji : ¬ (j : Int) < (xs.length : Int) := by omega
            obtain rfl : j = xs.length := by omega
            have HUL := Lib.hid (useN_len xs xs.length)
            have HFY := Lib.hid (fun hu => treeOk_iff.2 (HK2.out hu))
            have HFN := Lib.hid (fun (i : Nat) (hi : i + 1 < xs.length) (h : (useN xs xs.length).getD i 0 ≠ 1) => treeOk_no (xs := xs) (fun t => h (t.used i hi)))
            have hca : ∀ i, i < xs.length → wr.cell? ⟨B, i, none⟩ = some (.int .i64 ((useN xs xs.length).getD i 0)) := fun i hi => by
              have h := hO.rd.cellsAt i (by rw [HUL.out]; exact hi)
              rwa [Nat.zero_add] at h
            have HCA := Lib.hid hca
            have e4 : (xs.length : Int) - 1 ≤ (xs.length : Int) := by omega
            have hbW := HBW.out wr hb
            clear hca hO
            generalize useN xs xs.length = us at *
            go_wp2
            go_loopw [7] (fun i w2 => ∃ t : Nat, t + 1 ≤ xs.length ∧ i = .int .i64 t ∧ Hid (∀ s, s < t → us.getD s 0 = 1) ∧ wr = w2) (fun i _ => xs.length - (intOf i).toNat)
            case atStart => exact ⟨0, by omega, rfl, (fun s hs => absurd hs (Nat.not_lt_zero _)), rfl⟩
            case round =>
              obtain ⟨t, ht, rfl, HA, rfl⟩ := hrel
              by_cases htl : t + 1 < xs.length
              · have hti : (t : Int) + 1 < (xs.length : Int) := by omega
                have htz : (0 : Int) ≤ (t : Int) := by omega
                have hti2 : (t : Int) < (xs.length : Int) := by omega
                have uc := HCA.out t (by omega)
                have HN := Lib.hid (HFN.out t htl)
                obtain ⟨uv, huv⟩ : ∃ uv, Hid (us.getD t 0 = uv) := ⟨_, rfl⟩
                rw [huv.out] at uc HN
                by_cases hu : uv = 1
                · have tu : (uv != 1) = false := by rw [hu]; rfl
                  have HA2 : Hid (∀ s, s < t + 1 → us.getD s 0 = 1) := fun s hs => by
                    by_cases e : s = t
                    · subst e; rw [huv.out]; exact hu
                    · exact HA.out s (by omega)
                  clear hu
                  go_wp2
                  go_roundw
                  case rel => exact ⟨t + 1, by omega, by go_num, HA2.out, by trivial⟩
                  case measure => simp [intOf]; omega
                · have tu : (uv != 1) = true := by simpa using hu
                  have HF := Lib.hid (HN.out hu)
                  clear hu
                  go_wp2
                  go_ret
                  exact ⟨ret_bool HF.out.symm, hbW⟩
              · have hti : ¬ (t : Int) + 1 < (xs.length : Int) := by omega
                have HF := Lib.hid (HFY.out (fun i hi => HA.out i (by omega)))
                go_wp2
                go_ret
                exact ⟨ret_bool HF.out.symm, hbW⟩
    · have t22 : (kn != 22) = true := by simpa using hk
      have HF := Lib.hid (treeOk_no (xs := xs) (fun t => hk (HKN.out t)))
      clear hk
      go_wp2
      go_ret
      exact ⟨ret_bool HF.out.symm, Below.refl _ _⟩
  · have hI := Lib.hid (l01In_no xs.length 1 300 w (by omega))
    have HF := Lib.hid (treeOk_no (xs := xs) (fun t => hn ⟨t.low, t.high⟩))
    clear hn
    go_enter Tryz.func54, Tryz.ntmps54
    go_wp2_with fail
    refine hI.out.mono ?_
    rintro e w' ⟨rfl, hw⟩
    subst hw
    go_wp2
    go_ret
    exact ⟨ret_bool HF.out.symm, Below.refl _ _⟩
end Go.Proofs.YtoloplpmjcgbdaaGreatDoor
