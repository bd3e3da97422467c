/- A state opened: the states that have one value more pushed, by the program. -/
import Derived.Test.YtllpgomloblfjaaHuntT
namespace Go.Proofs.Ytllpgomloblfjaa
open Go.RowKit

theorem SOwn.less {M M' : Kept} {lo hi : Nat} {w : World} {v : Value} {ps : List (StL × SV)} (h : SOwn M lo hi w v ps) (h1 : ∀ p ∈ M'.rows, p ∈ M.rows) (h2 : ∀ q ∈ M'.objs, q ∈ M.objs) : SOwn M' lo hi w v ps := ⟨h.outer, h.inner, fun p hp => h.more p (h1 p hp), fun q hq => h.keep q (h2 q hq)⟩
theorem HOwn.less {M M' : Kept} {lo hi : Nat} {w : World} {v : Value} {xs : List StL} (h : HOwn M lo hi w v xs) (h1 : ∀ p ∈ M'.rows, p ∈ M.rows) (h2 : ∀ q ∈ M'.objs, q ∈ M.objs) : HOwn M' lo hi w v xs := by
  obtain ⟨ps, k1, k2⟩ := h
  exact ⟨ps, k1.less h1 h2, k2⟩
theorem fresh_nil (rows : List (StL × SV)) (v : Value) : Fresh ⟨rows, []⟩ v := fun _ hq => by cases hq
theorem fresh_one (rows : List (StL × SV)) {X : Nat} {u v : Value} {s : Int} {T : TypeId} (h1 : u ≠ v) (h2 : Value.int .i64 s ≠ v) : Fresh ⟨rows, [(X, .cells #[u, .int .i64 s] T)]⟩ v := by
  intro q hq b j w hw hc
  obtain rfl := List.mem_singleton.1 hq
  unfold World.cell? at hc
  rw [hw] at hc
  simp only [Option.isSome_none, Bool.false_eq_true, if_false] at hc
  rcases j with _ | _ | j
  · exact h1 (by simpa using hc)
  · exact h2 (by simpa using hc)
  · simp at hc
theorem upF_len : ∀ (f : Nat) (l : List StL) (i : Nat), (upF f l i).length = l.length
  | 0, _, _ => rfl
  | f + 1, l, i => by
    unfold upF
    split
    · rw [upF_len f, swap_len]
    · rfl
theorem push_len (l : List StL) (x : StL) : (pushL l x).length = l.length + 1 := by unfold pushL; rw [upF_len]; simp
theorem openTo_len (x : Piece) (c : CostL) (vals : List Int) (h : List StL) : ∀ k, (openTo x c vals k h).length ≤ h.length + k
  | 0 => Nat.le_refl _
  | k + 1 => by
    have ih := openTo_len x c vals h k
    unfold openTo
    split
    · rw [push_len]; omega
    · omega
theorem openTo_yes {x : Piece} {c : CostL} {vals : List Int} {h : List StL} {k : Nat} (hp : pushOk x c (vals ++ [(k : Int)]) = true) : openTo x c vals (k + 1) h = pushL (openTo x c vals k h) ⟨vals ++ [(k : Int)], boundOf x (vals ++ [(k : Int)])⟩ := by rw [openTo, if_pos hp]
theorem openTo_no {x : Piece} {c : CostL} {vals : List Int} {h : List StL} {k : Nat} (hp : pushOk x c (vals ++ [(k : Int)]) = false) : openTo x c vals (k + 1) h = openTo x c vals k h := by rw [openTo, if_neg (by rw [hp]; decide)]
theorem valsN_bd {x : Piece} (hx : Right x) {n : Nat} (h : n < x.rules.length) : valsN x n ≤ 3 ∧ x.rules[n].values = ((valsN x n : Nat) : Int) := by
  unfold valsN
  rw [ruleAt_lt h]
  have := hx.rule n h
  omega
theorem bound_bd {x : Piece} (hx : Right x) {v : List Int} (hv : RightV x v) : 0 ≤ boundOf x v ∧ boundOf x v ≤ 1000 := by
  have h5 := costTo_bd hx hv v.length (Nat.le_refl _)
  have h6 := spanTo_bd (v := v) hx x.spans.length (Nat.le_refl _)
  have h7 := hv.len
  have h8 := hx.rules
  have h9 := hx.spans
  unfold boundOf
  omega
theorem HOwn.drewN' {M : Kept} {lo hi : Nat} {w : World} {v : Value} {xs : List StL} (h : HOwn M lo hi w v xs) (n : Nat) : HOwn M lo hi (w.drewN n) v xs := by
  obtain ⟨ps, k1, k2⟩ := h
  exact ⟨ps, k1.drewN n, k2⟩
set_option maxHeartbeats 4000000 in
set_option maxRecDepth 100000 in
theorem open_impl (x : Piece) (xv best : List Int) (ra ca sa ta xa : Option Addr) (rc cc sc tc xc lo hi H : Nat) (wd pops xs : Int) (bv : SV) (hv : Value) (c : CostL) (heap : List StL) (w : World) (hp : PFour x ra rc ca cc sa sc ta tc lo hi w) (hh : hi ≤ H) (hx : Right x) (hxr : RightV x xv) (hxl : xv.length < x.rules.length) (hhl : heap.length ≤ 20000)
    (hH : HBlk x ra rc ca cc sa sc ta tc H wd bv.v hv c pops w) (hS : HOwn ⟨[((⟨best, 0⟩ : StL), bv)], []⟩ (H + 1) w.heap.size w hv heap) (hO : Own intF 3 (H + 1) w.heap.size w (.slice xa xv.length xc) xv) :
    Calls Try.prog 103 #[.pointer (some ⟨H, 0, none⟩), .agg #[.slice xa xv.length xc, .int .i64 xs]] w fun e w' => e = .returned (.tuple #[]) ∧ ∃ hv', HBlk x ra rc ca cc sa sc ta tc H wd bv.v hv' c pops w' ∧ HOwn ⟨[((⟨best, 0⟩ : StL), bv)], []⟩ (H + 1) w'.heap.size w' hv' (openL x c xv heap) ∧ Below H w w' := by
  obtain ⟨i0, hi0, hz0, hz1, hz2⟩ := info_parts Try.infoInt1
  have hHl := hH.lt
  obtain ⟨hr, hc, hsp, ht⟩ := id hp
  obtain ⟨hrl, hr5⟩ := at_rule hr
  obtain ⟨hv1, hv2⟩ := valsN_bd hx hxl
  obtain ⟨N, hN⟩ : ∃ N, Hid (valsN x xv.length = N) := ⟨_, rfl⟩
  rw [hN.out] at hv1 hv2
  have HPP := Lib.hid (fun (w2 : World) (h2 : Below H w w2) => hp.below h2 hh)
  have hX0 := heap_alloc_new w (.cells #[.slice xa xv.length xc, .int .i64 xs] 96)
  have hbX : Below w.heap.size w (w.alloc (.cells #[.slice xa xv.length xc, .int .i64 xs] 96)) := (Below.refl _ _).alloc (Nat.le_refl _) _
  have hsX : w.heap.size < (w.alloc (.cells #[.slice xa xv.length xc, .int .i64 xs] 96)).heap.size := by simp
  have HFN : Hid (∀ vals : List Int, ∀ b n k, w.heap.size < b → vals = vals → Fresh ⟨[((⟨best, 0⟩ : StL), bv), ((⟨xv, 0⟩ : StL), ((xa, xv.length, xc) : SV))], [(w.heap.size, .cells #[.slice xa xv.length xc, .int .i64 xs] 96)]⟩ (.slice (some ⟨b, 0, none⟩) n k)) := fun _ b n k hb _ => fresh_one _ (fun e => by
    injection e with e1 _ _
    subst e1
    have := (hO.below_heap b rfl).2.2
    omega) (fun e => by cases e)
  go_enter Try.func103, Try.ntmps103
  go_wp2_with fail
  generalize w.alloc (.cells #[.slice xa xv.length xc, .int .i64 xs] 96) = w1 at *
  have hS1 : HOwn ⟨[((⟨best, 0⟩ : StL), bv), ((⟨xv, 0⟩ : StL), ((xa, xv.length, xc) : SV))], [(w.heap.size, .cells #[.slice xa xv.length xc, .int .i64 xs] 96)]⟩ (H + 1) w1.heap.size w1 hv heap := by
    obtain ⟨ps, k1, k2⟩ := hS
    have k3 := (k1.below hbX (Nat.le_refl _)).wide (Nat.le_refl _) (Nat.le_of_lt hsX)
    have k4 := (hO.below hbX (Nat.le_refl _)).wide (Nat.le_refl _) (Nat.le_of_lt hsX)
    refine ⟨ps, ⟨k3.outer, k3.inner, fun p hp => ?_, fun q hq => ?_⟩, k2⟩
    · rcases List.mem_cons.1 hp with h | h
      · exact k3.more p (by rw [h]; exact List.mem_singleton.2 rfl)
      · rw [List.mem_singleton.1 h]; exact k4
    · rw [List.mem_singleton.1 hq]
      refine ⟨by omega, hsX, hX0, fun e => ?_⟩
      have := (k1.outer.below_heap _ e).2.2
      exact Nat.lt_irrefl _ this
  have hH1 := hH.below hbX
  have hb1 : Below H w w1 := hbX.mono (Nat.le_of_lt hHl)
  obtain ⟨p0, p1, p2, p3, p4, p5, p6, p7, p8, p9, p10⟩ := hH1.eleven
  obtain ⟨x0, x1⟩ := two_cells hX0
  obtain ⟨b, off, rfl, hlo, hhi, c0, -⟩ := hr5 _ hxl
  have d0 := (hbX.cell (p := ⟨b, _, none⟩) (by show b < _; omega)).trans c0
  rw [hv2] at d0
  have hxi : (xv.length : Int) < (x.rules.length : Int) := by omega
  have hxz : (0 : Int) ≤ (xv.length : Int) := by omega
  clear hr5 c0 hS hO hH hv2 hp hr hc hsp ht
  go_wp2_with fail
  go_quiet (fail)
  clear p0 p1 p2 p3 p4 p5 p6 p7 p8 p9 p10 x0 x1 d0
  have hS2 := hS1.drewN' nq
  have hH2 : HBlk x (some ⟨b, off, none⟩) rc ca cc sa sc ta tc H wd bv.v hv c pops (w1.drewN nq) := hH1
  have hb2 := blw_drewN hb1 nq
  have hs2 : w1.heap.size ≤ (w1.drewN nq).heap.size := Nat.le_refl _
  replace hS2 : HOwn ⟨[((⟨best, 0⟩ : StL), bv), ((⟨xv, 0⟩ : StL), ((xa, xv.length, xc) : SV))], [(w.heap.size, .cells #[.slice xa xv.length xc, .int .i64 xs] 96)]⟩ (H + 1) (w1.drewN nq).heap.size (w1.drewN nq) hv heap := hS2
  clear hS1 hH1 hb1 hX0 hbX
  generalize w1.drewN nq = w2 at *
  go_wp2_with fail
  go_loopw [18] (fun i wr => ∃ (k : Nat) (hv' : Value) (cur : List StL), k ≤ N ∧ i = .int .i64 k ∧ Hid (cur = openTo x c xv k heap) ∧ HBlk x (some ⟨b, off, none⟩) rc ca cc sa sc ta tc H wd bv.v hv' c pops wr ∧ HOwn ⟨[((⟨best, 0⟩ : StL), bv), ((⟨xv, 0⟩ : StL), ((xa, xv.length, xc) : SV))], [(w.heap.size, .cells #[.slice xa xv.length xc, .int .i64 xs] 96)]⟩ (H + 1) wr.heap.size wr hv' cur ∧ Below H w wr ∧ w.heap.size < wr.heap.size) (fun i _ => N - (intOf i).toNat)
  case atStart => exact ⟨0, hv, heap, Nat.zero_le _, rfl, rfl, hH2, hS2, hb2, by omega⟩
  case round =>
    clear hS2 hH2 hb2
    obtain ⟨k, hv', cur, hk, rfl, HCU, hHr, hSr, hbr, hsr⟩ := hrel
    have hHlr := hHr.lt
    by_cases hlt : k < N
    · have hki : (k : Int) < (N : Int) := by omega
      have hkz : (0 : Int) ≤ (k : Int) := by omega
      have HRV : Hid (RightV x (xv ++ [(k : Int)])) := fit_snoc hx hxr hxl (by rw [hN.out]; exact hlt)
      have HYE : Hid (pushOk x c (xv ++ [(k : Int)]) = true → pushL cur ⟨xv ++ [(k : Int)], boundOf x (xv ++ [(k : Int)])⟩ = openTo x c xv (k + 1) heap) := fun h => by rw [openTo_yes h, HCU.out]
      have HNO : Hid (pushOk x c (xv ++ [(k : Int)]) = false → cur = openTo x c xv (k + 1) heap) := fun h => by rw [openTo_no h, HCU.out]
      have hcl : cur.length ≤ 20003 := by have := openTo_len x c xv heap k; rw [HCU.out]; omega
      obtain ⟨hbd1, hbd2⟩ := bound_bd hx HRV.out
      obtain ⟨ps, hSp, hq⟩ := hSr
      have HQ := Lib.hid hq
      have hql : ps.length ≤ 20003 := by have e := congrArg List.length hq; rw [List.length_map] at e; omega
      clear hq HCU
      have hXr := (hSp.keep _ (List.mem_singleton.2 rfl)).2.2.1
      have hOx := hSp.more ((⟨xv, 0⟩ : StL), ((xa, xv.length, xc) : SV)) (List.mem_cons_of_mem _ (List.mem_singleton.2 rfl))
      have hxvl : xv.length ≤ 8 := by have := hx.rules; omega
      obtain ⟨x0, x1⟩ := two_cells hXr
      have hOx2 : Own intF 3 (H + 1) wr.heap.size wr (.slice xa xv.length xc) xv := hOx
      clear hOx
      go_wp2_with fail
      refine (cloneInt_any hOx2.rd (Nat.le_refl _) (by omega)).mono ?_
      rintro e w3 ⟨u3, rfl, hb3, hO3⟩
      have hs3 := hb3.size
      go_wp2_with (at_builtin; refine wp_app1 (F := intF) (P := Try.prog) (y := (k : Int)) rfl (.tmp 23) (.tmp 25) 32 rfl Try.underlying32 hi0 hz0 hz1 hz2 rfl (by decide) rfl (hO3.alloc _) w3.heap.size rfl (heap_alloc_new _ _) rfl (by omega) (by omega) (by simp; omega) ?_; intro v4 w4 hO4 hb4; have hB4 : Below wr.heap.size wr w4 := hb3.trans (blw_al1 hb4 hs3); have hH4 := hHr.below hB4; obtain ⟨p0, p1, p2, p3, p4, p5, p6, p7, p8, p9, p10⟩ := hH4.eleven)
      obtain ⟨va, vc, rfl, -, -, -⟩ := hO4.form
      have hvo : ∃ vb, va = some ⟨vb, 0, none⟩ ∧ w.heap.size < vb := by
        obtain ⟨G, c', e, g1, -, -, -⟩ := own_some hO4 (by simp)
        injection e with e1 _ _
        exact ⟨G, e1, by omega⟩
      obtain ⟨vb, rfl, hvb⟩ := hvo
      generalize hvs : xv ++ [(k : Int)] = vs at *
      clear hvs
      have hs4 := hB4.size
      have hBw4 := hbr.trans (hB4.mono (Nat.le_of_lt hHlr))
      have HBN := Lib.hid (bound_impl x vs _ ca sa ta (some ⟨vb, 0, none⟩) rc cc sc tc vc lo hi wr.heap.size w4.heap.size w4 (HPP.out w4 hBw4) (by omega) hO4.rd (Nat.le_refl _) hx HRV.out)
      unfold Piece.v at HBN
      refine HBN.out.mono ?_
      clear HBN
      rintro e w5 ⟨rfl, hb5⟩
      have hs5 := hb5.size
      have hB5 : Below wr.heap.size wr w5 := hB4.trans (hb5.mono hs4)
      have hBw5 := hbr.trans (hB5.mono (Nat.le_of_lt hHlr))
      have hO5 := (hO4.below hb5 (Nat.le_refl _)).wide (Nat.le_refl _) hs5
      have HTM := Lib.hid (tiesMay_impl x vs _ ca sa ta rc cc sc tc (.slice (some ⟨vb, 0, none⟩) vs.length vc) lo hi wr.heap.size w5.heap.size w5 (HPP.out w5 hBw5) (by omega) hO5.rd (Nat.le_refl _))
      unfold Piece.v at HTM
      clear p0 p1 p2 p3 p4 p5 p6 p7 p8 p9 p10
      obtain ⟨p0, p1, p2, p3, p4, p5, p6, p7, p8, p9, p10⟩ := (hHr.below hB5).eleven
      go_wp2_with fail
      refine HTM.out.mono ?_
      clear HTM
      rintro e w6 ⟨rfl, hb6⟩
      have hs6 := hb6.size
      have hB6 : Below wr.heap.size wr w6 := hB5.trans (hb6.mono (Nat.le_trans hs4 hs5))
      have hBw6 := hbr.trans (hB6.mono (Nat.le_of_lt hHlr))
      have hO6 := (hO5.below hb6 (Nat.le_refl _)).wide (Nat.le_refl _) hs6
      have hH6 := hHr.below hB6
      have hS6 := (hSp.below hB6 (Nat.le_refl _)).wide (Nat.le_refl _) hB6.size
      clear p0 p1 p2 p3 p4 p5 p6 p7 p8 p9 p10
      obtain ⟨p0, p1, p2, p3, p4, p5, p6, p7, p8, p9, p10⟩ := hH6.eleven
      have hf9 := hH6.frz 9
      obtain ⟨bd, hbd⟩ : ∃ bd, Hid (boundOf x vs = bd) := ⟨_, rfl⟩
      rw [hbd.out] at hbd1 hbd2 HYE
      rw [hbd.out]
      have HPK : Hid (pushOk x c vs = (tiesMay x.ties vs && !(decide (c.over = 0) && decide (c.sum < bd)))) := by show _ = _; rw [← hbd.out]; rfl
      obtain ⟨tm, htm⟩ : ∃ tm, Hid (tiesMay x.ties vs = tm) := ⟨_, rfl⟩
      rw [htm.out] at HPK
      rw [htm.out]
      have hgo : w.heap.size < w6.heap.size := by omega
      clear hHr hbr hHlr hSp hXr x0 x1 hOx2 hO3 hO4 hO5 hb3 hb4 hb5 hb6 hH4 hB4 hB5 hBw4 hBw5
      cases tm with
      | false =>
        have HF := Lib.hid (HNO.out (by rw [HPK.out]; rfl))
        clear HYE HNO HPK
        go_wp2
        go_roundw
        case rel => exact ⟨k + 1, hv', cur, by omega, by go_num, HF.out, hH6, ⟨ps, hS6, HQ.out⟩, hBw6, hgo⟩
        case measure => simp [intOf]; omega
      | true =>
        by_cases hz0 : c.over = 0 ∧ c.sum < bd
        · obtain ⟨hz1, hz2⟩ := hz0
          have HF := Lib.hid (HNO.out (by rw [HPK.out, decide_eq_true hz1, decide_eq_true hz2]; rfl))
          have hz3 : ((c.over : Int) == 0) = true := beq_iff_eq.2 hz1
          clear HYE HNO HPK hz1
          go_wp2
          go_roundw
          case rel => exact ⟨k + 1, hv', cur, by omega, by go_num, HF.out, hH6, ⟨ps, hS6, HQ.out⟩, hBw6, hgo⟩
          case measure => simp [intOf]; omega
        · have HF := Lib.hid (HYE.out (by
            rw [HPK.out]
            by_cases h1 : c.over = 0
            · rw [decide_eq_false (fun h2 => hz0 ⟨h1, h2⟩)]; simp
            · rw [decide_eq_false h1]; rfl))
          have HP := Lib.hid (push_impl ps ((⟨vs, bd⟩ : StL), ((some ⟨vb, 0, none⟩, vs.length, vc) : SV)) hv' (H + 1) w6.heap.size w6 hS6 (hO6.wide (by omega) (Nat.le_refl _)) (HFN.out vs vb _ _ hvb trivial) (by omega) (Nat.le_refl _) (by omega))
          rw [HQ.out] at HP
          clear HYE HNO HPK hS6 hO6
          by_cases hz1 : c.over = 0
          · have hz3 : ((c.over : Int) == 0) = true := beq_iff_eq.2 hz1
            have hz2 : ¬ c.sum < bd := fun h2 => hz0 ⟨hz1, h2⟩
            clear hz0 hz1
            go_wp2_with fail
            refine HP.out.mono ?_
            clear HP
            rintro e w7 ⟨u7, rfl, hO7, hb7⟩
            obtain ⟨ua, uc, rfl, -, -⟩ := hO7.form
            obtain ⟨zs, hzs⟩ : ∃ zs, Hid (pushL cur ⟨vs, bd⟩ = zs) := ⟨_, rfl⟩
            rw [hzs.out] at hO7 HF
            rw [hzs.out]
            have hs7 := hb7.size
            have q9 := (hb7.cell (p := ⟨H, 9, none⟩) (Nat.lt_succ_self H)).trans p9
            have f9 := (hb7.frozen (p := ⟨H, 9, none⟩) (Nat.lt_succ_self H)).trans hf9
            have hFA := Lib.hid ((hH6.belowN hb7 (Nat.lt_succ_self H)).setHeap (.slice ua zs.length uc))
            have hFB : Hid (HOwn ⟨[((⟨best, 0⟩ : StL), bv), ((⟨xv, 0⟩ : StL), ((xa, xv.length, xc) : SV))], [(w.heap.size, .cells #[.slice xa xv.length xc, .int .i64 xs] 96)]⟩ (H + 1) (w7.setCell ⟨H, 9, none⟩ (.slice ua zs.length uc)).heap.size (w7.setCell ⟨H, 9, none⟩ (.slice ua zs.length uc)) (.slice ua zs.length uc) zs) := (hO7.same (same_storeAll (g := H) (.inl (Nat.lt_succ_self H)) [.slice ua zs.length uc] 9 w7)).wide (Nat.le_refl _) (by simp [World.setCell])
            have hFC : Hid (Below H w (w7.setCell ⟨H, 9, none⟩ (.slice ua zs.length uc))) := (hBw6.trans (hb7.mono (Nat.le_succ H))).setCell (p := ⟨H, 9, none⟩) (Nat.le_refl _) _
            have hFD : Hid (w.heap.size < (w7.setCell ⟨H, 9, none⟩ (.slice ua zs.length uc)).heap.size) := by show _ < _; simp [World.setCell]; omega
            clear hO7 hb7 hH6 hBw6
            go_wp2
            go_roundw
            case rel => exact ⟨k + 1, _, zs, by omega, by go_num, HF.out, hFA.out, hFB.out, hFC.out, hFD.out⟩
            case measure => simp [intOf]; omega
          · have hz3 : ((c.over : Int) == 0) = false := beq_eq_false_iff_ne.2 hz1
            clear hz0 hz1
            go_wp2_with fail
            refine HP.out.mono ?_
            clear HP
            rintro e w7 ⟨u7, rfl, hO7, hb7⟩
            obtain ⟨ua, uc, rfl, -, -⟩ := hO7.form
            obtain ⟨zs, hzs⟩ : ∃ zs, Hid (pushL cur ⟨vs, bd⟩ = zs) := ⟨_, rfl⟩
            rw [hzs.out] at hO7 HF
            rw [hzs.out]
            have hs7 := hb7.size
            have q9 := (hb7.cell (p := ⟨H, 9, none⟩) (Nat.lt_succ_self H)).trans p9
            have f9 := (hb7.frozen (p := ⟨H, 9, none⟩) (Nat.lt_succ_self H)).trans hf9
            have hFA := Lib.hid ((hH6.belowN hb7 (Nat.lt_succ_self H)).setHeap (.slice ua zs.length uc))
            have hFB : Hid (HOwn ⟨[((⟨best, 0⟩ : StL), bv), ((⟨xv, 0⟩ : StL), ((xa, xv.length, xc) : SV))], [(w.heap.size, .cells #[.slice xa xv.length xc, .int .i64 xs] 96)]⟩ (H + 1) (w7.setCell ⟨H, 9, none⟩ (.slice ua zs.length uc)).heap.size (w7.setCell ⟨H, 9, none⟩ (.slice ua zs.length uc)) (.slice ua zs.length uc) zs) := (hO7.same (same_storeAll (g := H) (.inl (Nat.lt_succ_self H)) [.slice ua zs.length uc] 9 w7)).wide (Nat.le_refl _) (by simp [World.setCell])
            have hFC : Hid (Below H w (w7.setCell ⟨H, 9, none⟩ (.slice ua zs.length uc))) := (hBw6.trans (hb7.mono (Nat.le_succ H))).setCell (p := ⟨H, 9, none⟩) (Nat.le_refl _) _
            have hFD : Hid (w.heap.size < (w7.setCell ⟨H, 9, none⟩ (.slice ua zs.length uc)).heap.size) := by show _ < _; simp [World.setCell]; omega
            clear hO7 hb7 hH6 hBw6
            go_wp2
            go_roundw
            case rel => exact ⟨k + 1, _, zs, by omega, by go_num, HF.out, hFA.out, hFB.out, hFC.out, hFD.out⟩
            case measure => simp [intOf]; omega
    · obtain rfl : k = N := by omega
      have HF : Hid (cur = openL x c xv heap) := by show _ = _; rw [HCU.out, ← hN.out]; rfl
      have hSF := hSr.less (M' := ⟨[((⟨best, 0⟩ : StL), bv)], []⟩) (fun p hp => by rw [List.mem_singleton.1 hp]; exact List.mem_cons_self ..) (fun q hq => by cases hq)
      clear hSr HCU
      go_wp2
      go_end0
      exact ⟨rfl, _, hHr, by rw [← HF.out]; exact hSF, hbr⟩
end Go.Proofs.Ytllpgomloblfjaa
