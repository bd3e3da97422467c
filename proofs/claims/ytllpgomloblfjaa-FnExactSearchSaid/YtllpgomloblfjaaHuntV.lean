/- One state pushed into a row of the call's own, of the reference. -/
import Derived.Test.YtllpgomloblfjaaHuntW
import Derived.Test.YtllpgomloblfjaaDraw
namespace Go.Proofs.Ytllpgomloblfjaa
open Go.RowKit
variable {M : Kept}

set_option maxHeartbeats 4000000 in
set_option maxRecDepth 100000 in
theorem push_spec (ps : List (StL × SV)) (p : StL × SV) (v : Value) (lo hi : Nat) (w : World) (hS : SOwn M lo hi w v ps) (hp : Own intF 3 lo hi w p.2.v p.1.vals) (hf : Fresh M p.2.v) (hlo : lo ≤ w.heap.size) (hh : hi ≤ w.heap.size) (hl : ps.length ≤ 1048576) :
    Calls Try.prog 67 #[v, .agg #[p.2.v, .int .i64 p.1.sum]] w fun e w' => ∃ u, e = .returned u ∧ HOwn M lo w'.heap.size w' u (pushL (ps.map (·.1)) p.1) ∧ Below lo w w' := by
  obtain ⟨i0, hi0, hz0, hz1, hz2⟩ := info_parts Try.infoState
  have HG := Lib.hid (push_start (ps.map (·.1)) p.1)
  generalize pushL (ps.map (·.1)) p.1 = goal at *
  obtain ⟨va, vc, rfl, v2, v3⟩ := hS.form
  unfold maxLen at v3
  go_enter Try.func67, Try.ntmps67
  go_wp2_with (at_builtin; refine wp_app1g (F := stF) (P := Try.prog) (y := p) rfl (.tmp 8) (.tmp 10) 86 rfl Try.underlying86 hi0 hz0 hz1 hz2 rfl (by decide) rfl ((hS.outer.alloc _).alloc _) (w.heap.size + 1) rfl (heap_alloc2_new _ _ _) rfl (by omega) (by omega) (by simp; omega) ?_; intro v' w1 hO1 hb1 hg1; obtain ⟨G, c, rfl, gl, gh, gc1, gc2⟩ := own_some hO1 (by simp))
  have hs1 := hb1.size
  have hlen : (ps ++ [p]).length = ps.length + 1 := by simp
  have hS1 : SOwn M lo w1.heap.size w1 (.slice (some ⟨G, 0, none⟩) (ps.length + 1) c) (ps ++ [p]) := by
    have h := ((hS.alloc _).alloc _).snoc hf ((hp.alloc _).alloc _) (by simp at hs1; omega) hO1 hg1
    rwa [hlen] at h
  have hB1 : Below lo w w1 := blw_al2 hb1 hlo
  have hs2 := hB1.size
  have HM : Hid (PushSt goal ((ps ++ [p]).map (·.1)) ps.length) := by have e := HG.out; rw [List.length_map] at e; show PushSt _ _ _; rw [List.map_append]; exact e
  rw [hlen] at gc1
  clear hS hp hO1 hb1 hg1 HG hs1 hlen
  go_loopw [5] (fun i wr => ∃ (k : Nat) (qs : List (StL × SV)), qs.length = ps.length + 1 ∧ k < ps.length + 1 ∧ i = .int .i64 k ∧ SOwn M lo wr.heap.size wr (.slice (some ⟨G, 0, none⟩) (ps.length + 1) c) qs ∧ Hid (PushSt goal (qs.map (·.1)) k) ∧ Below lo w wr ∧ w1.heap.size ≤ wr.heap.size) (fun i _ => (intOf i).toNat)
  case atStart => exact ⟨ps.length, _, by simp, by omega, by first | rfl | exact int_eq (by omega), hS1, HM.out, hB1, Nat.le_refl _⟩
  case round =>
    clear hS1 HM hB1
    obtain ⟨k, qs, hql, hk, rfl, hQ, HS, hb, hsw⟩ := hrel
    have hsz := hb.size
    by_cases h0 : k = 0
    · have HF := Lib.hid (push_stop HS.out (fun c => by omega))
      subst h0
      go_wp2_with fail
      refine wp_region_held_drew (S := fun w' => w' = wr.drew) (by kernel_rfl) ?_ (fun hHeld => ?_)
      · exact rfl
      refine wpAnyH_take (i := 0) (v := ?v1) (at_op rfl) (by kernel_rfl) (by kernel_rfl) (by kernel_rfl) (fun _ _ _ h => h) (Or.inl ⟨by rfl, ?y1⟩) (by assumption) ?r1
      case y1 =>
        intro wx hSx
        subst hSx
        go_simp
        try with_reducible rfl
      try simp only [Act.put, List.setIfInBounds_toArray, List.set_cons_zero, List.set_cons_succ]
      refine wpAnyH_take (i := 1) (v := ?v2) (at_op rfl) (by kernel_rfl) (by kernel_rfl) (by kernel_rfl) (fun _ _ _ h => h) (Or.inl ⟨by rfl, ?y2⟩) (by assumption) ?r2
      case y2 =>
        intro wx hSx
        subst hSx
        go_simp
        try with_reducible rfl
      try simp only [Act.put, List.setIfInBounds_toArray, List.set_cons_zero, List.set_cons_succ]
      refine wpAnyH_take (i := 2) (v := ?v3) (at_op rfl) (by kernel_rfl) (by kernel_rfl) (by kernel_rfl) (fun _ _ _ h => h) (Or.inl ⟨by rfl, ?y3⟩) (by assumption) ?r3
      case y3 =>
        intro wx hSx
        subst hSx
        go_simp
        try with_reducible rfl
      try simp only [Act.put, List.setIfInBounds_toArray, List.set_cons_zero, List.set_cons_succ]
      refine wpAnyH_take (i := 3) (v := undef) (at_op rfl) (by kernel_rfl) (by kernel_rfl) (by kernel_rfl) (fun _ _ _ h => h) (Or.inr ⟨by rfl, rfl⟩) (by assumption) ?_
      try simp only [Act.put, List.setIfInBounds_toArray, List.set_cons_zero, List.set_cons_succ]
      refine wpAnyH_take (i := 4) (v := undef) (at_op rfl) (by kernel_rfl) (by kernel_rfl) (by kernel_rfl) (fun _ _ _ h => h) (Or.inr ⟨by rfl, rfl⟩) (by assumption) ?_
      try simp only [Act.put, List.setIfInBounds_toArray, List.set_cons_zero, List.set_cons_succ]
      refine wpAnyH_take (i := 5) (v := undef) (at_op rfl) (by kernel_rfl) (by kernel_rfl) (by kernel_rfl) (fun _ _ _ h => h) (Or.inr ⟨by rfl, rfl⟩) (by assumption) ?_
      try simp only [Act.put, List.setIfInBounds_toArray, List.set_cons_zero, List.set_cons_succ]
      refine wpAnyH_take (i := 6) (v := undef) (at_op rfl) (by kernel_rfl) (by kernel_rfl) (by kernel_rfl) (fun _ _ _ h => h) (Or.inr ⟨by rfl, rfl⟩) (by assumption) ?_
      try simp only [Act.put, List.setIfInBounds_toArray, List.set_cons_zero, List.set_cons_succ]
      refine wpAnyH_take (i := 7) (v := undef) (at_op rfl) (by kernel_rfl) (by kernel_rfl) (by kernel_rfl) (fun _ _ _ h => h) (Or.inr ⟨by rfl, rfl⟩) (by assumption) ?_
      try simp only [Act.put, List.setIfInBounds_toArray, List.set_cons_zero, List.set_cons_succ]
      refine wpAnyH_take (i := 8) (v := undef) (at_op rfl) (by kernel_rfl) (by kernel_rfl) (by kernel_rfl) (fun _ _ _ h => h) (Or.inr ⟨by rfl, rfl⟩) (by assumption) ?_
      try simp only [Act.put, List.setIfInBounds_toArray, List.set_cons_zero, List.set_cons_succ]
      refine wpAnyH_take (i := 9) (v := undef) (at_op rfl) (by kernel_rfl) (by kernel_rfl) (by kernel_rfl) (fun _ _ _ h => h) (Or.inr ⟨by rfl, rfl⟩) (by assumption) ?_
      try simp only [Act.put, List.setIfInBounds_toArray, List.set_cons_zero, List.set_cons_succ]
      refine wpAnyH_take (i := 10) (v := undef) (at_op rfl) (by kernel_rfl) (by kernel_rfl) (by kernel_rfl) (fun _ _ _ h => h) (Or.inr ⟨by rfl, rfl⟩) (by assumption) ?_
      try simp only [Act.put, List.setIfInBounds_toArray, List.set_cons_zero, List.set_cons_succ]
      refine wpAnyH_take (i := 11) (v := undef) (at_op rfl) (by kernel_rfl) (by kernel_rfl) (by kernel_rfl) (fun _ _ _ h => h) (Or.inr ⟨by rfl, rfl⟩) (by assumption) ?_
      try simp only [Act.put, List.setIfInBounds_toArray, List.set_cons_zero, List.set_cons_succ]
      refine wpAnyH_take (i := 12) (v := undef) (at_op rfl) (by kernel_rfl) (by kernel_rfl) (by kernel_rfl) (fun _ _ _ h => h) (Or.inr ⟨by rfl, rfl⟩) (by assumption) ?_
      try simp only [Act.put, List.setIfInBounds_toArray, List.set_cons_zero, List.set_cons_succ]
      refine wpAnyH_take (i := 13) (v := undef) (at_op rfl) (by kernel_rfl) (by kernel_rfl) (by kernel_rfl) (fun _ _ _ h => h) (Or.inr ⟨by rfl, rfl⟩) (by assumption) ?_
      try simp only [Act.put, List.setIfInBounds_toArray, List.set_cons_zero, List.set_cons_succ]
      refine wpAnyH_take (i := 14) (v := undef) (at_op rfl) (by kernel_rfl) (by kernel_rfl) (by kernel_rfl) (fun _ _ _ h => h) (Or.inr ⟨by rfl, rfl⟩) (by assumption) ?_
      try simp only [Act.put, List.setIfInBounds_toArray, List.set_cons_zero, List.set_cons_succ]
      refine wpAnyH_take (i := 15) (v := ?v4) (at_op rfl) (by kernel_rfl) (by kernel_rfl) (by kernel_rfl) (fun _ _ _ h => h) (Or.inl ⟨by rfl, ?y4⟩) (by assumption) ?r4
      case y4 =>
        intro wx hSx
        subst hSx
        go_simp
        try with_reducible rfl
      try simp only [Act.put, List.setIfInBounds_toArray, List.set_cons_zero, List.set_cons_succ]
      refine wpAnyH_done (by kernel_rfl) ?_ _
      go_wp2
      go_ret
      exact ⟨_, rfl, ⟨qs, hQ.drew, HF.out⟩, hb.drew⟩
    · have hk1 : 1 ≤ k := by omega
      have hkg : (k : Int) > 0 := by omega
      have hki : (k : Int) < (ps.length : Int) + 1 := by omega
      have hkz : (0 : Int) ≤ (k : Int) := by omega
      have hul := up_lt (show 0 < k by omega)
      obtain ⟨m, hm⟩ : ∃ m, Hid (m = upN k) := ⟨_, rfl⟩
      have hmk' : m < k := by have := hm.out; omega
      have hkq : k < qs.length := by omega
      have hmk : m < qs.length := by omega
      obtain ⟨G1, e1, -, -, -, c0, c1, hru⟩ := hQ.at hkq
      obtain ⟨G2, e2, -, -, -, d0, d1, hru'⟩ := hQ.at hmk
      injection e1 with e1
      injection e1 with e1 _ _
      subst e1
      injection e2 with e2
      injection e2 with e2 _ _
      subst e2
      have HUI : Hid (((k : Int) + 1).tdiv 2 = (m : Int) + 1) := by have := up_int hk1; rw [← hm.out] at this; show _ = _; omega
      have HSK := Lib.hid (stA_map (ps := qs) hkq)
      have HSM := Lib.hid (stA_map (ps := qs) hmk)
      have HST : Hid (lessL qs[k].1 qs[m].1 = false → qs.map (·.1) = goal) := fun h => push_stop HS.out (fun c => by rw [← hm.out, HSK.out, HSM.out, h] at c; exact absurd c.2 (by decide))
      have HGO : Hid (lessL qs[k].1 qs[m].1 = true → PushSt goal (swapS (qs.map (·.1)) k m) m) := fun h => by have e := push_go HS.out (show 0 < k by omega) (by rw [← hm.out, HSK.out, HSM.out]; exact h); rwa [← hm.out] at e
      have HSW := Lib.hid (swap_map (ps := qs) hkq hmk)
      have HLS := Lib.hid (less_spec (w := wr.drew) qs[k].1 qs[m].1 hru (Nat.le_refl _) hru' (Nat.le_refl _))
      clear hul HSK HSM
      have hmi : (m : Int) < (ps.length : Int) + 1 := by omega
      have hmz : (0 : Int) ≤ (m : Int) := by omega
      have HXK : Hid (∀ w, SOwn M lo w.heap.size w (.slice (some ⟨G, 0, none⟩) (ps.length + 1) c) qs → SOwn M lo w.heap.size (storeAll G (stF.enc qs[k]) (m * 2) (storeAll G (stF.enc qs[m]) (k * 2) w)) (.slice (some ⟨G, 0, none⟩) (ps.length + 1) c) ((qs.set k qs[m]).set m qs[k])) := fun w h => h.swap hql.symm hkq hmk
      clear hru hru'
      have HQL := Lib.hid hql
      have HHM := Lib.hid hmk'
      generalize qs[k] = xk at *
      generalize qs[m] = xm at *
      have e2 : IntKind.i64.wrap ((k : Int) + 1) = (k : Int) + 1 := IntWalk.i64_in _ (by omega)
      have e3 : IntKind.i64.wrap (((k : Int) + 1).tdiv 2) = (m : Int) + 1 := by rw [HUI.out]; exact IntWalk.i64_in _ (by omega)
      have e4 : ((k : Int) + 1).tdiv 2 = (m : Int) + 1 := HUI.out
      have e5 : IntKind.i64.wrap (m : Int) = (m : Int) := IntWalk.i64_in _ (by omega)
      have e6 : IntKind.i64.wrap ((m : Int) + 1) = (m : Int) + 1 := IntWalk.i64_in _ (by omega)
      have hkd1 : decide ((k : Int) > 0) = true := decide_eq_true hkg
      have hkd2 : decide (0 < (k : Int)) = true := decide_eq_true hkg
      have hkn : 0 < k := by omega
      have hkd3 : decide (0 < k) = true := decide_eq_true hkn
      clear h0 hql hmk' hmk hkq hk1
      obtain ⟨x1, xa, xn, xc⟩ := xk
      obtain ⟨y1, ya, yn, yc⟩ := xm
      replace c0 : wr.cell? ⟨G, k * 2, none⟩ = some (.slice xa xn xc) := c0
      replace c1 : wr.cell? ⟨G, k * 2 + 1, none⟩ = some (.int .i64 x1.sum) := c1
      replace d0 : wr.cell? ⟨G, m * 2, none⟩ = some (.slice ya yn yc) := d0
      replace d1 : wr.cell? ⟨G, m * 2 + 1, none⟩ = some (.int .i64 y1.sum) := d1
      replace HLS : Hid (Calls Try.prog 110 #[.agg #[.slice xa xn xc, .int .i64 x1.sum], .agg #[.slice ya yn yc, .int .i64 y1.sum]] wr.drew fun e w' => e = .returned (.bool (lessL x1 y1)) ∧ Below wr.drew.heap.size wr.drew w') := HLS
      replace HST : Hid (lessL x1 y1 = false → qs.map (·.1) = goal) := HST
      replace HGO : Hid (lessL x1 y1 = true → PushSt goal (swapS (qs.map (·.1)) k m) m) := HGO
      obtain ⟨bq, hbq⟩ : ∃ bq, Hid (lessL x1 y1 = bq) := ⟨_, rfl⟩
      rw [hbq.out] at HST HGO HLS
      go_wp2_with fail
      refine wp_region_held_drew (S := fun w' => w'.cell? ⟨G, k * 2, none⟩ = some (.slice xa xn xc) ∧ w'.cell? ⟨G, k * 2 + 1, none⟩ = some (.int .i64 x1.sum) ∧ w'.cell? ⟨G, m * 2, none⟩ = some (.slice ya yn yc) ∧ w'.cell? ⟨G, m * 2 + 1, none⟩ = some (.int .i64 y1.sum) ∧ Below wr.heap.size wr w') (by kernel_rfl) ?_ (fun hHeld => ?_)
      · exact ⟨c0, c1, d0, d1, (Below.refl _ _).drew⟩
      refine wpAnyH_take (i := 0) (v := ?v5) (at_op rfl) (by kernel_rfl) (by kernel_rfl) (by kernel_rfl) (fun _ _ _ h => h) (Or.inl ⟨by rfl, ?y5⟩) (by assumption) ?r5
      case y5 =>
        intro wx hSx
        go_simp
        try with_reducible rfl
      try simp only [Act.put, List.setIfInBounds_toArray, List.set_cons_zero, List.set_cons_succ]
      refine wpAnyH_take (i := 1) (v := ?v6) (at_op rfl) (by kernel_rfl) (by kernel_rfl) (by kernel_rfl) (fun _ _ _ h => h) (Or.inl ⟨by rfl, ?y6⟩) (by assumption) ?r6
      case y6 =>
        intro wx hSx
        go_simp
        try with_reducible rfl
      try simp only [Act.put, List.setIfInBounds_toArray, List.set_cons_zero, List.set_cons_succ]
      refine wpAnyH_take (i := 2) (v := ?v7) (at_op rfl) (by kernel_rfl) (by kernel_rfl) (by kernel_rfl) (fun _ _ _ h => h) (Or.inl ⟨by rfl, ?y7⟩) (by assumption) ?r7
      case y7 =>
        intro wx hSx
        go_simp
        try with_reducible rfl
      try simp only [Act.put, List.setIfInBounds_toArray, List.set_cons_zero, List.set_cons_succ]
      refine wpAnyH_take (i := 3) (v := ?v8) (at_op rfl) (by kernel_rfl) (by kernel_rfl) (by kernel_rfl) (fun _ _ _ h => h) (Or.inl ⟨by rfl, ?y8⟩) (by assumption) ?r8
      case y8 =>
        intro wx hSx
        go_simp
        try with_reducible rfl
      try simp only [Act.put, List.setIfInBounds_toArray, List.set_cons_zero, List.set_cons_succ]
      refine wpAnyH_take (i := 4) (v := ?v9) (at_op rfl) (by kernel_rfl) (by kernel_rfl) (by kernel_rfl) (fun _ _ _ h => h) (Or.inl ⟨by rfl, ?y9⟩) (by assumption) ?r9
      case y9 =>
        intro wx hSx
        go_simp
        try with_reducible rfl
      try simp only [Act.put, List.setIfInBounds_toArray, List.set_cons_zero, List.set_cons_succ]
      refine wpAnyH_take (i := 5) (v := ?v10) (at_op rfl) (by kernel_rfl) (by kernel_rfl) (by kernel_rfl) (fun _ _ _ h => h) (Or.inl ⟨by rfl, ?y10⟩) (by assumption) ?r10
      case y10 =>
        intro wx hSx
        go_simp
        try with_reducible rfl
      try simp only [Act.put, List.setIfInBounds_toArray, List.set_cons_zero, List.set_cons_succ]
      refine wpAnyH_take (i := 6) (v := ?v11) (at_op rfl) (by kernel_rfl) (by kernel_rfl) (by kernel_rfl) (fun _ _ _ h => h) (Or.inl ⟨by rfl, ?y11⟩) (by assumption) ?r11
      case y11 =>
        intro wx hSx
        go_simp
        try with_reducible rfl
      try simp only [Act.put, List.setIfInBounds_toArray, List.set_cons_zero, List.set_cons_succ]
      refine wpAnyH_take (i := 7) (v := ?v12) (at_op rfl) (by kernel_rfl) (by kernel_rfl) (by kernel_rfl) (fun _ _ _ h => h) (Or.inl ⟨by rfl, ?y12⟩) (by assumption) ?r12
      case y12 =>
        intro wx hSx
        go_simp
        try with_reducible rfl
      try simp only [Act.put, List.setIfInBounds_toArray, List.set_cons_zero, List.set_cons_succ]
      refine wpAnyH_take (i := 8) (v := ?v13) (at_op rfl) (by kernel_rfl) (by kernel_rfl) (by kernel_rfl) (fun _ _ _ h => h) (Or.inl ⟨by rfl, ?y13⟩) (by assumption) ?r13
      case y13 =>
        intro wx hSx
        go_simp
        try with_reducible rfl
      try simp only [Act.put, List.setIfInBounds_toArray, List.set_cons_zero, List.set_cons_succ]
      refine wpAnyH_take (i := 9) (v := ?v14) (at_op rfl) (by kernel_rfl) (by kernel_rfl) (by kernel_rfl) (fun _ _ _ h => h) (Or.inl ⟨by rfl, ?y14⟩) (by assumption) ?r14
      case y14 =>
        intro wx hSx
        go_simp
        try with_reducible rfl
      try simp only [Act.put, List.setIfInBounds_toArray, List.set_cons_zero, List.set_cons_succ]
      refine wpAnyH_take (i := 10) (v := ?v15) (at_op rfl) (by kernel_rfl) (by kernel_rfl) (by kernel_rfl) (fun _ _ _ h => h) (Or.inl ⟨by rfl, ?y15⟩) (by assumption) ?r15
      case y15 =>
        intro wx hSx
        go_simp
        try with_reducible rfl
      try simp only [Act.put, List.setIfInBounds_toArray, List.set_cons_zero, List.set_cons_succ]
      refine wpAnyH_take (i := 11) (v := ?v16) (at_op rfl) (by kernel_rfl) (by kernel_rfl) (by kernel_rfl) (fun _ _ _ h => h) (Or.inl ⟨by rfl, ?y16⟩) (by assumption) ?r16
      case y16 =>
        intro wx hSx
        go_simp
        try with_reducible rfl
      try simp only [Act.put, List.setIfInBounds_toArray, List.set_cons_zero, List.set_cons_succ]
      refine wpAnyH_take (i := 12) (v := ?v17) (at_op rfl) (by kernel_rfl) (by kernel_rfl) (by kernel_rfl) (fun _ _ _ h => h) (Or.inl ⟨by rfl, ?y17⟩) (by assumption) ?r17
      case y17 =>
        intro wx hSx
        go_simp
        try with_reducible rfl
      try simp only [Act.put, List.setIfInBounds_toArray, List.set_cons_zero, List.set_cons_succ]
      refine wpAnyH_take (i := 13) (v := ?v18) (at_op rfl) (by kernel_rfl) (by kernel_rfl) (by kernel_rfl) (fun _ _ _ h => h) (Or.inl ⟨by rfl, ?y18⟩) (by assumption) ?r18
      case y18 =>
        intro wx hSx
        go_simp
        try with_reducible rfl
      try simp only [Act.put, List.setIfInBounds_toArray, List.set_cons_zero, List.set_cons_succ]
      refine wpAnyH_ready (rs := [14]) (by kernel_rfl) (by simp) ?_
      refine AllReadyH.cons (at_op rfl) (fun K hK => ?_) AllReadyH.nil
      go_simp
      refine HLS.out.mono ?_
      rintro e w5 ⟨rfl, hb5⟩
      go_wp2_with fail
      refine hK.out _ _ (keep4 hHeld hb5) (fun _ => ?_)
      clear hK K
      try simp only [Act.put, List.setIfInBounds_toArray, List.set_cons_zero, List.set_cons_succ]
      refine wpAnyH_take (i := 15) (v := ?v19) (at_op rfl) (by kernel_rfl) (by kernel_rfl) (by kernel_rfl) (fun _ _ _ h => h) (Or.inl ⟨by rfl, ?y19⟩) (by assumption) ?r19
      case y19 =>
        intro wx hSx
        go_simp
        try with_reducible rfl
      try simp only [Act.put, List.setIfInBounds_toArray, List.set_cons_zero, List.set_cons_succ]
      refine wpAnyH_done (by kernel_rfl) ?_ _
      have hs5 := hb5.size
      have hQ5 := (hQ.drew.below hb5 (Nat.le_refl _)).up
      have hB5 : Below lo w w5 := hb.drew.trans (hb5.mono (by show lo ≤ wr.heap.size; omega))
      have hsw5 : w1.heap.size ≤ w5.heap.size := Nat.le_trans hsw hs5
      cases bq with
      | false =>
        have HF := Lib.hid (HST.out rfl)
        go_wp2
        go_ret
        exact ⟨_, rfl, ⟨qs, hQ5, HF.out⟩, hB5⟩
      | true =>
        have HGT := Lib.hid (HGO.out rfl)
        have hGw : G < wr.heap.size := by omega
        have q0 : w5.cell? ⟨G, k * 2, none⟩ = some (.slice xa xn xc) := (hb5.cell (p := ⟨G, _, none⟩) hGw).trans c0
        have q1 : w5.cell? ⟨G, k * 2 + 1, none⟩ = some (.int .i64 x1.sum) := (hb5.cell (p := ⟨G, _, none⟩) hGw).trans c1
        have q2 : w5.cell? ⟨G, m * 2, none⟩ = some (.slice ya yn yc) := (hb5.cell (p := ⟨G, _, none⟩) hGw).trans d0
        have q3 : w5.cell? ⟨G, m * 2 + 1, none⟩ = some (.int .i64 y1.sum) := (hb5.cell (p := ⟨G, _, none⟩) hGw).trans d1
        clear c0 c1 d0 d1
        clear e2 e3 e5
        have hGw5 : G < w5.heap.size := by omega
        have hba : Below w5.heap.size w5 (w5.alloc (.cells #[.slice xa xn xc, .int .i64 x1.sum] 96)) := (Below.refl _ _).alloc (Nat.le_refl _) _
        have hQd : SOwn M lo (w5.alloc (.cells #[.slice xa xn xc, .int .i64 x1.sum] 96)).heap.size (w5.alloc (.cells #[.slice xa xn xc, .int .i64 x1.sum] 96)) (.slice (some ⟨G, 0, none⟩) (ps.length + 1) c) qs := (hQ5.alloc _).up
        have HSd := Lib.hid ((HXK.out w5 hQ5).alloc (.cells #[.slice xa xn xc, .int .i64 x1.sum] 96)).up
        have z0 : (w5.alloc (.cells #[.slice xa xn xc, .int .i64 x1.sum] 96)).cell? ⟨G, k * 2, none⟩ = some (.slice xa xn xc) := (hba.cell (p := ⟨G, _, none⟩) hGw5).trans q0
        have z1 : (w5.alloc (.cells #[.slice xa xn xc, .int .i64 x1.sum] 96)).cell? ⟨G, k * 2 + 1, none⟩ = some (.int .i64 x1.sum) := (hba.cell (p := ⟨G, _, none⟩) hGw5).trans q1
        have z2 : (w5.alloc (.cells #[.slice xa xn xc, .int .i64 x1.sum] 96)).cell? ⟨G, m * 2, none⟩ = some (.slice ya yn yc) := (hba.cell (p := ⟨G, _, none⟩) hGw5).trans q2
        have z3 : (w5.alloc (.cells #[.slice xa xn xc, .int .i64 x1.sum] 96)).cell? ⟨G, m * 2 + 1, none⟩ = some (.int .i64 y1.sum) := (hba.cell (p := ⟨G, _, none⟩) hGw5).trans q3
        have f0 := hQd.frz HQL.out.symm (k * 2)
        have f1 := hQd.frz HQL.out.symm (k * 2 + 1)
        have f2 := hQd.frz HQL.out.symm (m * 2)
        have f3 := hQd.frz HQL.out.symm (m * 2 + 1)
        have hhp := heap_alloc_new w5 (.cells #[.slice xa xn xc, .int .i64 x1.sum] 96)
        have s0 : (w5.alloc (.cells #[.slice xa xn xc, .int .i64 x1.sum] 96)).cell? ⟨w5.heap.size, 0, none⟩ = some (.slice xa xn xc) := cell_heap0 hhp rfl
        have s1 : (w5.alloc (.cells #[.slice xa xn xc, .int .i64 x1.sum] 96)).cell? ⟨w5.heap.size, 1, none⟩ = some (.int .i64 x1.sum) := cell_heap0 hhp rfl
        have hsc : (storeAll G (stF.enc (x1, (xa, xn, xc))) (m * 2) (storeAll G (stF.enc (y1, (ya, yn, yc))) (k * 2) w5)).heap.size = w5.heap.size := by rw [size_storeAll, size_storeAll]
        have HBF : Hid (Below lo w ((storeAll G (stF.enc (x1, (xa, xn, xc))) (m * 2) (storeAll G (stF.enc (y1, (ya, yn, yc))) (k * 2) w5)).alloc (.cells #[.slice xa xn xc, .int .i64 x1.sum] 96))) := (blw_storeAll (blw_storeAll hB5 gl _ _) gl _ _).alloc (by rw [hsc]; omega) _
        have HSZ : Hid (w1.heap.size ≤ ((storeAll G (stF.enc (x1, (xa, xn, xc))) (m * 2) (storeAll G (stF.enc (y1, (ya, yn, yc))) (k * 2) w5)).alloc (.cells #[.slice xa xn xc, .int .i64 x1.sum] 96)).heap.size) := by show _ ≤ _; rw [World.alloc]; simp [hsc]; omega
        clear hsc
        have g0 : w5.frozen? ⟨G, k * 2, none⟩ = false := hQ5.frz HQL.out.symm (k * 2)
        have g1 : w5.frozen? ⟨G, k * 2 + 1, none⟩ = false := hQ5.frz HQL.out.symm (k * 2 + 1)
        have g2 : w5.frozen? ⟨G, m * 2, none⟩ = false := hQ5.frz HQL.out.symm (m * 2)
        have g3 : w5.frozen? ⟨G, m * 2 + 1, none⟩ = false := hQ5.frz HQL.out.symm (m * 2 + 1)
        have y2 : (((w5.alloc (.cells #[.slice xa xn xc, .int .i64 x1.sum] 96)).setCell ⟨G, k * 2, none⟩ (.slice ya yn yc)).setCell ⟨G, k * 2 + 1, none⟩ (.int .i64 y1.sum)).cell? ⟨G, m * 2, none⟩ = some (.slice ya yn yc) :=
          (World.cell?_setCell_other _ _ _ _ (fun c => by have := HHM.out; injection c with _ c _; omega)).trans ((World.cell?_setCell_other _ _ _ _ (fun c => by have := HHM.out; injection c with _ c _; omega)).trans z2)
        have y3 : (((w5.alloc (.cells #[.slice xa xn xc, .int .i64 x1.sum] 96)).setCell ⟨G, k * 2, none⟩ (.slice ya yn yc)).setCell ⟨G, k * 2 + 1, none⟩ (.int .i64 y1.sum)).cell? ⟨G, m * 2 + 1, none⟩ = some (.int .i64 y1.sum) :=
          (World.cell?_setCell_other _ _ _ _ (fun c => by have := HHM.out; injection c with _ c _; omega)).trans ((World.cell?_setCell_other _ _ _ _ (fun c => by have := HHM.out; injection c with _ c _; omega)).trans z3)
        have t0 : (((w5.alloc (.cells #[.slice xa xn xc, .int .i64 x1.sum] 96)).setCell ⟨G, k * 2, none⟩ (.slice ya yn yc)).setCell ⟨G, k * 2 + 1, none⟩ (.int .i64 y1.sum)).cell? ⟨w5.heap.size, 0, none⟩ = some (.slice xa xn xc) :=
          (World.cell?_setCell_other _ _ _ _ (fun c => by injection c with c _ _; omega)).trans ((World.cell?_setCell_other _ _ _ _ (fun c => by injection c with c _ _; omega)).trans s0)
        have t1 : (((w5.alloc (.cells #[.slice xa xn xc, .int .i64 x1.sum] 96)).setCell ⟨G, k * 2, none⟩ (.slice ya yn yc)).setCell ⟨G, k * 2 + 1, none⟩ (.int .i64 y1.sum)).cell? ⟨w5.heap.size, 1, none⟩ = some (.int .i64 x1.sum) :=
          (World.cell?_setCell_other _ _ _ _ (fun c => by injection c with c _ _; omega)).trans ((World.cell?_setCell_other _ _ _ _ (fun c => by injection c with c _ _; omega)).trans s1)
        have nG : ¬ w5.heap.size = G := by omega
        have nH : ¬ G = w5.heap.size := by omega
        have hmk2 := HHM.out
        have n1 : ¬ m * 2 = k * 2 := by omega
        have n2 : ¬ m * 2 = k * 2 + 1 := by omega
        have n3 : ¬ m * 2 + 1 = k * 2 := by omega
        have n4 : ¬ k * 2 = m * 2 := by omega
        have n5 : ¬ k * 2 + 1 = m * 2 := by omega
        have n6 : ¬ k * 2 = m * 2 + 1 := by omega
        have n7 : ¬ m = k := by omega
        have n8 : ¬ k = m := by omega
        clear hmk2 hhp hQ5 hB5 hsw5 hQd hQ HS HXK hb5 hs5 HLS HST HGO
        go_wp2
        go_roundw
        case rel => exact ⟨m, (qs.set k (y1, (ya, yn, yc))).set m (x1, (xa, xn, xc)), (by rw [List.length_set, List.length_set]; exact HQL.out), by have := HHM.out; omega, rfl, HSd.out, (by rw [HSW.out]; exact HGT.out), HBF.out, HSZ.out⟩
        case measure => have := HHM.out; simp [intOf]; omega
end Go.Proofs.Ytllpgomloblfjaa
