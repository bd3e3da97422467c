/- Bare of both. -/
import Derived.Test.YtefcelolakpnoaaDoorDeepS
namespace Go.Proofs.YtefcelolakpnoaaDoor
open Go.RowKit

/-- what stands in brackets -/
def bareW (xs : List Node) (k : Nat) : Int :=
  if (nd xs (k : Int)).kind = 11 then (if _h : 0 ≤ kd (nd xs (k : Int)) 0 ∧ kd (nd xs (k : Int)) 0 < (k : Int) then bareW xs (kd (nd xs (k : Int)) 0).toNat else 0) else (k : Int)
termination_by k
decreasing_by omega
theorem bareW_stop {xs : List Node} {k : Nat} (h : (nd xs (k : Int)).kind ≠ 11) : bareW xs k = (k : Int) := by rw [bareW, if_neg h]
theorem bareW_step {xs : List Node} {k q : Nat} (h : (nd xs (k : Int)).kind = 11) (hq : kd (nd xs (k : Int)) 0 = (q : Int)) (hl : q < k) : bareW xs k = bareW xs q := by
  rw [bareW, if_pos h, hq, dif_pos ⟨by omega, by omega⟩, Int.toNat_natCast]
noncomputable def bareOf (xs : List Node) (k : Int) : Int := if deepOf xs k = 0 then k else bareW xs k.toNat
theorem bareOf_no {xs : List Node} {k : Int} (h : deepOf xs k = 0) : bareOf xs k = k := by unfold bareOf; rw [if_pos h]
theorem bareOf_yes {xs : List Node} {k : Nat} (h : deepOf xs (k : Int) ≠ 0) : bareOf xs (k : Int) = bareW xs k := by unfold bareOf; rw [if_neg h, Int.toNat_natCast]
theorem good_par {xs : List Node} {k : Nat} (g : Good xs (k : Int)) (h : (nd xs (k : Int)).kind = 11) : 0 < (nd xs (k : Int)).kids.length ∧ 0 ≤ kd (nd xs (k : Int)) 0 ∧ kd (nd xs (k : Int)) 0 < (k : Int) := by
  have h1 := g.count
  rw [h] at h1
  have h2 : loK 11 = 1 := rfl
  have h3 := g.below 0 (by omega)
  exact ⟨by omega, h3⟩
set_option maxHeartbeats 1000000 in
set_option maxRecDepth 100000 in
theorem bare_impl (xs : List Node) (v : Value) (lo hi m : Nat) (w : World) (hr : Rd nodeS lo hi w v xs) (hm : m < xs.length) (hg : ∀ i : Nat, i ≤ m → Good xs (i : Int)) :
    Calls Tryd.prog 54 #[v, .int .i64 m] w fun e w' => e = .returned (.int .i64 (bareW xs m)) ∧ w = w' := by
  obtain ⟨a, c, rfl⟩ := hr.sl
  obtain ⟨_, h2, h3⟩ := hr.lenEq
  go_enter Tryd.func54, Tryd.ntmps54
  go_wp2
  go_loop [1] (fun i => ∃ q : Nat, q ≤ m ∧ i = .int .i64 q ∧ Hid (bareW xs m = bareW xs q)) (fun i => (intOf i).toNat)
  case atStart => exact ⟨m, Nat.le_refl _, rfl, rfl⟩
  case round =>
    obtain ⟨q, hq, rfl, HA⟩ := hrel
    have hqx : q < xs.length := by omega
    have hqi : (q : Int) < (xs.length : Int) := by omega
    have hqz : (0 : Int) ≤ (q : Int) := by omega
    obtain ⟨b, off, ka, kc, eb, _, _, d0, d1, d2, d3, hk⟩ := rd_nodeAt hr hqx
    subst eb
    have HX : Hid (nd xs (q : Int) = xs[q]) := nd_at hqx
    have HG := Lib.hid (fun h => good_par (hg q hq) h)
    have HST := Lib.hid (fun h => bareW_stop (xs := xs) (k := q) h)
    have HSP := Lib.hid (fun z h e l => bareW_step (xs := xs) (k := q) (q := z) h e l)
    rw [HX.out] at HG HST HSP
    clear d1 d3
    generalize xs[q] = x at *
    obtain ⟨_, hkl, hkc⟩ := hk.lenEq
    by_cases h11 : x.kind = 11
    · have t11 : (x.kind == 11) = true := by rw [h11]; rfl
      obtain ⟨h0, hf0, hf1⟩ := HG.out h11
      obtain ⟨kb, koff, rfl, _, _, kc0⟩ := hk.intAt h0
      rw [Nat.add_zero] at kc0
      have h0i : (0 : Int) < (x.kids.length : Int) := by omega
      have HKD : Hid (kd x 0 = x.kids.getD 0 0) := rfl
      rw [HKD.out] at hf0 hf1
      obtain ⟨z, hz⟩ : ∃ z : Nat, x.kids.getD 0 0 = (z : Int) := ⟨(x.kids.getD 0 0).toNat, by omega⟩
      rw [hz] at kc0 hf0 hf1
      have HN := Lib.hid (HA.out.trans (HSP.out z h11 (HKD.out.trans hz) (by omega)))
      clear h11 hz
      go_wp2
      go_round
      case rel => exact ⟨z, by omega, rfl, HN.out⟩
      case measure => simp [intOf]; omega
    · have t11 : (x.kind == 11) = false := eqf h11
      have HN := Lib.hid (HA.out.trans (HST.out h11))
      clear h11
      go_wp2
      go_ret
      exact ⟨ret_int HN.out.symm, rfl⟩
set_option maxHeartbeats 1000000 in
set_option maxRecDepth 100000 in
theorem bare_spec (xs : List Node) (v : Value) (lo hi m : Nat) (w : World) (hr : Rd nodeS lo hi w v xs) (hm : m < xs.length) (hg : ∀ i : Nat, i ≤ m → Good xs (i : Int)) :
    Calls Tryd.prog 53 #[v, .int .i64 m] w fun e w' => e = .returned (.int .i64 (bareW xs m)) ∧ w = w' := by
  obtain ⟨a, c, rfl⟩ := hr.sl
  obtain ⟨_, h2, h3⟩ := hr.lenEq
  go_enter Tryd.func53, Tryd.ntmps53
  go_wp2
  go_loop [1] (fun i => ∃ q : Nat, q ≤ m ∧ i = .int .i64 q ∧ Hid (bareW xs m = bareW xs q)) (fun i => (intOf i).toNat)
  case atStart => exact ⟨m, Nat.le_refl _, rfl, rfl⟩
  case round =>
    obtain ⟨q, hq, rfl, HA⟩ := hrel
    have hqx : q < xs.length := by omega
    have hqi : (q : Int) < (xs.length : Int) := by omega
    have hqz : (0 : Int) ≤ (q : Int) := by omega
    obtain ⟨b, off, ka, kc, eb, _, _, d0, d1, d2, d3, hk⟩ := rd_nodeAt hr hqx
    subst eb
    have HX : Hid (nd xs (q : Int) = xs[q]) := nd_at hqx
    have HG := Lib.hid (fun h => good_par (hg q hq) h)
    have HST := Lib.hid (fun h => bareW_stop (xs := xs) (k := q) h)
    have HSP := Lib.hid (fun z h e l => bareW_step (xs := xs) (k := q) (q := z) h e l)
    rw [HX.out] at HG HST HSP
    clear d1 d3
    generalize xs[q] = x at *
    obtain ⟨_, hkl, hkc⟩ := hk.lenEq
    by_cases h11 : x.kind = 11
    · have t11 : (x.kind == 11) = true := by rw [h11]; rfl
      obtain ⟨h0, hf0, hf1⟩ := HG.out h11
      obtain ⟨kb, koff, rfl, _, _, kc0⟩ := hk.intAt h0
      rw [Nat.add_zero] at kc0
      have h0i : (0 : Int) < (x.kids.length : Int) := by omega
      have HKD : Hid (kd x 0 = x.kids.getD 0 0) := rfl
      rw [HKD.out] at hf0 hf1
      obtain ⟨z, hz⟩ : ∃ z : Nat, x.kids.getD 0 0 = (z : Int) := ⟨(x.kids.getD 0 0).toNat, by omega⟩
      rw [hz] at kc0 hf0 hf1
      have HN := Lib.hid (HA.out.trans (HSP.out z h11 (HKD.out.trans hz) (by omega)))
      clear h11 hz
      go_wp2
      go_round
      case rel => exact ⟨z, by omega, rfl, HN.out⟩
      case measure => simp [intOf]; omega
    · have t11 : (x.kind == 11) = false := eqf h11
      have HN := Lib.hid (HA.out.trans (HST.out h11))
      clear h11
      go_wp2
      go_ret
      exact ⟨ret_int HN.out.symm, rfl⟩
set_option maxHeartbeats 1000000 in
set_option maxRecDepth 100000 in
theorem bareOf_impl (xs : List Node) (v : Value) (lo hi : Nat) (k : Int) (w : World) (hr : Rd nodeS lo hi w v xs) (hh : hi ≤ w.heap.size) (hs : ∀ x ∈ xs, x.text.size ≤ 4611686018427387904) (hl : xs.length ≤ 1048576) :
    Calls Tryd.prog 20 #[v, .int .i64 k] w fun e w' => e = .returned (.int .i64 (bareOf xs k)) ∧ Below w.heap.size w w' := by
  go_enter Tryd.func20, Tryd.ntmps20
  go_wp2_with fail
  refine (deepOf_impl xs _ lo hi k _ hr hh hs hl).mono ?_
  rintro e w1 ⟨rfl, hb1⟩
  by_cases hd : deepOf xs k = 0
  · have HF := Lib.hid (bareOf_no hd)
    have td : (deepOf xs k == 0) = true := by rw [hd]; rfl
    clear hd
    go_wp2
    go_ret
    exact ⟨ret_int HF.out.symm, hb1⟩
  · have td : (deepOf xs k == 0) = false := eqf hd
    obtain ⟨k0, k1, hg⟩ := deepOf_pos hd
    obtain ⟨m, rfl⟩ : ∃ m : Nat, k = (m : Int) := ⟨k.toNat, by omega⟩
    have HF := Lib.hid (bareOf_yes hd)
    clear hd
    go_wp2_with fail
    refine (bare_impl xs _ lo hi m _ (hr.below hb1 hh) (by omega) (fun i hi => hg i (by omega))).mono ?_
    rintro e w2 ⟨rfl, rfl⟩
    go_wp2
    go_ret
    exact ⟨ret_int HF.out.symm, hb1⟩
set_option maxHeartbeats 1000000 in
set_option maxRecDepth 100000 in
theorem bareOf_spec (xs : List Node) (v : Value) (lo hi : Nat) (k : Int) (w : World) (hr : Rd nodeS lo hi w v xs) (hh : hi ≤ w.heap.size) (hs : ∀ x ∈ xs, x.text.size ≤ 4611686018427387904) (hl : xs.length ≤ 1048576) :
    Calls Tryd.prog 19 #[v, .int .i64 k] w fun e w' => e = .returned (.int .i64 (bareOf xs k)) ∧ Below w.heap.size w w' := by
  go_enter Tryd.func19, Tryd.ntmps19
  go_wp2_with fail
  refine (deepOf_spec xs _ lo hi k _ hr hh hs hl).mono ?_
  rintro e w1 ⟨rfl, hb1⟩
  by_cases hd : deepOf xs k = 0
  · have HF := Lib.hid (bareOf_no hd)
    have td : (deepOf xs k == 0) = true := by rw [hd]; rfl
    clear hd
    go_wp2
    go_ret
    exact ⟨ret_int HF.out.symm, hb1⟩
  · have td : (deepOf xs k == 0) = false := eqf hd
    obtain ⟨k0, k1, hg⟩ := deepOf_pos hd
    obtain ⟨m, rfl⟩ : ∃ m : Nat, k = (m : Int) := ⟨k.toNat, by omega⟩
    have HF := Lib.hid (bareOf_yes hd)
    clear hd
    go_wp2_with fail
    refine (bare_spec xs _ lo hi m _ (hr.below hb1 hh) (by omega) (fun i hi => hg i (by omega))).mono ?_
    rintro e w2 ⟨rfl, rfl⟩
    go_wp2
    go_ret
    exact ⟨ret_int HF.out.symm, hb1⟩
end Go.Proofs.YtefcelolakpnoaaDoor
