/- MethodAt of both. By mk_method.py. -/
import Derived.Test.YtefcelolakpnoaaDoorTree
namespace Go.Proofs.YtefcelolakpnoaaDoor
open Go.RowKit

def isMeth (xs : List Node) (name : ByteArray) (k : Int) : Bool := ((nd xs k).kind == 20) && ((nd xs k).text.toList == name.toList)
def methL (xs : List Node) (name : ByteArray) (ks : List Int) : Int := (ks.find? (isMeth xs name)).getD (-1)
noncomputable def methodAt (xs : List Node) (name : ByteArray) : Int := if treeOk xs = true then methL xs name (nd xs ((xs.length : Int) - 1)).kids else -1
theorem methL_none {xs : List Node} {name : ByteArray} {ks : List Int} (h : ∀ s, s < ks.length → isMeth xs name (ks.getD s 0) = false) : methL xs name ks = -1 := by
  unfold methL
  rw [List.find?_eq_none.2]
  · rfl
  · intro x hx
    obtain ⟨i, hi, rfl⟩ := List.mem_iff_getElem.1 hx
    have := h i hi
    rw [List.getD_eq_getElem?_getD, List.getElem?_eq_getElem hi] at this
    simpa using this
theorem methL_some {xs : List Node} {name : ByteArray} : ∀ {ks : List Int} {t : Nat}, t < ks.length → (∀ s, s < t → isMeth xs name (ks.getD s 0) = false) → isMeth xs name (ks.getD t 0) = true → methL xs name ks = ks.getD t 0
  | [], t, h, _, _ => absurd h (Nat.not_lt_zero _)
  | k :: ks, 0, _, _, h => by
    have e : isMeth xs name k = true := h
    unfold methL
    rw [List.find?_cons_of_pos e]; rfl
  | k :: ks, t + 1, h, h0, h1 => by
    have e : isMeth xs name k = false := h0 0 (by omega)
    have := methL_some (xs := xs) (name := name) (ks := ks) (t := t) (by simpa using h) (fun s hs => h0 (s + 1) (by omega)) h1
    unfold methL at this ⊢
    rw [List.find?_cons_of_neg (by rw [e]; simp)]; exact this
set_option maxHeartbeats 4000000 in
set_option maxRecDepth 100000 in
theorem methodAt_walk (xs : List Node) (v : Value) (lo hi : Nat) (name : ByteArray) (w : World) (hr : Rd nodeS lo hi w v xs) (T1 : Tree xs) :
    Calls Tryd.prog 56 #[v, .string name] w fun e w' => e = .returned (.int .i64 (methL xs name (nd xs ((xs.length : Int) - 1)).kids)) ∧ w = w' := by
  obtain ⟨a, c, rfl⟩ := hr.sl
  obtain ⟨_, h2, h3⟩ := hr.lenEq
  have hn1 := T1.low
  have hn2 := T1.high
  have e1 : (0 : Int) ≤ (xs.length : Int) - 1 := by omega
  have e2 : (xs.length : Int) - 1 < (xs.length : Int) := by omega
  have e3 : ((xs.length : Int) - 1).toNat = xs.length - 1 := by omega
  obtain ⟨b, off, ka, kc, eb, _, hbb, d0, d1, d2, d3, hk⟩ := rd_nodeAt hr (k := xs.length - 1) (by omega)
  subst eb
  have HX : Hid (nd xs ((xs.length : Int) - 1) = xs[xs.length - 1]) := by
    have h := nd_at (xs := xs) (k := xs.length - 1) (by omega)
    rwa [show ((xs.length - 1 : Nat) : Int) = (xs.length : Int) - 1 by omega] at h
  have HBE := Lib.hid ((deepOf_pos T1.deep).2.2 (xs.length - 1) (by omega)).below
  rw [show ((xs.length - 1 : Nat) : Int) = (xs.length : Int) - 1 by omega] at HBE
  have HN := Lib.hid (fun z (h : z < xs.length) => nd_at (xs := xs) (k := z) h)
  have HCN := Lib.hid (fun z (h : z < xs.length) => rd_nodeAt hr (k := z) h)
  rw [HX.out] at HBE ⊢
  clear T1 d0 d1 d3
  generalize xs[xs.length - 1] = x at *
  obtain ⟨_, hkl, hkc⟩ := hk.lenEq
  have hki : (x.kids.length : Int) ≤ 9223372036854775807 := by omega
  go_enter Tryd.func56, Tryd.ntmps56
  go_wp2
  go_loop [15] (fun i => ∃ t : Nat, t ≤ x.kids.length ∧ i = .int .i64 t ∧ Hid (∀ s, s < t → isMeth xs name (x.kids.getD s 0) = false)) (fun i => x.kids.length - (intOf i).toNat)
  case atStart => exact ⟨0, Nat.zero_le _, rfl, fun s hs => absurd hs (Nat.not_lt_zero _)⟩
  case round =>
    obtain ⟨t, ht, rfl, HA⟩ := hrel
    by_cases htl : t < x.kids.length
    · obtain ⟨kb, koff, rfl, _, _, kc0⟩ := hk.intAt htl
      have hti : (t : Int) < (x.kids.length : Int) := by omega
      have htz : (0 : Int) ≤ (t : Int) := by omega
      have hbk := HBE.out t htl
      have hkd : kd x t = x.kids.getD t 0 := rfl
      rw [hkd] at hbk
      have HME := Lib.hid (fun (e : isMeth xs name (x.kids.getD t 0) = true) => methL_some htl HA.out e)
      have HMN : Hid (isMeth xs name (x.kids.getD t 0) = false → ∀ s, s < t + 1 → isMeth xs name (x.kids.getD s 0) = false) := fun e s hs => by
        by_cases z : s = t
        · subst z; exact e
        · exact HA.out s (by omega)
      clear hkd
      obtain ⟨y, hy⟩ : ∃ y : Nat, x.kids.getD t 0 = (y : Int) := ⟨(x.kids.getD t 0).toNat, by omega⟩
      rw [hy] at kc0 hbk HME HMN
      have hyl : y < xs.length := by omega
      have hyi : (y : Int) < (xs.length : Int) := by omega
      have hyz : (0 : Int) ≤ (y : Int) := by omega
      obtain ⟨b', off', ya, yc, eb, _, _, q0, q1, q2, q3, _⟩ := HCN.out y hyl
      injection eb with eb
      injection eb with ee1 ee2
      subst ee1; subst ee2
      have HIM : Hid (isMeth xs name (y : Int) = ((xs[y].kind == 20) && (xs[y].text.toList == name.toList))) := by show isMeth xs name (y : Int) = _; unfold isMeth; rw [HN.out y hyl]
      generalize xs[y] = z at *
      clear hy
      cases g1 : (z.kind == 20) with
      | false =>
        have HR := Lib.hid (HMN.out (by rw [HIM.out, g1]; rfl))
        go_wp2
        go_round
        case rel => exact ⟨t + 1, by omega, by go_num, HR.out⟩
        case measure => simp [intOf]; omega
      | true =>
        cases g2 : (z.text.toList == name.toList) with
        | false =>
          have HR := Lib.hid (HMN.out (by rw [HIM.out, g1, g2]; rfl))
          go_wp2
          go_round
          case rel => exact ⟨t + 1, by omega, by go_num, HR.out⟩
          case measure => simp [intOf]; omega
        | true =>
          have HR := Lib.hid (HME.out (by rw [HIM.out, g1, g2]; rfl))
          go_wp2
          go_ret
          exact ⟨ret_int HR.out.symm, rfl⟩
    · have hti : ¬ (t : Int) < (x.kids.length : Int) := by omega
      have HR := Lib.hid (methL_none (xs := xs) (name := name) (ks := x.kids) (fun s hs => HA.out s (by omega)))
      go_wp2
      go_ret
      exact ⟨ret_int HR.out.symm, rfl⟩
set_option maxHeartbeats 4000000 in
set_option maxRecDepth 100000 in
theorem methodAt_impl (xs : List Node) (v : Value) (lo hi : Nat) (name : ByteArray) (w : World) (hr : Rd nodeS lo hi w v xs) (hh : hi ≤ w.heap.size) (hs : ∀ x ∈ xs, x.text.size ≤ 4611686018427387904) (hl : xs.length ≤ 1048576) :
    Calls Tryd.prog 24 #[v, .string name] w fun e w' => e = .returned (.int .i64 (methodAt xs name)) ∧ Below w.heap.size w w' := by
  have HT := Lib.hid (treeOk_impl xs v lo hi w hr hh hs hl)
  cases ht : treeOk xs with
  | false =>
    rw [ht] at HT
    have HF := Lib.hid (show methodAt xs name = -1 by unfold methodAt; rw [ht]; rfl)
    clear ht
    go_enter Tryd.func24, Tryd.ntmps24
    go_wp2_with fail
    refine HT.out.mono ?_
    rintro e w1 ⟨rfl, hb1⟩
    go_wp2
    go_ret
    exact ⟨ret_int HF.out.symm, hb1⟩
  | true =>
    have HTT := Lib.hid (treeOk_iff.1 ht)
    rw [ht] at HT
    have HF := Lib.hid (show methodAt xs name = methL xs name (nd xs ((xs.length : Int) - 1)).kids by unfold methodAt; rw [if_pos ht])
    clear ht
    go_enter Tryd.func24, Tryd.ntmps24
    go_wp2_with fail
    refine HT.out.mono ?_
    rintro e w1 ⟨rfl, hb1⟩
    go_wp2_with fail
    refine (methodAt_walk xs v lo hi name _ (hr.below hb1 hh) HTT.out).mono ?_
    rintro e w2 ⟨rfl, rfl⟩
    go_wp2
    go_ret
    exact ⟨ret_int HF.out.symm, hb1⟩
set_option maxHeartbeats 4000000 in
set_option maxRecDepth 100000 in
theorem methodAt_spec (xs : List Node) (v : Value) (lo hi : Nat) (name : ByteArray) (w0 : World) (hr0 : Rd nodeS lo hi w0 v xs) (hh : hi ≤ w0.heap.size) (hs : ∀ x ∈ xs, x.text.size ≤ 4611686018427387904) (hl : xs.length ≤ 1048576) :
    Calls Tryd.prog 23 #[v, .string name] w0 fun e w' => e = .returned (.int .i64 (methodAt xs name)) ∧ Below w0.heap.size w0 w' := by
  have HT := Lib.hid (treeOk_spec xs v lo hi w0 hr0 hh hs hl)
  cases ht : treeOk xs with
  | false =>
    rw [ht] at HT
    have HF := Lib.hid (show methodAt xs name = -1 by unfold methodAt; rw [ht]; rfl)
    clear ht
    go_enter Tryd.func23, Tryd.ntmps23
    go_wp2_with fail
    refine HT.out.mono ?_
    rintro e w1 ⟨rfl, hb1⟩
    go_wp2
    go_ret
    exact ⟨ret_int HF.out.symm, hb1⟩
  | true =>
  have T1 := treeOk_iff.1 ht
  rw [ht] at HT
  rw [show methodAt xs name = methL xs name (nd xs ((xs.length : Int) - 1)).kids by unfold methodAt; rw [if_pos ht]]
  clear ht
  go_enter Tryd.func23, Tryd.ntmps23
  go_wp2_with fail
  refine HT.out.mono ?_
  rintro e w ⟨rfl, hb1⟩
  have hr := hr0.below hb1 hh
  obtain ⟨a, c, rfl⟩ := hr.sl
  obtain ⟨_, h2, h3⟩ := hr.lenEq
  have hn1 := T1.low
  have hn2 := T1.high
  have e1 : (0 : Int) ≤ (xs.length : Int) - 1 := by omega
  have e2 : (xs.length : Int) - 1 < (xs.length : Int) := by omega
  have e3 : ((xs.length : Int) - 1).toNat = xs.length - 1 := by omega
  obtain ⟨b, off, ka, kc, eb, _, hbb, d0, d1, d2, d3, hk⟩ := rd_nodeAt hr (k := xs.length - 1) (by omega)
  subst eb
  have HX : Hid (nd xs ((xs.length : Int) - 1) = xs[xs.length - 1]) := by
    have h := nd_at (xs := xs) (k := xs.length - 1) (by omega)
    rwa [show ((xs.length - 1 : Nat) : Int) = (xs.length : Int) - 1 by omega] at h
  have HBE := Lib.hid ((deepOf_pos T1.deep).2.2 (xs.length - 1) (by omega)).below
  rw [show ((xs.length - 1 : Nat) : Int) = (xs.length : Int) - 1 by omega] at HBE
  have HN := Lib.hid (fun z (h : z < xs.length) => nd_at (xs := xs) (k := z) h)
  have HCN := Lib.hid (fun z (h : z < xs.length) => rd_nodeAt hr (k := z) h)
  rw [HX.out] at HBE
  clear T1 d0 d1 d3
  generalize xs[xs.length - 1] = x at *
  obtain ⟨_, hkl, hkc⟩ := hk.lenEq
  have hki : (x.kids.length : Int) ≤ 9223372036854775807 := by omega
  go_wp2
  go_loop [6] (fun i => ∃ t : Nat, t ≤ x.kids.length ∧ i = .int .i64 t ∧ Hid (∀ s, s < t → isMeth xs name (x.kids.getD s 0) = false)) (fun i => x.kids.length - (intOf i).toNat)
  case atStart => exact ⟨0, Nat.zero_le _, rfl, fun s hs => absurd hs (Nat.not_lt_zero _)⟩
  case round =>
    obtain ⟨t, ht, rfl, HA⟩ := hrel
    by_cases htl : t < x.kids.length
    · obtain ⟨kb, koff, rfl, _, _, kc0⟩ := hk.intAt htl
      have hti : (t : Int) < (x.kids.length : Int) := by omega
      have htz : (0 : Int) ≤ (t : Int) := by omega
      have hbk := HBE.out t htl
      have hkd : kd x t = x.kids.getD t 0 := rfl
      rw [hkd] at hbk
      have HME := Lib.hid (fun (e : isMeth xs name (x.kids.getD t 0) = true) => methL_some htl HA.out e)
      have HMN : Hid (isMeth xs name (x.kids.getD t 0) = false → ∀ s, s < t + 1 → isMeth xs name (x.kids.getD s 0) = false) := fun e s hs => by
        by_cases z : s = t
        · subst z; exact e
        · exact HA.out s (by omega)
      clear hkd
      obtain ⟨y, hy⟩ : ∃ y : Nat, x.kids.getD t 0 = (y : Int) := ⟨(x.kids.getD t 0).toNat, by omega⟩
      rw [hy] at kc0 hbk HME HMN
      have hyl : y < xs.length := by omega
      have hyi : (y : Int) < (xs.length : Int) := by omega
      have hyz : (0 : Int) ≤ (y : Int) := by omega
      obtain ⟨b', off', ya, yc, eb, _, _, q0, q1, q2, q3, _⟩ := HCN.out y hyl
      injection eb with eb
      injection eb with ee1 ee2
      subst ee1; subst ee2
      have HIM : Hid (isMeth xs name (y : Int) = ((xs[y].kind == 20) && (xs[y].text.toList == name.toList))) := by show isMeth xs name (y : Int) = _; unfold isMeth; rw [HN.out y hyl]
      generalize xs[y] = z at *
      clear hy
      cases g1 : (z.kind == 20) with
      | false =>
        have HR := Lib.hid (HMN.out (by rw [HIM.out, g1]; rfl))
        go_wp2
        go_round
        case rel => exact ⟨t + 1, by omega, by go_num, HR.out⟩
        case measure => simp [intOf]; omega
      | true =>
        cases g2 : (z.text.toList == name.toList) with
        | false =>
          have HR := Lib.hid (HMN.out (by rw [HIM.out, g1, g2]; rfl))
          go_wp2
          go_round
          case rel => exact ⟨t + 1, by omega, by go_num, HR.out⟩
          case measure => simp [intOf]; omega
        | true =>
          have HR := Lib.hid (HME.out (by rw [HIM.out, g1, g2]; rfl))
          go_wp2
          go_ret
          exact ⟨ret_int (by rw [HX.out]; exact HR.out.symm), hb1⟩
    · have hti : ¬ (t : Int) < (x.kids.length : Int) := by omega
      have HR := Lib.hid (methL_none (xs := xs) (name := name) (ks := x.kids) (fun s hs => HA.out s (by omega)))
      go_wp2
      go_ret
      exact ⟨ret_int (by rw [HX.out]; exact HR.out.symm), hb1⟩
end Go.Proofs.YtefcelolakpnoaaDoor
