/- CountName of both. -/
import Derived.Test.YtoloplpmjcgbdaaGreatDoorUnderS
namespace Go.Proofs.YtoloplpmjcgbdaaGreatDoor
open Go.RowKit

def isNamed (k : Int) : Bool := (k == 1) || (k == 12) || (k == 13)
def hasNm (x : Node) (name : ByteArray) : Bool := isNamed x.kind && (x.text.toList == name.toList)
noncomputable def countN (xs : List Node) (k : Int) (name : ByteArray) : Int := (cnt (fun i => hasNm (nd xs i) name) (underL xs k) : Nat)
set_option maxHeartbeats 1000000 in
set_option maxRecDepth 100000 in
theorem hasName_any (kind : Int) (t : ByteArray) (kv : Value) (bl : Bool) (name : ByteArray) (w : World) :
    Calls Tryz.prog 35 #[.agg #[.int .i64 kind, .string t, kv, .bool bl], .string name] w fun e w' => e = .returned (.bool (isNamed kind && (t.toList == name.toList))) ∧ Below w.heap.size w w' := by
  have hba : ∀ A, Below w.heap.size w (w.alloc A) := fun A => (Below.refl _ _).alloc (Nat.le_refl _) A
  obtain ⟨d1, e1⟩ : ∃ d, (kind == 1) = d := ⟨_, rfl⟩
  obtain ⟨d2, e2⟩ : ∃ d, (kind == 12) = d := ⟨_, rfl⟩
  obtain ⟨d3, e3⟩ : ∃ d, (kind == 13) = d := ⟨_, rfl⟩
  obtain ⟨d4, e4⟩ : ∃ d, (t.toList == name.toList) = d := ⟨_, rfl⟩
  have HF := Lib.hid (show (isNamed kind && (t.toList == name.toList)) = ((d1 || d2 || d3) && d4) by rw [isNamed, e1, e2, e3, e4])
  cases d1 <;> cases d2 <;> cases d3 <;>
    (go_enter Tryz.func35, Tryz.ntmps35; go_wp2; go_ret; exact ⟨ret_bool (by rw [HF.out]; simp), hba _⟩)
set_option maxHeartbeats 1000000 in
set_option maxRecDepth 100000 in
theorem l22Named_any (kind : Int) (w : World) :
    Calls Tryz.prog 28 #[.int .i64 kind] w fun e w' => e = .returned (.bool (isNamed kind)) ∧ w = w' := by
  obtain ⟨d1, e1⟩ : ∃ d, (kind == 1) = d := ⟨_, rfl⟩
  obtain ⟨d2, e2⟩ : ∃ d, (kind == 12) = d := ⟨_, rfl⟩
  obtain ⟨d3, e3⟩ : ∃ d, (kind == 13) = d := ⟨_, rfl⟩
  have HF := Lib.hid (show isNamed kind = (d1 || d2 || d3) by rw [isNamed, e1, e2, e3])
  cases d1 <;> cases d2 <;>
    (go_enter Tryz.func28, Tryz.ntmps28; go_wp2; go_ret; exact ⟨ret_bool (by rw [HF.out]; simp), rfl⟩)
set_option maxHeartbeats 4000000 in
set_option maxRecDepth 100000 in
theorem countName_impl (xs : List Node) (v : Value) (lo hi : Nat) (k : Int) (name : ByteArray) (w : World) (hr : Rd nodeS lo hi w v xs) (hh : hi ≤ w.heap.size) (hs : ∀ x ∈ xs, x.text.size ≤ 4611686018427387904) (hl : xs.length ≤ 1048576) :
    Calls Tryz.prog 32 #[v, .int .i64 k, .string name] w fun e w' => e = .returned (.int .i64 (countN xs k name)) ∧ Below w.heap.size w w' := by
  have HCN : Hid (countN xs k name = ((cnt (fun i => hasNm (nd xs i) name) (underL xs k) : Nat) : Int)) := rfl
  have HMM := Lib.hid (fun x (h : x ∈ underL xs k) => underL_mem h)
  have HLE := Lib.hid (underL_le xs k)
  have HR := Lib.hid (fun w4 (h4 : Below w.heap.size w w4) => hr.below h4 hh)
  go_enter Tryz.func32, Tryz.ntmps32
  go_wp2_with fail
  refine (underOf_impl xs v lo hi k w hr hh hs hl).mono ?_
  rintro e w1 ⟨u, rfl, hb1, hO⟩
  have hs1 := hb1.size
  have hrd := hO.rd
  obtain ⟨oa, oc, rfl⟩ := hrd.sl
  generalize underL xs k = us at *
  have hul : (us.length : Int) ≤ 9223372036854775807 := by have := HLE.out; omega
  go_wp2
  go_loopw [7, 14] (fun n i wr => ∃ t : Nat, t ≤ us.length ∧ i = .int .i64 t ∧ n = .int .i64 (cnt (fun i => hasNm (nd xs i) name) (us.take t) : Nat) ∧ Below w1.heap.size w1 wr) (fun _ i _ => us.length - (intOf i).toNat)
  case atStart => exact ⟨0, Nat.zero_le _, rfl, rfl, Below.refl _ _⟩
  case round =>
    obtain ⟨t, ht, rfl, rfl, hb⟩ := hrel
    have hbW := hb1.trans (hb.mono hs1)
    by_cases htl : t < us.length
    · obtain ⟨ub, uoff, rfl, _, _, uc0⟩ := (hrd.below hb (Nat.le_refl _)).intAt htl
      have hti : (t : Int) < (us.length : Int) := by omega
      have htz : (0 : Int) ≤ (t : Int) := by omega
      have hm := HMM.out _ (List.getElem_mem htl)
      have hge : us.getD t 0 = us[t] := by rw [List.getD_eq_getElem?_getD, List.getElem?_eq_getElem htl]; rfl
      rw [hge] at uc0
      have HY := Lib.hid (fun h => cnt_yes (p := fun i => hasNm (nd xs i) name) htl h)
      have HN := Lib.hid (fun h => cnt_no (p := fun i => hasNm (nd xs i) name) htl h)
      have hcl := cnt_le (fun i => hasNm (nd xs i) name) us t
      have hlen := HLE.out
      obtain ⟨y, hy⟩ : ∃ y : Nat, us[t] = (y : Int) := ⟨us[t].toNat, by omega⟩
      rw [hy] at uc0 hm HY HN
      have hyl : y < xs.length := by omega
      have hyi : (y : Int) < (xs.length : Int) := by omega
      have hyz : (0 : Int) ≤ (y : Int) := by omega
      obtain ⟨a, c, rfl⟩ := hr.sl
      obtain ⟨b, off, ya, yc, eb, _, _, q0, q1, q2, q3, _⟩ := rd_nodeAt (HR.out wr hbW) hyl
      subst eb
      have HX : Hid (nd xs (y : Int) = xs[y]) := nd_at hyl
      rw [HX.out] at HY HN
      clear hge hy hm
      generalize xs[y] = z at *
      obtain ⟨zk, zt, zs, zb⟩ := z
      simp only at q0 q1 q2 q3
      obtain ⟨cn, hcn⟩ : ∃ cn : Nat, Hid (cnt (fun i => hasNm (nd xs i) name) (us.take t) = cn) := ⟨_, rfl⟩
      rw [hcn.out] at HY HN hcl ⊢
      go_wp2_with fail
      refine (hasName_any zk zt _ zb name _).mono ?_
      rintro e w2 ⟨rfl, hb2⟩
      have hb3 : Below w1.heap.size w1 w2 := hb.trans (hb2.mono hb.size)
      cases g : (isNamed zk && (zt.toList == name.toList)) with
      | false =>
        have HR1 := Lib.hid (HN.out g)
        go_wp2
        go_roundw
        case rel => exact ⟨t + 1, by omega, by go_num, int_eq (by rw [HR1.out]), hb3⟩
        case measure => simp [intOf]; omega
      | true =>
        have HR1 := Lib.hid (HY.out g)
        go_wp2
        go_roundw
        case rel => exact ⟨t + 1, by omega, by go_num, int_eq (by rw [HR1.out]; go_num), hb3⟩
        case measure => simp [intOf]; omega
    · have hti : ¬ (t : Int) < (us.length : Int) := by omega
      have HF : Hid (countN xs k name = ((cnt (fun i => hasNm (nd xs i) name) (us.take t) : Nat) : Int)) := by show _ = _; rw [HCN.out, List.take_of_length_le (by omega)]
      go_wp2
      go_ret
      exact ⟨ret_int HF.out.symm, hbW⟩
set_option maxHeartbeats 4000000 in
set_option maxRecDepth 100000 in
theorem countName_spec (xs : List Node) (v : Value) (lo hi : Nat) (k : Int) (name : ByteArray) (w : World) (hr : Rd nodeS lo hi w v xs) (hh : hi ≤ w.heap.size) (hs : ∀ x ∈ xs, x.text.size ≤ 4611686018427387904) (hl : xs.length ≤ 1048576) :
    Calls Tryz.prog 25 #[v, .int .i64 k, .string name] w fun e w' => e = .returned (.int .i64 (countN xs k name)) ∧ Below w.heap.size w w' := by
  have HCN : Hid (countN xs k name = ((cnt (fun i => hasNm (nd xs i) name) (underL xs k) : Nat) : Int)) := rfl
  have HMM := Lib.hid (fun x (h : x ∈ underL xs k) => underL_mem h)
  have HLE := Lib.hid (underL_le xs k)
  have HR := Lib.hid (fun w4 (h4 : Below w.heap.size w w4) => hr.below h4 hh)
  go_enter Tryz.func25, Tryz.ntmps25
  go_wp2_with fail
  refine (underOf_spec xs v lo hi k w hr hh hs hl).mono ?_
  rintro e w1 ⟨u, rfl, hb1, hO⟩
  have hs1 := hb1.size
  have hrd := hO.rd
  obtain ⟨oa, oc, rfl⟩ := hrd.sl
  have hrw := HR.out w1 hb1
  generalize underL xs k = us at *
  have hul : (us.length : Int) ≤ 9223372036854775807 := by have := HLE.out; omega
  go_wp2
  go_loop [7, 9] (fun n i => ∃ t : Nat, t ≤ us.length ∧ i = .int .i64 t ∧ n = .int .i64 (cnt (fun i => hasNm (nd xs i) name) (us.take t) : Nat)) (fun _ i => us.length - (intOf i).toNat)
  case atStart => exact ⟨0, Nat.zero_le _, rfl, rfl⟩
  case round =>
    obtain ⟨t, ht, rfl, rfl⟩ := hrel
    by_cases htl : t < us.length
    · obtain ⟨ub, uoff, rfl, _, _, uc0⟩ := hrd.intAt htl
      have hti : (t : Int) < (us.length : Int) := by omega
      have htz : (0 : Int) ≤ (t : Int) := by omega
      have hm := HMM.out _ (List.getElem_mem htl)
      have hge : us.getD t 0 = us[t] := by rw [List.getD_eq_getElem?_getD, List.getElem?_eq_getElem htl]; rfl
      rw [hge] at uc0
      have HY := Lib.hid (fun h => cnt_yes (p := fun i => hasNm (nd xs i) name) htl h)
      have HN := Lib.hid (fun h => cnt_no (p := fun i => hasNm (nd xs i) name) htl h)
      have hcl := cnt_le (fun i => hasNm (nd xs i) name) us t
      have hlen := HLE.out
      obtain ⟨y, hy⟩ : ∃ y : Nat, us[t] = (y : Int) := ⟨us[t].toNat, by omega⟩
      rw [hy] at uc0 hm HY HN
      have hyl : y < xs.length := by omega
      have hyi : (y : Int) < (xs.length : Int) := by omega
      have hyz : (0 : Int) ≤ (y : Int) := by omega
      obtain ⟨a, c, rfl⟩ := hr.sl
      obtain ⟨b, off, ya, yc, eb, _, _, q0, q1, q2, q3, _⟩ := rd_nodeAt hrw hyl
      subst eb
      have HX : Hid (nd xs (y : Int) = xs[y]) := nd_at hyl
      rw [HX.out] at HY HN
      clear hge hy hm
      generalize xs[y] = z at *
      obtain ⟨zk, zt, zs, zb⟩ := z
      simp only at q0 q1 q2 q3
      obtain ⟨cn, hcn⟩ : ∃ cn : Nat, Hid (cnt (fun i => hasNm (nd xs i) name) (us.take t) = cn) := ⟨_, rfl⟩
      rw [hcn.out] at HY HN hcl ⊢
      go_wp2_with fail
      refine (l22Named_any zk _).mono ?_
      rintro e w' ⟨rfl, hw⟩
      subst hw
      have HHN : Hid (hasNm ⟨zk, zt, zs, zb⟩ name = (isNamed zk && (zt.toList == name.toList))) := rfl
      cases g1 : isNamed zk with
      | false =>
        have HR1 := Lib.hid (HN.out (by rw [HHN.out, g1]; rfl))
        go_wp2
        go_round
        case rel => exact ⟨t + 1, by omega, by go_num, int_eq (by rw [HR1.out])⟩
        case measure => simp [intOf]; omega
      | true =>
        cases g2 : (zt.toList == name.toList) with
        | false =>
          have HR1 := Lib.hid (HN.out (by rw [HHN.out, g1, g2]; rfl))
          go_wp2
          go_round
          case rel => exact ⟨t + 1, by omega, by go_num, int_eq (by rw [HR1.out])⟩
          case measure => simp [intOf]; omega
        | true =>
          have HR1 := Lib.hid (HY.out (by rw [HHN.out, g1, g2]; rfl))
          go_wp2
          go_round
          case rel => exact ⟨t + 1, by omega, by go_num, int_eq (by rw [HR1.out]; go_num)⟩
          case measure => simp [intOf]; omega
    · have hti : ¬ (t : Int) < (us.length : Int) := by omega
      have HF : Hid (countN xs k name = ((cnt (fun i => hasNm (nd xs i) name) (us.take t) : Nat) : Int)) := by show _ = _; rw [HCN.out, List.take_of_length_le (by omega)]
      go_wp2
      go_ret
      exact ⟨ret_int HF.out.symm, hb1⟩
end Go.Proofs.YtoloplpmjcgbdaaGreatDoor
