/- What the reference asks of a node's text, of how many kids, of each kid. By mk_nodes3.py. -/
import Derived.Test.YtoloplpmjcgbdaaGreatDoorNodeS2
namespace Go.Proofs.YtoloplpmjcgbdaaGreatDoor
open Go.RowKit

theorem textOkS_name {k : Int} (s : ByteArray) (h : k = 1 ∨ k = 6 ∨ k = 12 ∨ k = 13 ∨ k = 20 ∨ k = 21) : textOk k s = isNm s := by unfold textOk; rw [if_pos h]
theorem textOkS_empty {k : Int} (s : ByteArray) (h : ¬ (k = 1 ∨ k = 6 ∨ k = 12 ∨ k = 13 ∨ k = 20 ∨ k = 21)) (h2 : k ≠ 2) (h3 : k ≠ 3) (h4 : k ≠ 19) (h5 : k ≠ 7) : textOk k s = s.toList.isEmpty := by
  unfold textOk; rw [if_neg h, if_neg h2, if_neg h3, if_neg h4, if_neg h5]
theorem eqfS {a b : Int} (h : a ≠ b) : (a == b) = false := beq_eq_false_iff_ne.2 h
set_option maxHeartbeats 4000000 in
set_option maxRecDepth 100000 in
theorem l05Text_any (kind : Int) (s : ByteArray) (w : World) (hs : s.size ≤ 4611686018427387904) :
    Calls Tryz.prog 80 #[.int .i64 kind, .string s] w fun e w' => e = .returned (.bool (textOk kind s)) ∧ w = w' := by
  by_cases hn : kind = 1 ∨ kind = 6 ∨ kind = 12 ∨ kind = 13 ∨ kind = 20 ∨ kind = 21
  · have HT := Lib.hid (textOkS_name s hn)
    rcases hn with rfl | rfl | rfl | rfl | rfl | rfl
    all_goals
      go_enter Tryz.func80, Tryz.ntmps80
      go_wp2_with fail
      refine (l05Name_any s _ hs).mono ?_
      rintro e w' ⟨rfl, rfl⟩
      go_wp2
      go_ret
      exact ⟨ret_bool HT.out.symm, rfl⟩
  have n1 := eqfS (a := kind) (b := 1) (fun h => hn (by rw [h]; simp))
  have n2 := eqfS (a := kind) (b := 6) (fun h => hn (by rw [h]; simp))
  have n3 := eqfS (a := kind) (b := 12) (fun h => hn (by rw [h]; simp))
  have n4 := eqfS (a := kind) (b := 13) (fun h => hn (by rw [h]; simp))
  have n5 := eqfS (a := kind) (b := 20) (fun h => hn (by rw [h]; simp))
  have n6 := eqfS (a := kind) (b := 21) (fun h => hn (by rw [h]; simp))
  by_cases h2 : kind = 2
  · subst h2
    clear n1 n2 n3 n4 n5 n6 hn
    go_enter Tryz.func80, Tryz.ntmps80
    go_wp2_with fail
    refine (l05Num_any s _ hs).mono ?_
    rintro e w' ⟨rfl, rfl⟩
    go_wp2
    go_ret
    exact ⟨rfl, rfl⟩
  by_cases h3 : kind = 3
  · subst h3
    clear n1 n2 n3 n4 n5 n6 hn
    go_enter Tryz.func80, Tryz.ntmps80
    go_wp2_with fail
    refine (l05Quoted_any s _ hs).mono ?_
    rintro e w' ⟨rfl, rfl⟩
    go_wp2
    go_ret
    exact ⟨rfl, rfl⟩
  by_cases h19 : kind = 19
  · subst h19
    clear n1 n2 n3 n4 n5 n6 hn
    go_enter Tryz.func80, Tryz.ntmps80
    go_wp2_with fail
    refine (l05Note_any s _ hs).mono ?_
    rintro e w' ⟨rfl, rfl⟩
    go_wp2
    go_ret
    exact ⟨rfl, rfl⟩
  by_cases h7 : kind = 7
  · subst h7
    clear n1 n2 n3 n4 n5 n6 hn
    go_enter Tryz.func80, Tryz.ntmps80
    go_wp2_with fail
    refine (l05Chain_any s _).mono ?_
    rintro e w' ⟨rfl, rfl⟩
    go_wp2
    go_ret
    exact ⟨rfl, rfl⟩
  have m1 := eqfS h2
  have m2 := eqfS h3
  have m3 := eqfS h19
  have m4 := eqfS h7
  have HT := Lib.hid (textOkS_empty s hn h2 h3 h19 h7)
  clear hn h2 h3 h19 h7
  go_enter Tryz.func80, Tryz.ntmps80
  go_wp2
  go_ret
  exact ⟨ret_bool HT.out.symm, rfl⟩
set_option maxHeartbeats 4000000 in
set_option maxRecDepth 100000 in
theorem l05Count_any (kind : Int) (w : World) (hk : 1 ≤ kind ∧ kind ≤ 22) :
    Calls Tryz.prog 79 #[.int .i64 kind] w fun e w' => e = .returned (.tuple #[.int .i64 (loK kind), .int .i64 (hiK kind)]) ∧ w = w' := by
  rcases kind_cases kind with rfl | rfl | rfl | rfl | rfl | rfl | rfl | rfl | rfl | rfl | rfl | rfl | rfl | rfl | rfl | rfl | rfl | rfl | rfl | rfl | rfl | rfl | h
  case inr.inr.inr.inr.inr.inr.inr.inr.inr.inr.inr.inr.inr.inr.inr.inr.inr.inr.inr.inr.inr.inr => exact absurd hk h
  all_goals
    go_enter Tryz.func79, Tryz.ntmps79
    go_wp2
    go_ret2
    exact ⟨rfl, rfl⟩
theorem al1 {w : World} {p : Addr} {v : Value} (h : w.cell? p = some v) (A : Obj) : (w.alloc A).cell? p = some v := (((Below.refl w.heap.size w).alloc (Nat.le_refl _) A).cell (World.block_lt_of_cell? w p h)).trans h
theorem al2 {w : World} {p : Addr} {v : Value} (h : w.cell? p = some v) (A B : Obj) : ((w.alloc A).alloc B).cell? p = some v := al1 (al1 h A) B
/-- what the reference asks of the kid at a place -/
def fitS (xs : List Node) (x : Node) (j : Nat) : Bool := fit1 x.kind x.kids.length j (nd xs (kd x j)).kind && (if x.kind = 10 ∧ 0 < j then (nd xs (kd (nd xs (kd x j)) 0)).kind == 1 else true)
theorem fitS_plain {xs : List Node} {x : Node} {j : Nat} (h : x.kind ≠ 10) : fitS xs x j = fit1 x.kind x.kids.length j (nd xs (kd x j)).kind := by unfold fitS; rw [if_neg (fun c => h c.1), Bool.and_true]
section
variable (xs : List Node) (v : Value) (lo hi : Nat) (m j : Nat) (w : World)
set_option maxHeartbeats 4000000 in
set_option maxRecDepth 100000 in
theorem fits_1 (hr : Rd nodeS lo hi w v xs) (_hh : hi ≤ w.heap.size) (hm : m < xs.length) (hj : j < xs[m].kids.length) (hb : 0 ≤ kd xs[m] j ∧ kd xs[m] j < xs.length) (hcall : callOk xs (nd xs (kd xs[m] j))) (hkind : xs[m].kind = 1) :
    Calls Tryz.prog 82 #[v, .int .i64 m, .int .i64 j] w fun e w' => e = .returned (.bool (fitS xs xs[m] j)) ∧ Below w.heap.size w w' := by
  obtain ⟨a, c, rfl, h2, h3, h4, h5⟩ := hr.nodeS
  unfold maxLen at h3
  obtain ⟨b, off, ka, kc, rfl, hlo, hhi, c0, c1, c2, c3, hrk⟩ := h5 m hm
  have hmi : (m : Int) < (xs.length : Int) := by omega
  have hmz : (0 : Int) ≤ (m : Int) := by omega
  obtain ⟨kb, koff, rfl, _, _, kc0⟩ := hrk.intAt hj
  obtain ⟨_, hkl, hkc⟩ := hrk.lenEq
  have HKD := Lib.hid (show kd xs[m] j = xs[m].kids.getD j 0 from rfl)
  have HFS := Lib.hid (show fitS xs xs[m] j = (fit1 xs[m].kind xs[m].kids.length j (nd xs (kd xs[m] j)).kind && (if xs[m].kind = 10 ∧ 0 < j then (nd xs (kd (nd xs (kd xs[m] j)) 0)).kind == 1 else true)) from rfl)
  rw [HKD.out] at hb hcall HFS
  obtain ⟨q, hq⟩ : ∃ q : Nat, xs[m].kids.getD j 0 = (q : Int) := ⟨(xs[m].kids.getD j 0).toNat, by omega⟩
  rw [hq] at hb hcall HFS kc0
  have hql : q < xs.length := by omega
  have hqi : (q : Int) < (xs.length : Int) := by omega
  have hqz : (0 : Int) ≤ (q : Int) := by omega
  obtain ⟨b', off', ya, yc, eb, _, hhy, q0, q1, q2, q3, hry⟩ := h5 q hql
  injection eb with eb
  injection eb with e1 e2
  subst e1; subst e2
  rw [nd_at hql] at hcall HFS
  have H5 : Hid (∀ (t : Nat) (ht : t < xs.length), w.cell? ⟨b, off + t * 4, none⟩ = some (.int .i64 xs[t].kind)) := by
    intro t ht
    obtain ⟨b2, off2, _, _, e, _, _, t0, _⟩ := h5 t ht
    injection e with e
    injection e with e1 e2
    subst e1; subst e2
    exact t0
  have kc1 := al1 kc0
  have y0 := al1 q0
  have y1 := al1 q1
  have y2 := al1 q2
  have y3 := al1 q3
  have hrr := Lib.hid hr
  have hj1 : (j : Int) < (xs[m].kids.length : Int) := by omega
  have hjz : (0 : Int) ≤ (j : Int) := by omega
  have hB2 : ∀ A B, Below w.heap.size w ((w.alloc A).alloc B) := fun A B => ((Below.refl _ _).alloc (Nat.le_refl _) A).alloc (by simp) B
  clear h5 kc0 q0 q1 q2 q3 hq HKD hr hrk
  generalize fitS xs xs[m] j = R at *
  generalize xs[q] = y at *
  generalize xs[m] = x at *
  obtain ⟨kind, text, kids, blank⟩ := x
  obtain ⟨yk, yt, ys, yb⟩ := y
  simp only at hkind
  subst hkind
  simp only at c0 c1 c2 c3 y0 y1 y2 y3 hj hj1 hkl hry HFS hcall
  have HF : Hid (R = isVal yk) := by show R = _; rw [HFS.out, Bool.and_comm]; simp [fit1]
  go_enter Tryz.func82, Tryz.ntmps82
  go_wp2_with fail
  refine (l05Value_any _ _).mono ?_
  rintro e w' ⟨rfl, hw⟩
  subst hw
  go_wp2
  go_ret
  exact ⟨ret_bool HF.out.symm, hB2 _ _⟩
set_option maxHeartbeats 4000000 in
set_option maxRecDepth 100000 in
theorem fits_2 (hr : Rd nodeS lo hi w v xs) (_hh : hi ≤ w.heap.size) (hm : m < xs.length) (hj : j < xs[m].kids.length) (hb : 0 ≤ kd xs[m] j ∧ kd xs[m] j < xs.length) (hcall : callOk xs (nd xs (kd xs[m] j))) (hkind : xs[m].kind = 2) :
    Calls Tryz.prog 82 #[v, .int .i64 m, .int .i64 j] w fun e w' => e = .returned (.bool (fitS xs xs[m] j)) ∧ Below w.heap.size w w' := by
  obtain ⟨a, c, rfl, h2, h3, h4, h5⟩ := hr.nodeS
  unfold maxLen at h3
  obtain ⟨b, off, ka, kc, rfl, hlo, hhi, c0, c1, c2, c3, hrk⟩ := h5 m hm
  have hmi : (m : Int) < (xs.length : Int) := by omega
  have hmz : (0 : Int) ≤ (m : Int) := by omega
  obtain ⟨kb, koff, rfl, _, _, kc0⟩ := hrk.intAt hj
  obtain ⟨_, hkl, hkc⟩ := hrk.lenEq
  have HKD := Lib.hid (show kd xs[m] j = xs[m].kids.getD j 0 from rfl)
  have HFS := Lib.hid (show fitS xs xs[m] j = (fit1 xs[m].kind xs[m].kids.length j (nd xs (kd xs[m] j)).kind && (if xs[m].kind = 10 ∧ 0 < j then (nd xs (kd (nd xs (kd xs[m] j)) 0)).kind == 1 else true)) from rfl)
  rw [HKD.out] at hb hcall HFS
  obtain ⟨q, hq⟩ : ∃ q : Nat, xs[m].kids.getD j 0 = (q : Int) := ⟨(xs[m].kids.getD j 0).toNat, by omega⟩
  rw [hq] at hb hcall HFS kc0
  have hql : q < xs.length := by omega
  have hqi : (q : Int) < (xs.length : Int) := by omega
  have hqz : (0 : Int) ≤ (q : Int) := by omega
  obtain ⟨b', off', ya, yc, eb, _, hhy, q0, q1, q2, q3, hry⟩ := h5 q hql
  injection eb with eb
  injection eb with e1 e2
  subst e1; subst e2
  rw [nd_at hql] at hcall HFS
  have H5 : Hid (∀ (t : Nat) (ht : t < xs.length), w.cell? ⟨b, off + t * 4, none⟩ = some (.int .i64 xs[t].kind)) := by
    intro t ht
    obtain ⟨b2, off2, _, _, e, _, _, t0, _⟩ := h5 t ht
    injection e with e
    injection e with e1 e2
    subst e1; subst e2
    exact t0
  have kc1 := al1 kc0
  have y0 := al1 q0
  have y1 := al1 q1
  have y2 := al1 q2
  have y3 := al1 q3
  have hrr := Lib.hid hr
  have hj1 : (j : Int) < (xs[m].kids.length : Int) := by omega
  have hjz : (0 : Int) ≤ (j : Int) := by omega
  have hB2 : ∀ A B, Below w.heap.size w ((w.alloc A).alloc B) := fun A B => ((Below.refl _ _).alloc (Nat.le_refl _) A).alloc (by simp) B
  clear h5 kc0 q0 q1 q2 q3 hq HKD hr hrk
  generalize fitS xs xs[m] j = R at *
  generalize xs[q] = y at *
  generalize xs[m] = x at *
  obtain ⟨kind, text, kids, blank⟩ := x
  obtain ⟨yk, yt, ys, yb⟩ := y
  simp only at hkind
  subst hkind
  simp only at c0 c1 c2 c3 y0 y1 y2 y3 hj hj1 hkl hry HFS hcall
  have HF : Hid (R = isVal yk) := by show R = _; rw [HFS.out, Bool.and_comm]; simp [fit1]
  go_enter Tryz.func82, Tryz.ntmps82
  go_wp2_with fail
  refine (l05Value_any _ _).mono ?_
  rintro e w' ⟨rfl, hw⟩
  subst hw
  go_wp2
  go_ret
  exact ⟨ret_bool HF.out.symm, hB2 _ _⟩
set_option maxHeartbeats 4000000 in
set_option maxRecDepth 100000 in
theorem fits_3 (hr : Rd nodeS lo hi w v xs) (_hh : hi ≤ w.heap.size) (hm : m < xs.length) (hj : j < xs[m].kids.length) (hb : 0 ≤ kd xs[m] j ∧ kd xs[m] j < xs.length) (hcall : callOk xs (nd xs (kd xs[m] j))) (hkind : xs[m].kind = 3) :
    Calls Tryz.prog 82 #[v, .int .i64 m, .int .i64 j] w fun e w' => e = .returned (.bool (fitS xs xs[m] j)) ∧ Below w.heap.size w w' := by
  obtain ⟨a, c, rfl, h2, h3, h4, h5⟩ := hr.nodeS
  unfold maxLen at h3
  obtain ⟨b, off, ka, kc, rfl, hlo, hhi, c0, c1, c2, c3, hrk⟩ := h5 m hm
  have hmi : (m : Int) < (xs.length : Int) := by omega
  have hmz : (0 : Int) ≤ (m : Int) := by omega
  obtain ⟨kb, koff, rfl, _, _, kc0⟩ := hrk.intAt hj
  obtain ⟨_, hkl, hkc⟩ := hrk.lenEq
  have HKD := Lib.hid (show kd xs[m] j = xs[m].kids.getD j 0 from rfl)
  have HFS := Lib.hid (show fitS xs xs[m] j = (fit1 xs[m].kind xs[m].kids.length j (nd xs (kd xs[m] j)).kind && (if xs[m].kind = 10 ∧ 0 < j then (nd xs (kd (nd xs (kd xs[m] j)) 0)).kind == 1 else true)) from rfl)
  rw [HKD.out] at hb hcall HFS
  obtain ⟨q, hq⟩ : ∃ q : Nat, xs[m].kids.getD j 0 = (q : Int) := ⟨(xs[m].kids.getD j 0).toNat, by omega⟩
  rw [hq] at hb hcall HFS kc0
  have hql : q < xs.length := by omega
  have hqi : (q : Int) < (xs.length : Int) := by omega
  have hqz : (0 : Int) ≤ (q : Int) := by omega
  obtain ⟨b', off', ya, yc, eb, _, hhy, q0, q1, q2, q3, hry⟩ := h5 q hql
  injection eb with eb
  injection eb with e1 e2
  subst e1; subst e2
  rw [nd_at hql] at hcall HFS
  have H5 : Hid (∀ (t : Nat) (ht : t < xs.length), w.cell? ⟨b, off + t * 4, none⟩ = some (.int .i64 xs[t].kind)) := by
    intro t ht
    obtain ⟨b2, off2, _, _, e, _, _, t0, _⟩ := h5 t ht
    injection e with e
    injection e with e1 e2
    subst e1; subst e2
    exact t0
  have kc1 := al1 kc0
  have y0 := al1 q0
  have y1 := al1 q1
  have y2 := al1 q2
  have y3 := al1 q3
  have hrr := Lib.hid hr
  have hj1 : (j : Int) < (xs[m].kids.length : Int) := by omega
  have hjz : (0 : Int) ≤ (j : Int) := by omega
  have hB2 : ∀ A B, Below w.heap.size w ((w.alloc A).alloc B) := fun A B => ((Below.refl _ _).alloc (Nat.le_refl _) A).alloc (by simp) B
  clear h5 kc0 q0 q1 q2 q3 hq HKD hr hrk
  generalize fitS xs xs[m] j = R at *
  generalize xs[q] = y at *
  generalize xs[m] = x at *
  obtain ⟨kind, text, kids, blank⟩ := x
  obtain ⟨yk, yt, ys, yb⟩ := y
  simp only at hkind
  subst hkind
  simp only at c0 c1 c2 c3 y0 y1 y2 y3 hj hj1 hkl hry HFS hcall
  have HF : Hid (R = isVal yk) := by show R = _; rw [HFS.out, Bool.and_comm]; simp [fit1]
  go_enter Tryz.func82, Tryz.ntmps82
  go_wp2_with fail
  refine (l05Value_any _ _).mono ?_
  rintro e w' ⟨rfl, hw⟩
  subst hw
  go_wp2
  go_ret
  exact ⟨ret_bool HF.out.symm, hB2 _ _⟩
set_option maxHeartbeats 4000000 in
set_option maxRecDepth 100000 in
theorem fits_4 (hr : Rd nodeS lo hi w v xs) (_hh : hi ≤ w.heap.size) (hm : m < xs.length) (hj : j < xs[m].kids.length) (hb : 0 ≤ kd xs[m] j ∧ kd xs[m] j < xs.length) (hcall : callOk xs (nd xs (kd xs[m] j))) (hkind : xs[m].kind = 4) :
    Calls Tryz.prog 82 #[v, .int .i64 m, .int .i64 j] w fun e w' => e = .returned (.bool (fitS xs xs[m] j)) ∧ Below w.heap.size w w' := by
  obtain ⟨a, c, rfl, h2, h3, h4, h5⟩ := hr.nodeS
  unfold maxLen at h3
  obtain ⟨b, off, ka, kc, rfl, hlo, hhi, c0, c1, c2, c3, hrk⟩ := h5 m hm
  have hmi : (m : Int) < (xs.length : Int) := by omega
  have hmz : (0 : Int) ≤ (m : Int) := by omega
  obtain ⟨kb, koff, rfl, _, _, kc0⟩ := hrk.intAt hj
  obtain ⟨_, hkl, hkc⟩ := hrk.lenEq
  have HKD := Lib.hid (show kd xs[m] j = xs[m].kids.getD j 0 from rfl)
  have HFS := Lib.hid (show fitS xs xs[m] j = (fit1 xs[m].kind xs[m].kids.length j (nd xs (kd xs[m] j)).kind && (if xs[m].kind = 10 ∧ 0 < j then (nd xs (kd (nd xs (kd xs[m] j)) 0)).kind == 1 else true)) from rfl)
  rw [HKD.out] at hb hcall HFS
  obtain ⟨q, hq⟩ : ∃ q : Nat, xs[m].kids.getD j 0 = (q : Int) := ⟨(xs[m].kids.getD j 0).toNat, by omega⟩
  rw [hq] at hb hcall HFS kc0
  have hql : q < xs.length := by omega
  have hqi : (q : Int) < (xs.length : Int) := by omega
  have hqz : (0 : Int) ≤ (q : Int) := by omega
  obtain ⟨b', off', ya, yc, eb, _, hhy, q0, q1, q2, q3, hry⟩ := h5 q hql
  injection eb with eb
  injection eb with e1 e2
  subst e1; subst e2
  rw [nd_at hql] at hcall HFS
  have H5 : Hid (∀ (t : Nat) (ht : t < xs.length), w.cell? ⟨b, off + t * 4, none⟩ = some (.int .i64 xs[t].kind)) := by
    intro t ht
    obtain ⟨b2, off2, _, _, e, _, _, t0, _⟩ := h5 t ht
    injection e with e
    injection e with e1 e2
    subst e1; subst e2
    exact t0
  have kc1 := al1 kc0
  have y0 := al1 q0
  have y1 := al1 q1
  have y2 := al1 q2
  have y3 := al1 q3
  have hrr := Lib.hid hr
  have hj1 : (j : Int) < (xs[m].kids.length : Int) := by omega
  have hjz : (0 : Int) ≤ (j : Int) := by omega
  have hB2 : ∀ A B, Below w.heap.size w ((w.alloc A).alloc B) := fun A B => ((Below.refl _ _).alloc (Nat.le_refl _) A).alloc (by simp) B
  clear h5 kc0 q0 q1 q2 q3 hq HKD hr hrk
  generalize fitS xs xs[m] j = R at *
  generalize xs[q] = y at *
  generalize xs[m] = x at *
  obtain ⟨kind, text, kids, blank⟩ := x
  obtain ⟨yk, yt, ys, yb⟩ := y
  simp only at hkind
  subst hkind
  simp only at c0 c1 c2 c3 y0 y1 y2 y3 hj hj1 hkl hry HFS hcall
  have HF : Hid (R = isVal yk) := by show R = _; rw [HFS.out, Bool.and_comm]; simp [fit1]
  go_enter Tryz.func82, Tryz.ntmps82
  go_wp2_with fail
  refine (l05Value_any _ _).mono ?_
  rintro e w' ⟨rfl, hw⟩
  subst hw
  go_wp2
  go_ret
  exact ⟨ret_bool HF.out.symm, hB2 _ _⟩
set_option maxHeartbeats 4000000 in
set_option maxRecDepth 100000 in
theorem fits_5 (hr : Rd nodeS lo hi w v xs) (_hh : hi ≤ w.heap.size) (hm : m < xs.length) (hj : j < xs[m].kids.length) (hb : 0 ≤ kd xs[m] j ∧ kd xs[m] j < xs.length) (hcall : callOk xs (nd xs (kd xs[m] j))) (hkind : xs[m].kind = 5) :
    Calls Tryz.prog 82 #[v, .int .i64 m, .int .i64 j] w fun e w' => e = .returned (.bool (fitS xs xs[m] j)) ∧ Below w.heap.size w w' := by
  obtain ⟨a, c, rfl, h2, h3, h4, h5⟩ := hr.nodeS
  unfold maxLen at h3
  obtain ⟨b, off, ka, kc, rfl, hlo, hhi, c0, c1, c2, c3, hrk⟩ := h5 m hm
  have hmi : (m : Int) < (xs.length : Int) := by omega
  have hmz : (0 : Int) ≤ (m : Int) := by omega
  obtain ⟨kb, koff, rfl, _, _, kc0⟩ := hrk.intAt hj
  obtain ⟨_, hkl, hkc⟩ := hrk.lenEq
  have HKD := Lib.hid (show kd xs[m] j = xs[m].kids.getD j 0 from rfl)
  have HFS := Lib.hid (show fitS xs xs[m] j = (fit1 xs[m].kind xs[m].kids.length j (nd xs (kd xs[m] j)).kind && (if xs[m].kind = 10 ∧ 0 < j then (nd xs (kd (nd xs (kd xs[m] j)) 0)).kind == 1 else true)) from rfl)
  rw [HKD.out] at hb hcall HFS
  obtain ⟨q, hq⟩ : ∃ q : Nat, xs[m].kids.getD j 0 = (q : Int) := ⟨(xs[m].kids.getD j 0).toNat, by omega⟩
  rw [hq] at hb hcall HFS kc0
  have hql : q < xs.length := by omega
  have hqi : (q : Int) < (xs.length : Int) := by omega
  have hqz : (0 : Int) ≤ (q : Int) := by omega
  obtain ⟨b', off', ya, yc, eb, _, hhy, q0, q1, q2, q3, hry⟩ := h5 q hql
  injection eb with eb
  injection eb with e1 e2
  subst e1; subst e2
  rw [nd_at hql] at hcall HFS
  have H5 : Hid (∀ (t : Nat) (ht : t < xs.length), w.cell? ⟨b, off + t * 4, none⟩ = some (.int .i64 xs[t].kind)) := by
    intro t ht
    obtain ⟨b2, off2, _, _, e, _, _, t0, _⟩ := h5 t ht
    injection e with e
    injection e with e1 e2
    subst e1; subst e2
    exact t0
  have kc1 := al1 kc0
  have y0 := al1 q0
  have y1 := al1 q1
  have y2 := al1 q2
  have y3 := al1 q3
  have hrr := Lib.hid hr
  have hj1 : (j : Int) < (xs[m].kids.length : Int) := by omega
  have hjz : (0 : Int) ≤ (j : Int) := by omega
  have hB2 : ∀ A B, Below w.heap.size w ((w.alloc A).alloc B) := fun A B => ((Below.refl _ _).alloc (Nat.le_refl _) A).alloc (by simp) B
  clear h5 kc0 q0 q1 q2 q3 hq HKD hr hrk
  generalize fitS xs xs[m] j = R at *
  generalize xs[q] = y at *
  generalize xs[m] = x at *
  obtain ⟨kind, text, kids, blank⟩ := x
  obtain ⟨yk, yt, ys, yb⟩ := y
  simp only at hkind
  subst hkind
  simp only at c0 c1 c2 c3 y0 y1 y2 y3 hj hj1 hkl hry HFS hcall
  have HF : Hid (R = isVal yk) := by show R = _; rw [HFS.out, Bool.and_comm]; simp [fit1]
  go_enter Tryz.func82, Tryz.ntmps82
  go_wp2_with fail
  refine (l05Value_any _ _).mono ?_
  rintro e w' ⟨rfl, hw⟩
  subst hw
  go_wp2
  go_ret
  exact ⟨ret_bool HF.out.symm, hB2 _ _⟩
set_option maxHeartbeats 4000000 in
set_option maxRecDepth 100000 in
theorem fits_6 (hr : Rd nodeS lo hi w v xs) (_hh : hi ≤ w.heap.size) (hm : m < xs.length) (hj : j < xs[m].kids.length) (hb : 0 ≤ kd xs[m] j ∧ kd xs[m] j < xs.length) (hcall : callOk xs (nd xs (kd xs[m] j))) (hkind : xs[m].kind = 6) :
    Calls Tryz.prog 82 #[v, .int .i64 m, .int .i64 j] w fun e w' => e = .returned (.bool (fitS xs xs[m] j)) ∧ Below w.heap.size w w' := by
  obtain ⟨a, c, rfl, h2, h3, h4, h5⟩ := hr.nodeS
  unfold maxLen at h3
  obtain ⟨b, off, ka, kc, rfl, hlo, hhi, c0, c1, c2, c3, hrk⟩ := h5 m hm
  have hmi : (m : Int) < (xs.length : Int) := by omega
  have hmz : (0 : Int) ≤ (m : Int) := by omega
  obtain ⟨kb, koff, rfl, _, _, kc0⟩ := hrk.intAt hj
  obtain ⟨_, hkl, hkc⟩ := hrk.lenEq
  have HKD := Lib.hid (show kd xs[m] j = xs[m].kids.getD j 0 from rfl)
  have HFS := Lib.hid (show fitS xs xs[m] j = (fit1 xs[m].kind xs[m].kids.length j (nd xs (kd xs[m] j)).kind && (if xs[m].kind = 10 ∧ 0 < j then (nd xs (kd (nd xs (kd xs[m] j)) 0)).kind == 1 else true)) from rfl)
  rw [HKD.out] at hb hcall HFS
  obtain ⟨q, hq⟩ : ∃ q : Nat, xs[m].kids.getD j 0 = (q : Int) := ⟨(xs[m].kids.getD j 0).toNat, by omega⟩
  rw [hq] at hb hcall HFS kc0
  have hql : q < xs.length := by omega
  have hqi : (q : Int) < (xs.length : Int) := by omega
  have hqz : (0 : Int) ≤ (q : Int) := by omega
  obtain ⟨b', off', ya, yc, eb, _, hhy, q0, q1, q2, q3, hry⟩ := h5 q hql
  injection eb with eb
  injection eb with e1 e2
  subst e1; subst e2
  rw [nd_at hql] at hcall HFS
  have H5 : Hid (∀ (t : Nat) (ht : t < xs.length), w.cell? ⟨b, off + t * 4, none⟩ = some (.int .i64 xs[t].kind)) := by
    intro t ht
    obtain ⟨b2, off2, _, _, e, _, _, t0, _⟩ := h5 t ht
    injection e with e
    injection e with e1 e2
    subst e1; subst e2
    exact t0
  have kc1 := al1 kc0
  have y0 := al1 q0
  have y1 := al1 q1
  have y2 := al1 q2
  have y3 := al1 q3
  have hrr := Lib.hid hr
  have hj1 : (j : Int) < (xs[m].kids.length : Int) := by omega
  have hjz : (0 : Int) ≤ (j : Int) := by omega
  have hB2 : ∀ A B, Below w.heap.size w ((w.alloc A).alloc B) := fun A B => ((Below.refl _ _).alloc (Nat.le_refl _) A).alloc (by simp) B
  clear h5 kc0 q0 q1 q2 q3 hq HKD hr hrk
  generalize fitS xs xs[m] j = R at *
  generalize xs[q] = y at *
  generalize xs[m] = x at *
  obtain ⟨kind, text, kids, blank⟩ := x
  obtain ⟨yk, yt, ys, yb⟩ := y
  simp only at hkind
  subst hkind
  simp only at c0 c1 c2 c3 y0 y1 y2 y3 hj hj1 hkl hry HFS hcall
  have HF : Hid (R = isVal yk) := by show R = _; rw [HFS.out, Bool.and_comm]; simp [fit1]
  go_enter Tryz.func82, Tryz.ntmps82
  go_wp2_with fail
  refine (l05Value_any _ _).mono ?_
  rintro e w' ⟨rfl, hw⟩
  subst hw
  go_wp2
  go_ret
  exact ⟨ret_bool HF.out.symm, hB2 _ _⟩
set_option maxHeartbeats 4000000 in
set_option maxRecDepth 100000 in
theorem fits_7 (hr : Rd nodeS lo hi w v xs) (_hh : hi ≤ w.heap.size) (hm : m < xs.length) (hj : j < xs[m].kids.length) (hb : 0 ≤ kd xs[m] j ∧ kd xs[m] j < xs.length) (hcall : callOk xs (nd xs (kd xs[m] j))) (hkind : xs[m].kind = 7) :
    Calls Tryz.prog 82 #[v, .int .i64 m, .int .i64 j] w fun e w' => e = .returned (.bool (fitS xs xs[m] j)) ∧ Below w.heap.size w w' := by
  obtain ⟨a, c, rfl, h2, h3, h4, h5⟩ := hr.nodeS
  unfold maxLen at h3
  obtain ⟨b, off, ka, kc, rfl, hlo, hhi, c0, c1, c2, c3, hrk⟩ := h5 m hm
  have hmi : (m : Int) < (xs.length : Int) := by omega
  have hmz : (0 : Int) ≤ (m : Int) := by omega
  obtain ⟨kb, koff, rfl, _, _, kc0⟩ := hrk.intAt hj
  obtain ⟨_, hkl, hkc⟩ := hrk.lenEq
  have HKD := Lib.hid (show kd xs[m] j = xs[m].kids.getD j 0 from rfl)
  have HFS := Lib.hid (show fitS xs xs[m] j = (fit1 xs[m].kind xs[m].kids.length j (nd xs (kd xs[m] j)).kind && (if xs[m].kind = 10 ∧ 0 < j then (nd xs (kd (nd xs (kd xs[m] j)) 0)).kind == 1 else true)) from rfl)
  rw [HKD.out] at hb hcall HFS
  obtain ⟨q, hq⟩ : ∃ q : Nat, xs[m].kids.getD j 0 = (q : Int) := ⟨(xs[m].kids.getD j 0).toNat, by omega⟩
  rw [hq] at hb hcall HFS kc0
  have hql : q < xs.length := by omega
  have hqi : (q : Int) < (xs.length : Int) := by omega
  have hqz : (0 : Int) ≤ (q : Int) := by omega
  obtain ⟨b', off', ya, yc, eb, _, hhy, q0, q1, q2, q3, hry⟩ := h5 q hql
  injection eb with eb
  injection eb with e1 e2
  subst e1; subst e2
  rw [nd_at hql] at hcall HFS
  have H5 : Hid (∀ (t : Nat) (ht : t < xs.length), w.cell? ⟨b, off + t * 4, none⟩ = some (.int .i64 xs[t].kind)) := by
    intro t ht
    obtain ⟨b2, off2, _, _, e, _, _, t0, _⟩ := h5 t ht
    injection e with e
    injection e with e1 e2
    subst e1; subst e2
    exact t0
  have kc1 := al1 kc0
  have y0 := al1 q0
  have y1 := al1 q1
  have y2 := al1 q2
  have y3 := al1 q3
  have hrr := Lib.hid hr
  have hj1 : (j : Int) < (xs[m].kids.length : Int) := by omega
  have hjz : (0 : Int) ≤ (j : Int) := by omega
  have hB2 : ∀ A B, Below w.heap.size w ((w.alloc A).alloc B) := fun A B => ((Below.refl _ _).alloc (Nat.le_refl _) A).alloc (by simp) B
  clear h5 kc0 q0 q1 q2 q3 hq HKD hr hrk
  generalize fitS xs xs[m] j = R at *
  generalize xs[q] = y at *
  generalize xs[m] = x at *
  obtain ⟨kind, text, kids, blank⟩ := x
  obtain ⟨yk, yt, ys, yb⟩ := y
  simp only at hkind
  subst hkind
  simp only at c0 c1 c2 c3 y0 y1 y2 y3 hj hj1 hkl hry HFS hcall
  have HF : Hid (R = isVal yk) := by show R = _; rw [HFS.out, Bool.and_comm]; simp [fit1]
  go_enter Tryz.func82, Tryz.ntmps82
  go_wp2_with fail
  refine (l05Value_any _ _).mono ?_
  rintro e w' ⟨rfl, hw⟩
  subst hw
  go_wp2
  go_ret
  exact ⟨ret_bool HF.out.symm, hB2 _ _⟩
set_option maxHeartbeats 4000000 in
set_option maxRecDepth 100000 in
theorem fits_8 (hr : Rd nodeS lo hi w v xs) (_hh : hi ≤ w.heap.size) (hm : m < xs.length) (hj : j < xs[m].kids.length) (hb : 0 ≤ kd xs[m] j ∧ kd xs[m] j < xs.length) (hcall : callOk xs (nd xs (kd xs[m] j))) (hkind : xs[m].kind = 8) :
    Calls Tryz.prog 82 #[v, .int .i64 m, .int .i64 j] w fun e w' => e = .returned (.bool (fitS xs xs[m] j)) ∧ Below w.heap.size w w' := by
  obtain ⟨a, c, rfl, h2, h3, h4, h5⟩ := hr.nodeS
  unfold maxLen at h3
  obtain ⟨b, off, ka, kc, rfl, hlo, hhi, c0, c1, c2, c3, hrk⟩ := h5 m hm
  have hmi : (m : Int) < (xs.length : Int) := by omega
  have hmz : (0 : Int) ≤ (m : Int) := by omega
  obtain ⟨kb, koff, rfl, _, _, kc0⟩ := hrk.intAt hj
  obtain ⟨_, hkl, hkc⟩ := hrk.lenEq
  have HKD := Lib.hid (show kd xs[m] j = xs[m].kids.getD j 0 from rfl)
  have HFS := Lib.hid (show fitS xs xs[m] j = (fit1 xs[m].kind xs[m].kids.length j (nd xs (kd xs[m] j)).kind && (if xs[m].kind = 10 ∧ 0 < j then (nd xs (kd (nd xs (kd xs[m] j)) 0)).kind == 1 else true)) from rfl)
  rw [HKD.out] at hb hcall HFS
  obtain ⟨q, hq⟩ : ∃ q : Nat, xs[m].kids.getD j 0 = (q : Int) := ⟨(xs[m].kids.getD j 0).toNat, by omega⟩
  rw [hq] at hb hcall HFS kc0
  have hql : q < xs.length := by omega
  have hqi : (q : Int) < (xs.length : Int) := by omega
  have hqz : (0 : Int) ≤ (q : Int) := by omega
  obtain ⟨b', off', ya, yc, eb, _, hhy, q0, q1, q2, q3, hry⟩ := h5 q hql
  injection eb with eb
  injection eb with e1 e2
  subst e1; subst e2
  rw [nd_at hql] at hcall HFS
  have H5 : Hid (∀ (t : Nat) (ht : t < xs.length), w.cell? ⟨b, off + t * 4, none⟩ = some (.int .i64 xs[t].kind)) := by
    intro t ht
    obtain ⟨b2, off2, _, _, e, _, _, t0, _⟩ := h5 t ht
    injection e with e
    injection e with e1 e2
    subst e1; subst e2
    exact t0
  have kc1 := al1 kc0
  have y0 := al1 q0
  have y1 := al1 q1
  have y2 := al1 q2
  have y3 := al1 q3
  have hrr := Lib.hid hr
  have hj1 : (j : Int) < (xs[m].kids.length : Int) := by omega
  have hjz : (0 : Int) ≤ (j : Int) := by omega
  have hB2 : ∀ A B, Below w.heap.size w ((w.alloc A).alloc B) := fun A B => ((Below.refl _ _).alloc (Nat.le_refl _) A).alloc (by simp) B
  clear h5 kc0 q0 q1 q2 q3 hq HKD hr hrk
  generalize fitS xs xs[m] j = R at *
  generalize xs[q] = y at *
  generalize xs[m] = x at *
  obtain ⟨kind, text, kids, blank⟩ := x
  obtain ⟨yk, yt, ys, yb⟩ := y
  simp only at hkind
  subst hkind
  simp only at c0 c1 c2 c3 y0 y1 y2 y3 hj hj1 hkl hry HFS hcall
  have HF : Hid (R = isVal yk) := by show R = _; rw [HFS.out, Bool.and_comm]; simp [fit1]
  go_enter Tryz.func82, Tryz.ntmps82
  go_wp2_with fail
  refine (l05Value_any _ _).mono ?_
  rintro e w' ⟨rfl, hw⟩
  subst hw
  go_wp2
  go_ret
  exact ⟨ret_bool HF.out.symm, hB2 _ _⟩
set_option maxHeartbeats 4000000 in
set_option maxRecDepth 100000 in
theorem fits_9 (hr : Rd nodeS lo hi w v xs) (_hh : hi ≤ w.heap.size) (hm : m < xs.length) (hj : j < xs[m].kids.length) (hb : 0 ≤ kd xs[m] j ∧ kd xs[m] j < xs.length) (hcall : callOk xs (nd xs (kd xs[m] j))) (hkind : xs[m].kind = 9) :
    Calls Tryz.prog 82 #[v, .int .i64 m, .int .i64 j] w fun e w' => e = .returned (.bool (fitS xs xs[m] j)) ∧ Below w.heap.size w w' := by
  obtain ⟨a, c, rfl, h2, h3, h4, h5⟩ := hr.nodeS
  unfold maxLen at h3
  obtain ⟨b, off, ka, kc, rfl, hlo, hhi, c0, c1, c2, c3, hrk⟩ := h5 m hm
  have hmi : (m : Int) < (xs.length : Int) := by omega
  have hmz : (0 : Int) ≤ (m : Int) := by omega
  obtain ⟨kb, koff, rfl, _, _, kc0⟩ := hrk.intAt hj
  obtain ⟨_, hkl, hkc⟩ := hrk.lenEq
  have HKD := Lib.hid (show kd xs[m] j = xs[m].kids.getD j 0 from rfl)
  have HFS := Lib.hid (show fitS xs xs[m] j = (fit1 xs[m].kind xs[m].kids.length j (nd xs (kd xs[m] j)).kind && (if xs[m].kind = 10 ∧ 0 < j then (nd xs (kd (nd xs (kd xs[m] j)) 0)).kind == 1 else true)) from rfl)
  rw [HKD.out] at hb hcall HFS
  obtain ⟨q, hq⟩ : ∃ q : Nat, xs[m].kids.getD j 0 = (q : Int) := ⟨(xs[m].kids.getD j 0).toNat, by omega⟩
  rw [hq] at hb hcall HFS kc0
  have hql : q < xs.length := by omega
  have hqi : (q : Int) < (xs.length : Int) := by omega
  have hqz : (0 : Int) ≤ (q : Int) := by omega
  obtain ⟨b', off', ya, yc, eb, _, hhy, q0, q1, q2, q3, hry⟩ := h5 q hql
  injection eb with eb
  injection eb with e1 e2
  subst e1; subst e2
  rw [nd_at hql] at hcall HFS
  have H5 : Hid (∀ (t : Nat) (ht : t < xs.length), w.cell? ⟨b, off + t * 4, none⟩ = some (.int .i64 xs[t].kind)) := by
    intro t ht
    obtain ⟨b2, off2, _, _, e, _, _, t0, _⟩ := h5 t ht
    injection e with e
    injection e with e1 e2
    subst e1; subst e2
    exact t0
  have kc1 := al1 kc0
  have y0 := al1 q0
  have y1 := al1 q1
  have y2 := al1 q2
  have y3 := al1 q3
  have hrr := Lib.hid hr
  have hj1 : (j : Int) < (xs[m].kids.length : Int) := by omega
  have hjz : (0 : Int) ≤ (j : Int) := by omega
  have hB2 : ∀ A B, Below w.heap.size w ((w.alloc A).alloc B) := fun A B => ((Below.refl _ _).alloc (Nat.le_refl _) A).alloc (by simp) B
  clear h5 kc0 q0 q1 q2 q3 hq HKD hr hrk
  generalize fitS xs xs[m] j = R at *
  generalize xs[q] = y at *
  generalize xs[m] = x at *
  obtain ⟨kind, text, kids, blank⟩ := x
  obtain ⟨yk, yt, ys, yb⟩ := y
  simp only at hkind
  subst hkind
  simp only at c0 c1 c2 c3 y0 y1 y2 y3 hj hj1 hkl hry HFS hcall
  by_cases hc : j + 1 < kids.length
  · have hci : (j : Int) + 1 < (kids.length : Int) := by omega
    have HF : Hid (R = (yk == 1)) := by show R = _; rw [HFS.out, Bool.and_comm]; simp [fit1, hc]
    clear hc
    go_enter Tryz.func82, Tryz.ntmps82
    go_wp2
    go_ret
    exact ⟨ret_bool HF.out.symm, hB2 _ _⟩
  · have hci : ¬ (j : Int) + 1 < (kids.length : Int) := by omega
    have HF : Hid (R = isVal yk) := by show R = _; rw [HFS.out, Bool.and_comm]; simp [fit1, hc]
    clear hc
    go_enter Tryz.func82, Tryz.ntmps82
    go_wp2_with fail
    refine (l05Value_any _ _).mono ?_
    rintro e w' ⟨rfl, hw⟩
    subst hw
    go_wp2
    go_ret
    exact ⟨ret_bool HF.out.symm, hB2 _ _⟩
set_option maxHeartbeats 4000000 in
set_option maxRecDepth 100000 in
theorem fits_10 (hr : Rd nodeS lo hi w v xs) (_hh : hi ≤ w.heap.size) (hm : m < xs.length) (hj : j < xs[m].kids.length) (hb : 0 ≤ kd xs[m] j ∧ kd xs[m] j < xs.length) (hcall : callOk xs (nd xs (kd xs[m] j))) (hkind : xs[m].kind = 10) :
    Calls Tryz.prog 82 #[v, .int .i64 m, .int .i64 j] w fun e w' => e = .returned (.bool (fitS xs xs[m] j)) ∧ Below w.heap.size w w' := by
  obtain ⟨a, c, rfl, h2, h3, h4, h5⟩ := hr.nodeS
  unfold maxLen at h3
  obtain ⟨b, off, ka, kc, rfl, hlo, hhi, c0, c1, c2, c3, hrk⟩ := h5 m hm
  have hmi : (m : Int) < (xs.length : Int) := by omega
  have hmz : (0 : Int) ≤ (m : Int) := by omega
  obtain ⟨kb, koff, rfl, _, _, kc0⟩ := hrk.intAt hj
  obtain ⟨_, hkl, hkc⟩ := hrk.lenEq
  have HKD := Lib.hid (show kd xs[m] j = xs[m].kids.getD j 0 from rfl)
  have HFS := Lib.hid (show fitS xs xs[m] j = (fit1 xs[m].kind xs[m].kids.length j (nd xs (kd xs[m] j)).kind && (if xs[m].kind = 10 ∧ 0 < j then (nd xs (kd (nd xs (kd xs[m] j)) 0)).kind == 1 else true)) from rfl)
  rw [HKD.out] at hb hcall HFS
  obtain ⟨q, hq⟩ : ∃ q : Nat, xs[m].kids.getD j 0 = (q : Int) := ⟨(xs[m].kids.getD j 0).toNat, by omega⟩
  rw [hq] at hb hcall HFS kc0
  have hql : q < xs.length := by omega
  have hqi : (q : Int) < (xs.length : Int) := by omega
  have hqz : (0 : Int) ≤ (q : Int) := by omega
  obtain ⟨b', off', ya, yc, eb, _, hhy, q0, q1, q2, q3, hry⟩ := h5 q hql
  injection eb with eb
  injection eb with e1 e2
  subst e1; subst e2
  rw [nd_at hql] at hcall HFS
  have H5 : Hid (∀ (t : Nat) (ht : t < xs.length), w.cell? ⟨b, off + t * 4, none⟩ = some (.int .i64 xs[t].kind)) := by
    intro t ht
    obtain ⟨b2, off2, _, _, e, _, _, t0, _⟩ := h5 t ht
    injection e with e
    injection e with e1 e2
    subst e1; subst e2
    exact t0
  have kc1 := al1 kc0
  have y0 := al1 q0
  have y1 := al1 q1
  have y2 := al1 q2
  have y3 := al1 q3
  have hrr := Lib.hid hr
  have hj1 : (j : Int) < (xs[m].kids.length : Int) := by omega
  have hjz : (0 : Int) ≤ (j : Int) := by omega
  have hB2 : ∀ A B, Below w.heap.size w ((w.alloc A).alloc B) := fun A B => ((Below.refl _ _).alloc (Nat.le_refl _) A).alloc (by simp) B
  clear h5 kc0 q0 q1 q2 q3 hq HKD hr hrk
  generalize fitS xs xs[m] j = R at *
  generalize xs[q] = y at *
  generalize xs[m] = x at *
  obtain ⟨kind, text, kids, blank⟩ := x
  obtain ⟨yk, yt, ys, yb⟩ := y
  simp only at hkind
  subst hkind
  simp only at c0 c1 c2 c3 y0 y1 y2 y3 hj hj1 hkl hry HFS hcall
  by_cases hc : 0 < j
  · have hci : (0 : Int) < (j : Int) := by omega
    by_cases h5k : yk = 5
    · have t5 : (yk == 5) = true := by rw [h5k]; rfl
      obtain ⟨hy0, hf0, hf1⟩ := hcall h5k
      obtain ⟨yb2, yoff, rfl, _, _, yc0⟩ := hry.intAt hy0
      rw [Nat.add_zero] at yc0
      have hyi : (0 : Int) < (ys.length : Int) := by simp only at hy0; omega
      have HF0 : Hid (kd (⟨yk, yt, ys, yb⟩ : Node) 0 = ys.getD 0 0) := rfl
      rw [HF0.out] at HFS hf0 hf1
      clear HF0 hcall hy0
      generalize ys.getD 0 0 = f at *
      obtain ⟨fm, hfm⟩ : ∃ fm : Nat, f = (fm : Int) := ⟨f.toNat, by omega⟩
      subst hfm
      have fml : fm < xs.length := by omega
      have fmi : (fm : Int) < (xs.length : Int) := by omega
      have fmz : (0 : Int) ≤ (fm : Int) := by omega
      have fc := al2 (H5.out fm fml)
      have yc1 := al2 yc0
      have HN : Hid (nd xs (fm : Int) = xs[fm]) := nd_at fml
      rw [HN.out] at HFS
      clear HN yc0 H5
      generalize xs[fm] = z at *
      obtain ⟨zk, zt, zs, zb⟩ := z
      simp only at fc HFS
      have HF : Hid (R = (zk == 1)) := by show R = _; rw [HFS.out, Bool.and_comm]; simp [fit1, hc, h5k]
      clear hc h5k
      go_enter Tryz.func82, Tryz.ntmps82
      go_wp2
      go_ret
      exact ⟨ret_bool HF.out.symm, hB2 _ _⟩
    · have t5 : (yk == 5) = false := eqfS h5k
      have HF : Hid (R = false) := by show R = _; rw [HFS.out, Bool.and_comm]; simp [fit1, hc, h5k]
      clear hc h5k
      go_enter Tryz.func82, Tryz.ntmps82
      go_wp2
      go_ret
      exact ⟨ret_bool HF.out.symm, hB2 _ _⟩
  · have hci : ¬ (0 : Int) < (j : Int) := by omega
    have HF : Hid (R = isVal yk) := by show R = _; rw [HFS.out, Bool.and_comm]; simp [fit1, hc]
    clear hc
    go_enter Tryz.func82, Tryz.ntmps82
    go_wp2_with fail
    refine (l05Value_any _ _).mono ?_
    rintro e w' ⟨rfl, hw⟩
    subst hw
    go_wp2
    go_ret
    exact ⟨ret_bool HF.out.symm, hB2 _ _⟩
set_option maxHeartbeats 4000000 in
set_option maxRecDepth 100000 in
theorem fits_11 (hr : Rd nodeS lo hi w v xs) (_hh : hi ≤ w.heap.size) (hm : m < xs.length) (hj : j < xs[m].kids.length) (hb : 0 ≤ kd xs[m] j ∧ kd xs[m] j < xs.length) (hcall : callOk xs (nd xs (kd xs[m] j))) (hkind : xs[m].kind = 11) :
    Calls Tryz.prog 82 #[v, .int .i64 m, .int .i64 j] w fun e w' => e = .returned (.bool (fitS xs xs[m] j)) ∧ Below w.heap.size w w' := by
  obtain ⟨a, c, rfl, h2, h3, h4, h5⟩ := hr.nodeS
  unfold maxLen at h3
  obtain ⟨b, off, ka, kc, rfl, hlo, hhi, c0, c1, c2, c3, hrk⟩ := h5 m hm
  have hmi : (m : Int) < (xs.length : Int) := by omega
  have hmz : (0 : Int) ≤ (m : Int) := by omega
  obtain ⟨kb, koff, rfl, _, _, kc0⟩ := hrk.intAt hj
  obtain ⟨_, hkl, hkc⟩ := hrk.lenEq
  have HKD := Lib.hid (show kd xs[m] j = xs[m].kids.getD j 0 from rfl)
  have HFS := Lib.hid (show fitS xs xs[m] j = (fit1 xs[m].kind xs[m].kids.length j (nd xs (kd xs[m] j)).kind && (if xs[m].kind = 10 ∧ 0 < j then (nd xs (kd (nd xs (kd xs[m] j)) 0)).kind == 1 else true)) from rfl)
  rw [HKD.out] at hb hcall HFS
  obtain ⟨q, hq⟩ : ∃ q : Nat, xs[m].kids.getD j 0 = (q : Int) := ⟨(xs[m].kids.getD j 0).toNat, by omega⟩
  rw [hq] at hb hcall HFS kc0
  have hql : q < xs.length := by omega
  have hqi : (q : Int) < (xs.length : Int) := by omega
  have hqz : (0 : Int) ≤ (q : Int) := by omega
  obtain ⟨b', off', ya, yc, eb, _, hhy, q0, q1, q2, q3, hry⟩ := h5 q hql
  injection eb with eb
  injection eb with e1 e2
  subst e1; subst e2
  rw [nd_at hql] at hcall HFS
  have H5 : Hid (∀ (t : Nat) (ht : t < xs.length), w.cell? ⟨b, off + t * 4, none⟩ = some (.int .i64 xs[t].kind)) := by
    intro t ht
    obtain ⟨b2, off2, _, _, e, _, _, t0, _⟩ := h5 t ht
    injection e with e
    injection e with e1 e2
    subst e1; subst e2
    exact t0
  have kc1 := al1 kc0
  have y0 := al1 q0
  have y1 := al1 q1
  have y2 := al1 q2
  have y3 := al1 q3
  have hrr := Lib.hid hr
  have hj1 : (j : Int) < (xs[m].kids.length : Int) := by omega
  have hjz : (0 : Int) ≤ (j : Int) := by omega
  have hB2 : ∀ A B, Below w.heap.size w ((w.alloc A).alloc B) := fun A B => ((Below.refl _ _).alloc (Nat.le_refl _) A).alloc (by simp) B
  clear h5 kc0 q0 q1 q2 q3 hq HKD hr hrk
  generalize fitS xs xs[m] j = R at *
  generalize xs[q] = y at *
  generalize xs[m] = x at *
  obtain ⟨kind, text, kids, blank⟩ := x
  obtain ⟨yk, yt, ys, yb⟩ := y
  simp only at hkind
  subst hkind
  simp only at c0 c1 c2 c3 y0 y1 y2 y3 hj hj1 hkl hry HFS hcall
  have HF : Hid (R = isVal yk) := by show R = _; rw [HFS.out, Bool.and_comm]; simp [fit1]
  go_enter Tryz.func82, Tryz.ntmps82
  go_wp2_with fail
  refine (l05Value_any _ _).mono ?_
  rintro e w' ⟨rfl, hw⟩
  subst hw
  go_wp2
  go_ret
  exact ⟨ret_bool HF.out.symm, hB2 _ _⟩
set_option maxHeartbeats 4000000 in
set_option maxRecDepth 100000 in
theorem fits_12 (hr : Rd nodeS lo hi w v xs) (_hh : hi ≤ w.heap.size) (hm : m < xs.length) (hj : j < xs[m].kids.length) (hb : 0 ≤ kd xs[m] j ∧ kd xs[m] j < xs.length) (hcall : callOk xs (nd xs (kd xs[m] j))) (hkind : xs[m].kind = 12) :
    Calls Tryz.prog 82 #[v, .int .i64 m, .int .i64 j] w fun e w' => e = .returned (.bool (fitS xs xs[m] j)) ∧ Below w.heap.size w w' := by
  obtain ⟨a, c, rfl, h2, h3, h4, h5⟩ := hr.nodeS
  unfold maxLen at h3
  obtain ⟨b, off, ka, kc, rfl, hlo, hhi, c0, c1, c2, c3, hrk⟩ := h5 m hm
  have hmi : (m : Int) < (xs.length : Int) := by omega
  have hmz : (0 : Int) ≤ (m : Int) := by omega
  obtain ⟨kb, koff, rfl, _, _, kc0⟩ := hrk.intAt hj
  obtain ⟨_, hkl, hkc⟩ := hrk.lenEq
  have HKD := Lib.hid (show kd xs[m] j = xs[m].kids.getD j 0 from rfl)
  have HFS := Lib.hid (show fitS xs xs[m] j = (fit1 xs[m].kind xs[m].kids.length j (nd xs (kd xs[m] j)).kind && (if xs[m].kind = 10 ∧ 0 < j then (nd xs (kd (nd xs (kd xs[m] j)) 0)).kind == 1 else true)) from rfl)
  rw [HKD.out] at hb hcall HFS
  obtain ⟨q, hq⟩ : ∃ q : Nat, xs[m].kids.getD j 0 = (q : Int) := ⟨(xs[m].kids.getD j 0).toNat, by omega⟩
  rw [hq] at hb hcall HFS kc0
  have hql : q < xs.length := by omega
  have hqi : (q : Int) < (xs.length : Int) := by omega
  have hqz : (0 : Int) ≤ (q : Int) := by omega
  obtain ⟨b', off', ya, yc, eb, _, hhy, q0, q1, q2, q3, hry⟩ := h5 q hql
  injection eb with eb
  injection eb with e1 e2
  subst e1; subst e2
  rw [nd_at hql] at hcall HFS
  have H5 : Hid (∀ (t : Nat) (ht : t < xs.length), w.cell? ⟨b, off + t * 4, none⟩ = some (.int .i64 xs[t].kind)) := by
    intro t ht
    obtain ⟨b2, off2, _, _, e, _, _, t0, _⟩ := h5 t ht
    injection e with e
    injection e with e1 e2
    subst e1; subst e2
    exact t0
  have kc1 := al1 kc0
  have y0 := al1 q0
  have y1 := al1 q1
  have y2 := al1 q2
  have y3 := al1 q3
  have hrr := Lib.hid hr
  have hj1 : (j : Int) < (xs[m].kids.length : Int) := by omega
  have hjz : (0 : Int) ≤ (j : Int) := by omega
  have hB2 : ∀ A B, Below w.heap.size w ((w.alloc A).alloc B) := fun A B => ((Below.refl _ _).alloc (Nat.le_refl _) A).alloc (by simp) B
  clear h5 kc0 q0 q1 q2 q3 hq HKD hr hrk
  generalize fitS xs xs[m] j = R at *
  generalize xs[q] = y at *
  generalize xs[m] = x at *
  obtain ⟨kind, text, kids, blank⟩ := x
  obtain ⟨yk, yt, ys, yb⟩ := y
  simp only at hkind
  subst hkind
  simp only at c0 c1 c2 c3 y0 y1 y2 y3 hj hj1 hkl hry HFS hcall
  have HF : Hid (R = isVal yk) := by show R = _; rw [HFS.out, Bool.and_comm]; simp [fit1]
  go_enter Tryz.func82, Tryz.ntmps82
  go_wp2_with fail
  refine (l05Value_any _ _).mono ?_
  rintro e w' ⟨rfl, hw⟩
  subst hw
  go_wp2
  go_ret
  exact ⟨ret_bool HF.out.symm, hB2 _ _⟩
set_option maxHeartbeats 4000000 in
set_option maxRecDepth 100000 in
theorem fits_13 (hr : Rd nodeS lo hi w v xs) (_hh : hi ≤ w.heap.size) (hm : m < xs.length) (hj : j < xs[m].kids.length) (hb : 0 ≤ kd xs[m] j ∧ kd xs[m] j < xs.length) (hcall : callOk xs (nd xs (kd xs[m] j))) (hkind : xs[m].kind = 13) :
    Calls Tryz.prog 82 #[v, .int .i64 m, .int .i64 j] w fun e w' => e = .returned (.bool (fitS xs xs[m] j)) ∧ Below w.heap.size w w' := by
  obtain ⟨a, c, rfl, h2, h3, h4, h5⟩ := hr.nodeS
  unfold maxLen at h3
  obtain ⟨b, off, ka, kc, rfl, hlo, hhi, c0, c1, c2, c3, hrk⟩ := h5 m hm
  have hmi : (m : Int) < (xs.length : Int) := by omega
  have hmz : (0 : Int) ≤ (m : Int) := by omega
  obtain ⟨kb, koff, rfl, _, _, kc0⟩ := hrk.intAt hj
  obtain ⟨_, hkl, hkc⟩ := hrk.lenEq
  have HKD := Lib.hid (show kd xs[m] j = xs[m].kids.getD j 0 from rfl)
  have HFS := Lib.hid (show fitS xs xs[m] j = (fit1 xs[m].kind xs[m].kids.length j (nd xs (kd xs[m] j)).kind && (if xs[m].kind = 10 ∧ 0 < j then (nd xs (kd (nd xs (kd xs[m] j)) 0)).kind == 1 else true)) from rfl)
  rw [HKD.out] at hb hcall HFS
  obtain ⟨q, hq⟩ : ∃ q : Nat, xs[m].kids.getD j 0 = (q : Int) := ⟨(xs[m].kids.getD j 0).toNat, by omega⟩
  rw [hq] at hb hcall HFS kc0
  have hql : q < xs.length := by omega
  have hqi : (q : Int) < (xs.length : Int) := by omega
  have hqz : (0 : Int) ≤ (q : Int) := by omega
  obtain ⟨b', off', ya, yc, eb, _, hhy, q0, q1, q2, q3, hry⟩ := h5 q hql
  injection eb with eb
  injection eb with e1 e2
  subst e1; subst e2
  rw [nd_at hql] at hcall HFS
  have H5 : Hid (∀ (t : Nat) (ht : t < xs.length), w.cell? ⟨b, off + t * 4, none⟩ = some (.int .i64 xs[t].kind)) := by
    intro t ht
    obtain ⟨b2, off2, _, _, e, _, _, t0, _⟩ := h5 t ht
    injection e with e
    injection e with e1 e2
    subst e1; subst e2
    exact t0
  have kc1 := al1 kc0
  have y0 := al1 q0
  have y1 := al1 q1
  have y2 := al1 q2
  have y3 := al1 q3
  have hrr := Lib.hid hr
  have hj1 : (j : Int) < (xs[m].kids.length : Int) := by omega
  have hjz : (0 : Int) ≤ (j : Int) := by omega
  have hB2 : ∀ A B, Below w.heap.size w ((w.alloc A).alloc B) := fun A B => ((Below.refl _ _).alloc (Nat.le_refl _) A).alloc (by simp) B
  clear h5 kc0 q0 q1 q2 q3 hq HKD hr hrk
  generalize fitS xs xs[m] j = R at *
  generalize xs[q] = y at *
  generalize xs[m] = x at *
  obtain ⟨kind, text, kids, blank⟩ := x
  obtain ⟨yk, yt, ys, yb⟩ := y
  simp only at hkind
  subst hkind
  simp only at c0 c1 c2 c3 y0 y1 y2 y3 hj hj1 hkl hry HFS hcall
  have HF : Hid (R = isVal yk) := by show R = _; rw [HFS.out, Bool.and_comm]; simp [fit1]
  go_enter Tryz.func82, Tryz.ntmps82
  go_wp2_with fail
  refine (l05Value_any _ _).mono ?_
  rintro e w' ⟨rfl, hw⟩
  subst hw
  go_wp2
  go_ret
  exact ⟨ret_bool HF.out.symm, hB2 _ _⟩
set_option maxHeartbeats 4000000 in
set_option maxRecDepth 100000 in
theorem fits_14 (hr : Rd nodeS lo hi w v xs) (_hh : hi ≤ w.heap.size) (hm : m < xs.length) (hj : j < xs[m].kids.length) (hb : 0 ≤ kd xs[m] j ∧ kd xs[m] j < xs.length) (hcall : callOk xs (nd xs (kd xs[m] j))) (hkind : xs[m].kind = 14) :
    Calls Tryz.prog 82 #[v, .int .i64 m, .int .i64 j] w fun e w' => e = .returned (.bool (fitS xs xs[m] j)) ∧ Below w.heap.size w w' := by
  obtain ⟨a, c, rfl, h2, h3, h4, h5⟩ := hr.nodeS
  unfold maxLen at h3
  obtain ⟨b, off, ka, kc, rfl, hlo, hhi, c0, c1, c2, c3, hrk⟩ := h5 m hm
  have hmi : (m : Int) < (xs.length : Int) := by omega
  have hmz : (0 : Int) ≤ (m : Int) := by omega
  obtain ⟨kb, koff, rfl, _, _, kc0⟩ := hrk.intAt hj
  obtain ⟨_, hkl, hkc⟩ := hrk.lenEq
  have HKD := Lib.hid (show kd xs[m] j = xs[m].kids.getD j 0 from rfl)
  have HFS := Lib.hid (show fitS xs xs[m] j = (fit1 xs[m].kind xs[m].kids.length j (nd xs (kd xs[m] j)).kind && (if xs[m].kind = 10 ∧ 0 < j then (nd xs (kd (nd xs (kd xs[m] j)) 0)).kind == 1 else true)) from rfl)
  rw [HKD.out] at hb hcall HFS
  obtain ⟨q, hq⟩ : ∃ q : Nat, xs[m].kids.getD j 0 = (q : Int) := ⟨(xs[m].kids.getD j 0).toNat, by omega⟩
  rw [hq] at hb hcall HFS kc0
  have hql : q < xs.length := by omega
  have hqi : (q : Int) < (xs.length : Int) := by omega
  have hqz : (0 : Int) ≤ (q : Int) := by omega
  obtain ⟨b', off', ya, yc, eb, _, hhy, q0, q1, q2, q3, hry⟩ := h5 q hql
  injection eb with eb
  injection eb with e1 e2
  subst e1; subst e2
  rw [nd_at hql] at hcall HFS
  have H5 : Hid (∀ (t : Nat) (ht : t < xs.length), w.cell? ⟨b, off + t * 4, none⟩ = some (.int .i64 xs[t].kind)) := by
    intro t ht
    obtain ⟨b2, off2, _, _, e, _, _, t0, _⟩ := h5 t ht
    injection e with e
    injection e with e1 e2
    subst e1; subst e2
    exact t0
  have kc1 := al1 kc0
  have y0 := al1 q0
  have y1 := al1 q1
  have y2 := al1 q2
  have y3 := al1 q3
  have hrr := Lib.hid hr
  have hj1 : (j : Int) < (xs[m].kids.length : Int) := by omega
  have hjz : (0 : Int) ≤ (j : Int) := by omega
  have hB2 : ∀ A B, Below w.heap.size w ((w.alloc A).alloc B) := fun A B => ((Below.refl _ _).alloc (Nat.le_refl _) A).alloc (by simp) B
  clear h5 kc0 q0 q1 q2 q3 hq HKD hr hrk
  generalize fitS xs xs[m] j = R at *
  generalize xs[q] = y at *
  generalize xs[m] = x at *
  obtain ⟨kind, text, kids, blank⟩ := x
  obtain ⟨yk, yt, ys, yb⟩ := y
  simp only at hkind
  subst hkind
  simp only at c0 c1 c2 c3 y0 y1 y2 y3 hj hj1 hkl hry HFS hcall
  have HF : Hid (R = isVal yk) := by show R = _; rw [HFS.out, Bool.and_comm]; simp [fit1]
  go_enter Tryz.func82, Tryz.ntmps82
  go_wp2_with fail
  refine (l05Value_any _ _).mono ?_
  rintro e w' ⟨rfl, hw⟩
  subst hw
  go_wp2
  go_ret
  exact ⟨ret_bool HF.out.symm, hB2 _ _⟩
set_option maxHeartbeats 4000000 in
set_option maxRecDepth 100000 in
theorem fits_15 (hr : Rd nodeS lo hi w v xs) (_hh : hi ≤ w.heap.size) (hm : m < xs.length) (hj : j < xs[m].kids.length) (hb : 0 ≤ kd xs[m] j ∧ kd xs[m] j < xs.length) (hcall : callOk xs (nd xs (kd xs[m] j))) (hkind : xs[m].kind = 15) :
    Calls Tryz.prog 82 #[v, .int .i64 m, .int .i64 j] w fun e w' => e = .returned (.bool (fitS xs xs[m] j)) ∧ Below w.heap.size w w' := by
  obtain ⟨a, c, rfl, h2, h3, h4, h5⟩ := hr.nodeS
  unfold maxLen at h3
  obtain ⟨b, off, ka, kc, rfl, hlo, hhi, c0, c1, c2, c3, hrk⟩ := h5 m hm
  have hmi : (m : Int) < (xs.length : Int) := by omega
  have hmz : (0 : Int) ≤ (m : Int) := by omega
  obtain ⟨kb, koff, rfl, _, _, kc0⟩ := hrk.intAt hj
  obtain ⟨_, hkl, hkc⟩ := hrk.lenEq
  have HKD := Lib.hid (show kd xs[m] j = xs[m].kids.getD j 0 from rfl)
  have HFS := Lib.hid (show fitS xs xs[m] j = (fit1 xs[m].kind xs[m].kids.length j (nd xs (kd xs[m] j)).kind && (if xs[m].kind = 10 ∧ 0 < j then (nd xs (kd (nd xs (kd xs[m] j)) 0)).kind == 1 else true)) from rfl)
  rw [HKD.out] at hb hcall HFS
  obtain ⟨q, hq⟩ : ∃ q : Nat, xs[m].kids.getD j 0 = (q : Int) := ⟨(xs[m].kids.getD j 0).toNat, by omega⟩
  rw [hq] at hb hcall HFS kc0
  have hql : q < xs.length := by omega
  have hqi : (q : Int) < (xs.length : Int) := by omega
  have hqz : (0 : Int) ≤ (q : Int) := by omega
  obtain ⟨b', off', ya, yc, eb, _, hhy, q0, q1, q2, q3, hry⟩ := h5 q hql
  injection eb with eb
  injection eb with e1 e2
  subst e1; subst e2
  rw [nd_at hql] at hcall HFS
  have H5 : Hid (∀ (t : Nat) (ht : t < xs.length), w.cell? ⟨b, off + t * 4, none⟩ = some (.int .i64 xs[t].kind)) := by
    intro t ht
    obtain ⟨b2, off2, _, _, e, _, _, t0, _⟩ := h5 t ht
    injection e with e
    injection e with e1 e2
    subst e1; subst e2
    exact t0
  have kc1 := al1 kc0
  have y0 := al1 q0
  have y1 := al1 q1
  have y2 := al1 q2
  have y3 := al1 q3
  have hrr := Lib.hid hr
  have hj1 : (j : Int) < (xs[m].kids.length : Int) := by omega
  have hjz : (0 : Int) ≤ (j : Int) := by omega
  have hB2 : ∀ A B, Below w.heap.size w ((w.alloc A).alloc B) := fun A B => ((Below.refl _ _).alloc (Nat.le_refl _) A).alloc (by simp) B
  clear h5 kc0 q0 q1 q2 q3 hq HKD hr hrk
  generalize fitS xs xs[m] j = R at *
  generalize xs[q] = y at *
  generalize xs[m] = x at *
  obtain ⟨kind, text, kids, blank⟩ := x
  obtain ⟨yk, yt, ys, yb⟩ := y
  simp only at hkind
  subst hkind
  simp only at c0 c1 c2 c3 y0 y1 y2 y3 hj hj1 hkl hry HFS hcall
  have HF : Hid (R = isVal yk) := by show R = _; rw [HFS.out, Bool.and_comm]; simp [fit1]
  go_enter Tryz.func82, Tryz.ntmps82
  go_wp2_with fail
  refine (l05Value_any _ _).mono ?_
  rintro e w' ⟨rfl, hw⟩
  subst hw
  go_wp2
  go_ret
  exact ⟨ret_bool HF.out.symm, hB2 _ _⟩
set_option maxHeartbeats 4000000 in
set_option maxRecDepth 100000 in
theorem fits_16 (hr : Rd nodeS lo hi w v xs) (_hh : hi ≤ w.heap.size) (hm : m < xs.length) (hj : j < xs[m].kids.length) (hb : 0 ≤ kd xs[m] j ∧ kd xs[m] j < xs.length) (hcall : callOk xs (nd xs (kd xs[m] j))) (hkind : xs[m].kind = 16) :
    Calls Tryz.prog 82 #[v, .int .i64 m, .int .i64 j] w fun e w' => e = .returned (.bool (fitS xs xs[m] j)) ∧ Below w.heap.size w w' := by
  obtain ⟨a, c, rfl, h2, h3, h4, h5⟩ := hr.nodeS
  unfold maxLen at h3
  obtain ⟨b, off, ka, kc, rfl, hlo, hhi, c0, c1, c2, c3, hrk⟩ := h5 m hm
  have hmi : (m : Int) < (xs.length : Int) := by omega
  have hmz : (0 : Int) ≤ (m : Int) := by omega
  obtain ⟨kb, koff, rfl, _, _, kc0⟩ := hrk.intAt hj
  obtain ⟨_, hkl, hkc⟩ := hrk.lenEq
  have HKD := Lib.hid (show kd xs[m] j = xs[m].kids.getD j 0 from rfl)
  have HFS := Lib.hid (show fitS xs xs[m] j = (fit1 xs[m].kind xs[m].kids.length j (nd xs (kd xs[m] j)).kind && (if xs[m].kind = 10 ∧ 0 < j then (nd xs (kd (nd xs (kd xs[m] j)) 0)).kind == 1 else true)) from rfl)
  rw [HKD.out] at hb hcall HFS
  obtain ⟨q, hq⟩ : ∃ q : Nat, xs[m].kids.getD j 0 = (q : Int) := ⟨(xs[m].kids.getD j 0).toNat, by omega⟩
  rw [hq] at hb hcall HFS kc0
  have hql : q < xs.length := by omega
  have hqi : (q : Int) < (xs.length : Int) := by omega
  have hqz : (0 : Int) ≤ (q : Int) := by omega
  obtain ⟨b', off', ya, yc, eb, _, hhy, q0, q1, q2, q3, hry⟩ := h5 q hql
  injection eb with eb
  injection eb with e1 e2
  subst e1; subst e2
  rw [nd_at hql] at hcall HFS
  have H5 : Hid (∀ (t : Nat) (ht : t < xs.length), w.cell? ⟨b, off + t * 4, none⟩ = some (.int .i64 xs[t].kind)) := by
    intro t ht
    obtain ⟨b2, off2, _, _, e, _, _, t0, _⟩ := h5 t ht
    injection e with e
    injection e with e1 e2
    subst e1; subst e2
    exact t0
  have kc1 := al1 kc0
  have y0 := al1 q0
  have y1 := al1 q1
  have y2 := al1 q2
  have y3 := al1 q3
  have hrr := Lib.hid hr
  have hj1 : (j : Int) < (xs[m].kids.length : Int) := by omega
  have hjz : (0 : Int) ≤ (j : Int) := by omega
  have hB2 : ∀ A B, Below w.heap.size w ((w.alloc A).alloc B) := fun A B => ((Below.refl _ _).alloc (Nat.le_refl _) A).alloc (by simp) B
  clear h5 kc0 q0 q1 q2 q3 hq HKD hr hrk
  generalize fitS xs xs[m] j = R at *
  generalize xs[q] = y at *
  generalize xs[m] = x at *
  obtain ⟨kind, text, kids, blank⟩ := x
  obtain ⟨yk, yt, ys, yb⟩ := y
  simp only at hkind
  subst hkind
  simp only at c0 c1 c2 c3 y0 y1 y2 y3 hj hj1 hkl hry HFS hcall
  by_cases hc : 0 < j
  · have hci : (0 : Int) < (j : Int) := by omega
    have HF : Hid (R = (yk == 18)) := by show R = _; rw [HFS.out, Bool.and_comm]; simp [fit1, hc]
    clear hc
    go_enter Tryz.func82, Tryz.ntmps82
    go_wp2
    go_ret
    exact ⟨ret_bool HF.out.symm, hB2 _ _⟩
  · have hci : ¬ (0 : Int) < (j : Int) := by omega
    have HF : Hid (R = isVal yk) := by show R = _; rw [HFS.out, Bool.and_comm]; simp [fit1, hc]
    clear hc
    go_enter Tryz.func82, Tryz.ntmps82
    go_wp2_with fail
    refine (l05Value_any _ _).mono ?_
    rintro e w' ⟨rfl, hw⟩
    subst hw
    go_wp2
    go_ret
    exact ⟨ret_bool HF.out.symm, hB2 _ _⟩
set_option maxHeartbeats 4000000 in
set_option maxRecDepth 100000 in
theorem fits_17 (hr : Rd nodeS lo hi w v xs) (_hh : hi ≤ w.heap.size) (hm : m < xs.length) (hj : j < xs[m].kids.length) (hb : 0 ≤ kd xs[m] j ∧ kd xs[m] j < xs.length) (hcall : callOk xs (nd xs (kd xs[m] j))) (hkind : xs[m].kind = 17) :
    Calls Tryz.prog 82 #[v, .int .i64 m, .int .i64 j] w fun e w' => e = .returned (.bool (fitS xs xs[m] j)) ∧ Below w.heap.size w w' := by
  obtain ⟨a, c, rfl, h2, h3, h4, h5⟩ := hr.nodeS
  unfold maxLen at h3
  obtain ⟨b, off, ka, kc, rfl, hlo, hhi, c0, c1, c2, c3, hrk⟩ := h5 m hm
  have hmi : (m : Int) < (xs.length : Int) := by omega
  have hmz : (0 : Int) ≤ (m : Int) := by omega
  obtain ⟨kb, koff, rfl, _, _, kc0⟩ := hrk.intAt hj
  obtain ⟨_, hkl, hkc⟩ := hrk.lenEq
  have HKD := Lib.hid (show kd xs[m] j = xs[m].kids.getD j 0 from rfl)
  have HFS := Lib.hid (show fitS xs xs[m] j = (fit1 xs[m].kind xs[m].kids.length j (nd xs (kd xs[m] j)).kind && (if xs[m].kind = 10 ∧ 0 < j then (nd xs (kd (nd xs (kd xs[m] j)) 0)).kind == 1 else true)) from rfl)
  rw [HKD.out] at hb hcall HFS
  obtain ⟨q, hq⟩ : ∃ q : Nat, xs[m].kids.getD j 0 = (q : Int) := ⟨(xs[m].kids.getD j 0).toNat, by omega⟩
  rw [hq] at hb hcall HFS kc0
  have hql : q < xs.length := by omega
  have hqi : (q : Int) < (xs.length : Int) := by omega
  have hqz : (0 : Int) ≤ (q : Int) := by omega
  obtain ⟨b', off', ya, yc, eb, _, hhy, q0, q1, q2, q3, hry⟩ := h5 q hql
  injection eb with eb
  injection eb with e1 e2
  subst e1; subst e2
  rw [nd_at hql] at hcall HFS
  have H5 : Hid (∀ (t : Nat) (ht : t < xs.length), w.cell? ⟨b, off + t * 4, none⟩ = some (.int .i64 xs[t].kind)) := by
    intro t ht
    obtain ⟨b2, off2, _, _, e, _, _, t0, _⟩ := h5 t ht
    injection e with e
    injection e with e1 e2
    subst e1; subst e2
    exact t0
  have kc1 := al1 kc0
  have y0 := al1 q0
  have y1 := al1 q1
  have y2 := al1 q2
  have y3 := al1 q3
  have hrr := Lib.hid hr
  have hj1 : (j : Int) < (xs[m].kids.length : Int) := by omega
  have hjz : (0 : Int) ≤ (j : Int) := by omega
  have hB2 : ∀ A B, Below w.heap.size w ((w.alloc A).alloc B) := fun A B => ((Below.refl _ _).alloc (Nat.le_refl _) A).alloc (by simp) B
  clear h5 kc0 q0 q1 q2 q3 hq HKD hr hrk
  generalize fitS xs xs[m] j = R at *
  generalize xs[q] = y at *
  generalize xs[m] = x at *
  obtain ⟨kind, text, kids, blank⟩ := x
  obtain ⟨yk, yt, ys, yb⟩ := y
  simp only at hkind
  subst hkind
  simp only at c0 c1 c2 c3 y0 y1 y2 y3 hj hj1 hkl hry HFS hcall
  by_cases hc : 0 < j
  · have hci : (0 : Int) < (j : Int) := by omega
    have HF : Hid (R = (yk == 18)) := by show R = _; rw [HFS.out, Bool.and_comm]; simp [fit1, hc]
    clear hc
    go_enter Tryz.func82, Tryz.ntmps82
    go_wp2
    go_ret
    exact ⟨ret_bool HF.out.symm, hB2 _ _⟩
  · have hci : ¬ (0 : Int) < (j : Int) := by omega
    have HF : Hid (R = isVal yk) := by show R = _; rw [HFS.out, Bool.and_comm]; simp [fit1, hc]
    clear hc
    go_enter Tryz.func82, Tryz.ntmps82
    go_wp2_with fail
    refine (l05Value_any _ _).mono ?_
    rintro e w' ⟨rfl, hw⟩
    subst hw
    go_wp2
    go_ret
    exact ⟨ret_bool HF.out.symm, hB2 _ _⟩
set_option maxHeartbeats 4000000 in
set_option maxRecDepth 100000 in
theorem fits_18 (hr : Rd nodeS lo hi w v xs) (_hh : hi ≤ w.heap.size) (hm : m < xs.length) (hj : j < xs[m].kids.length) (hb : 0 ≤ kd xs[m] j ∧ kd xs[m] j < xs.length) (hcall : callOk xs (nd xs (kd xs[m] j))) (hkind : xs[m].kind = 18) :
    Calls Tryz.prog 82 #[v, .int .i64 m, .int .i64 j] w fun e w' => e = .returned (.bool (fitS xs xs[m] j)) ∧ Below w.heap.size w w' := by
  obtain ⟨a, c, rfl, h2, h3, h4, h5⟩ := hr.nodeS
  unfold maxLen at h3
  obtain ⟨b, off, ka, kc, rfl, hlo, hhi, c0, c1, c2, c3, hrk⟩ := h5 m hm
  have hmi : (m : Int) < (xs.length : Int) := by omega
  have hmz : (0 : Int) ≤ (m : Int) := by omega
  obtain ⟨kb, koff, rfl, _, _, kc0⟩ := hrk.intAt hj
  obtain ⟨_, hkl, hkc⟩ := hrk.lenEq
  have HKD := Lib.hid (show kd xs[m] j = xs[m].kids.getD j 0 from rfl)
  have HFS := Lib.hid (show fitS xs xs[m] j = (fit1 xs[m].kind xs[m].kids.length j (nd xs (kd xs[m] j)).kind && (if xs[m].kind = 10 ∧ 0 < j then (nd xs (kd (nd xs (kd xs[m] j)) 0)).kind == 1 else true)) from rfl)
  rw [HKD.out] at hb hcall HFS
  obtain ⟨q, hq⟩ : ∃ q : Nat, xs[m].kids.getD j 0 = (q : Int) := ⟨(xs[m].kids.getD j 0).toNat, by omega⟩
  rw [hq] at hb hcall HFS kc0
  have hql : q < xs.length := by omega
  have hqi : (q : Int) < (xs.length : Int) := by omega
  have hqz : (0 : Int) ≤ (q : Int) := by omega
  obtain ⟨b', off', ya, yc, eb, _, hhy, q0, q1, q2, q3, hry⟩ := h5 q hql
  injection eb with eb
  injection eb with e1 e2
  subst e1; subst e2
  rw [nd_at hql] at hcall HFS
  have H5 : Hid (∀ (t : Nat) (ht : t < xs.length), w.cell? ⟨b, off + t * 4, none⟩ = some (.int .i64 xs[t].kind)) := by
    intro t ht
    obtain ⟨b2, off2, _, _, e, _, _, t0, _⟩ := h5 t ht
    injection e with e
    injection e with e1 e2
    subst e1; subst e2
    exact t0
  have kc1 := al1 kc0
  have y0 := al1 q0
  have y1 := al1 q1
  have y2 := al1 q2
  have y3 := al1 q3
  have hrr := Lib.hid hr
  have hj1 : (j : Int) < (xs[m].kids.length : Int) := by omega
  have hjz : (0 : Int) ≤ (j : Int) := by omega
  have hB2 : ∀ A B, Below w.heap.size w ((w.alloc A).alloc B) := fun A B => ((Below.refl _ _).alloc (Nat.le_refl _) A).alloc (by simp) B
  clear h5 kc0 q0 q1 q2 q3 hq HKD hr hrk
  generalize fitS xs xs[m] j = R at *
  generalize xs[q] = y at *
  generalize xs[m] = x at *
  obtain ⟨kind, text, kids, blank⟩ := x
  obtain ⟨yk, yt, ys, yb⟩ := y
  simp only at hkind
  subst hkind
  simp only at c0 c1 c2 c3 y0 y1 y2 y3 hj hj1 hkl hry HFS hcall
  have HF : Hid (R = (isStp yk || (yk == 19))) := by show R = _; rw [HFS.out, Bool.and_comm]; simp [fit1]
  go_enter Tryz.func82, Tryz.ntmps82
  go_wp2_with fail
  refine (l05Statement_any _ _).mono ?_
  rintro e w' ⟨rfl, hw⟩
  subst hw
  go_wp2
  go_ret
  exact ⟨ret_bool HF.out.symm, hB2 _ _⟩
set_option maxHeartbeats 4000000 in
set_option maxRecDepth 100000 in
theorem fits_19 (hr : Rd nodeS lo hi w v xs) (_hh : hi ≤ w.heap.size) (hm : m < xs.length) (hj : j < xs[m].kids.length) (hb : 0 ≤ kd xs[m] j ∧ kd xs[m] j < xs.length) (hcall : callOk xs (nd xs (kd xs[m] j))) (hkind : xs[m].kind = 19) :
    Calls Tryz.prog 82 #[v, .int .i64 m, .int .i64 j] w fun e w' => e = .returned (.bool (fitS xs xs[m] j)) ∧ Below w.heap.size w w' := by
  obtain ⟨a, c, rfl, h2, h3, h4, h5⟩ := hr.nodeS
  unfold maxLen at h3
  obtain ⟨b, off, ka, kc, rfl, hlo, hhi, c0, c1, c2, c3, hrk⟩ := h5 m hm
  have hmi : (m : Int) < (xs.length : Int) := by omega
  have hmz : (0 : Int) ≤ (m : Int) := by omega
  obtain ⟨kb, koff, rfl, _, _, kc0⟩ := hrk.intAt hj
  obtain ⟨_, hkl, hkc⟩ := hrk.lenEq
  have HKD := Lib.hid (show kd xs[m] j = xs[m].kids.getD j 0 from rfl)
  have HFS := Lib.hid (show fitS xs xs[m] j = (fit1 xs[m].kind xs[m].kids.length j (nd xs (kd xs[m] j)).kind && (if xs[m].kind = 10 ∧ 0 < j then (nd xs (kd (nd xs (kd xs[m] j)) 0)).kind == 1 else true)) from rfl)
  rw [HKD.out] at hb hcall HFS
  obtain ⟨q, hq⟩ : ∃ q : Nat, xs[m].kids.getD j 0 = (q : Int) := ⟨(xs[m].kids.getD j 0).toNat, by omega⟩
  rw [hq] at hb hcall HFS kc0
  have hql : q < xs.length := by omega
  have hqi : (q : Int) < (xs.length : Int) := by omega
  have hqz : (0 : Int) ≤ (q : Int) := by omega
  obtain ⟨b', off', ya, yc, eb, _, hhy, q0, q1, q2, q3, hry⟩ := h5 q hql
  injection eb with eb
  injection eb with e1 e2
  subst e1; subst e2
  rw [nd_at hql] at hcall HFS
  have H5 : Hid (∀ (t : Nat) (ht : t < xs.length), w.cell? ⟨b, off + t * 4, none⟩ = some (.int .i64 xs[t].kind)) := by
    intro t ht
    obtain ⟨b2, off2, _, _, e, _, _, t0, _⟩ := h5 t ht
    injection e with e
    injection e with e1 e2
    subst e1; subst e2
    exact t0
  have kc1 := al1 kc0
  have y0 := al1 q0
  have y1 := al1 q1
  have y2 := al1 q2
  have y3 := al1 q3
  have hrr := Lib.hid hr
  have hj1 : (j : Int) < (xs[m].kids.length : Int) := by omega
  have hjz : (0 : Int) ≤ (j : Int) := by omega
  have hB2 : ∀ A B, Below w.heap.size w ((w.alloc A).alloc B) := fun A B => ((Below.refl _ _).alloc (Nat.le_refl _) A).alloc (by simp) B
  clear h5 kc0 q0 q1 q2 q3 hq HKD hr hrk
  generalize fitS xs xs[m] j = R at *
  generalize xs[q] = y at *
  generalize xs[m] = x at *
  obtain ⟨kind, text, kids, blank⟩ := x
  obtain ⟨yk, yt, ys, yb⟩ := y
  simp only at hkind
  subst hkind
  simp only at c0 c1 c2 c3 y0 y1 y2 y3 hj hj1 hkl hry HFS hcall
  have HF : Hid (R = isVal yk) := by show R = _; rw [HFS.out, Bool.and_comm]; simp [fit1]
  go_enter Tryz.func82, Tryz.ntmps82
  go_wp2_with fail
  refine (l05Value_any _ _).mono ?_
  rintro e w' ⟨rfl, hw⟩
  subst hw
  go_wp2
  go_ret
  exact ⟨ret_bool HF.out.symm, hB2 _ _⟩
set_option maxHeartbeats 4000000 in
set_option maxRecDepth 100000 in
theorem fits_20 (hr : Rd nodeS lo hi w v xs) (_hh : hi ≤ w.heap.size) (hm : m < xs.length) (hj : j < xs[m].kids.length) (hb : 0 ≤ kd xs[m] j ∧ kd xs[m] j < xs.length) (hcall : callOk xs (nd xs (kd xs[m] j))) (hkind : xs[m].kind = 20) :
    Calls Tryz.prog 82 #[v, .int .i64 m, .int .i64 j] w fun e w' => e = .returned (.bool (fitS xs xs[m] j)) ∧ Below w.heap.size w w' := by
  obtain ⟨a, c, rfl, h2, h3, h4, h5⟩ := hr.nodeS
  unfold maxLen at h3
  obtain ⟨b, off, ka, kc, rfl, hlo, hhi, c0, c1, c2, c3, hrk⟩ := h5 m hm
  have hmi : (m : Int) < (xs.length : Int) := by omega
  have hmz : (0 : Int) ≤ (m : Int) := by omega
  obtain ⟨kb, koff, rfl, _, _, kc0⟩ := hrk.intAt hj
  obtain ⟨_, hkl, hkc⟩ := hrk.lenEq
  have HKD := Lib.hid (show kd xs[m] j = xs[m].kids.getD j 0 from rfl)
  have HFS := Lib.hid (show fitS xs xs[m] j = (fit1 xs[m].kind xs[m].kids.length j (nd xs (kd xs[m] j)).kind && (if xs[m].kind = 10 ∧ 0 < j then (nd xs (kd (nd xs (kd xs[m] j)) 0)).kind == 1 else true)) from rfl)
  rw [HKD.out] at hb hcall HFS
  obtain ⟨q, hq⟩ : ∃ q : Nat, xs[m].kids.getD j 0 = (q : Int) := ⟨(xs[m].kids.getD j 0).toNat, by omega⟩
  rw [hq] at hb hcall HFS kc0
  have hql : q < xs.length := by omega
  have hqi : (q : Int) < (xs.length : Int) := by omega
  have hqz : (0 : Int) ≤ (q : Int) := by omega
  obtain ⟨b', off', ya, yc, eb, _, hhy, q0, q1, q2, q3, hry⟩ := h5 q hql
  injection eb with eb
  injection eb with e1 e2
  subst e1; subst e2
  rw [nd_at hql] at hcall HFS
  have H5 : Hid (∀ (t : Nat) (ht : t < xs.length), w.cell? ⟨b, off + t * 4, none⟩ = some (.int .i64 xs[t].kind)) := by
    intro t ht
    obtain ⟨b2, off2, _, _, e, _, _, t0, _⟩ := h5 t ht
    injection e with e
    injection e with e1 e2
    subst e1; subst e2
    exact t0
  have kc1 := al1 kc0
  have y0 := al1 q0
  have y1 := al1 q1
  have y2 := al1 q2
  have y3 := al1 q3
  have hrr := Lib.hid hr
  have hj1 : (j : Int) < (xs[m].kids.length : Int) := by omega
  have hjz : (0 : Int) ≤ (j : Int) := by omega
  have hB2 : ∀ A B, Below w.heap.size w ((w.alloc A).alloc B) := fun A B => ((Below.refl _ _).alloc (Nat.le_refl _) A).alloc (by simp) B
  clear h5 kc0 q0 q1 q2 q3 hq HKD hr hrk
  generalize fitS xs xs[m] j = R at *
  generalize xs[q] = y at *
  generalize xs[m] = x at *
  obtain ⟨kind, text, kids, blank⟩ := x
  obtain ⟨yk, yt, ys, yb⟩ := y
  simp only at hkind
  subst hkind
  simp only at c0 c1 c2 c3 y0 y1 y2 y3 hj hj1 hkl hry HFS hcall
  by_cases hc : j + 1 < kids.length
  · have hci : (j : Int) + 1 < (kids.length : Int) := by omega
    have HF : Hid (R = (yk == 1)) := by show R = _; rw [HFS.out, Bool.and_comm]; simp [fit1, hc]
    clear hc
    go_enter Tryz.func82, Tryz.ntmps82
    go_wp2
    go_ret
    exact ⟨ret_bool HF.out.symm, hB2 _ _⟩
  · have hci : ¬ (j : Int) + 1 < (kids.length : Int) := by omega
    have HF : Hid (R = (yk == 18)) := by show R = _; rw [HFS.out, Bool.and_comm]; simp [fit1, hc]
    clear hc
    go_enter Tryz.func82, Tryz.ntmps82
    go_wp2
    go_ret
    exact ⟨ret_bool HF.out.symm, hB2 _ _⟩
set_option maxHeartbeats 4000000 in
set_option maxRecDepth 100000 in
theorem fits_21 (hr : Rd nodeS lo hi w v xs) (_hh : hi ≤ w.heap.size) (hm : m < xs.length) (hj : j < xs[m].kids.length) (hb : 0 ≤ kd xs[m] j ∧ kd xs[m] j < xs.length) (hcall : callOk xs (nd xs (kd xs[m] j))) (hkind : xs[m].kind = 21) :
    Calls Tryz.prog 82 #[v, .int .i64 m, .int .i64 j] w fun e w' => e = .returned (.bool (fitS xs xs[m] j)) ∧ Below w.heap.size w w' := by
  obtain ⟨a, c, rfl, h2, h3, h4, h5⟩ := hr.nodeS
  unfold maxLen at h3
  obtain ⟨b, off, ka, kc, rfl, hlo, hhi, c0, c1, c2, c3, hrk⟩ := h5 m hm
  have hmi : (m : Int) < (xs.length : Int) := by omega
  have hmz : (0 : Int) ≤ (m : Int) := by omega
  obtain ⟨kb, koff, rfl, _, _, kc0⟩ := hrk.intAt hj
  obtain ⟨_, hkl, hkc⟩ := hrk.lenEq
  have HKD := Lib.hid (show kd xs[m] j = xs[m].kids.getD j 0 from rfl)
  have HFS := Lib.hid (show fitS xs xs[m] j = (fit1 xs[m].kind xs[m].kids.length j (nd xs (kd xs[m] j)).kind && (if xs[m].kind = 10 ∧ 0 < j then (nd xs (kd (nd xs (kd xs[m] j)) 0)).kind == 1 else true)) from rfl)
  rw [HKD.out] at hb hcall HFS
  obtain ⟨q, hq⟩ : ∃ q : Nat, xs[m].kids.getD j 0 = (q : Int) := ⟨(xs[m].kids.getD j 0).toNat, by omega⟩
  rw [hq] at hb hcall HFS kc0
  have hql : q < xs.length := by omega
  have hqi : (q : Int) < (xs.length : Int) := by omega
  have hqz : (0 : Int) ≤ (q : Int) := by omega
  obtain ⟨b', off', ya, yc, eb, _, hhy, q0, q1, q2, q3, hry⟩ := h5 q hql
  injection eb with eb
  injection eb with e1 e2
  subst e1; subst e2
  rw [nd_at hql] at hcall HFS
  have H5 : Hid (∀ (t : Nat) (ht : t < xs.length), w.cell? ⟨b, off + t * 4, none⟩ = some (.int .i64 xs[t].kind)) := by
    intro t ht
    obtain ⟨b2, off2, _, _, e, _, _, t0, _⟩ := h5 t ht
    injection e with e
    injection e with e1 e2
    subst e1; subst e2
    exact t0
  have kc1 := al1 kc0
  have y0 := al1 q0
  have y1 := al1 q1
  have y2 := al1 q2
  have y3 := al1 q3
  have hrr := Lib.hid hr
  have hj1 : (j : Int) < (xs[m].kids.length : Int) := by omega
  have hjz : (0 : Int) ≤ (j : Int) := by omega
  have hB2 : ∀ A B, Below w.heap.size w ((w.alloc A).alloc B) := fun A B => ((Below.refl _ _).alloc (Nat.le_refl _) A).alloc (by simp) B
  clear h5 kc0 q0 q1 q2 q3 hq HKD hr hrk
  generalize fitS xs xs[m] j = R at *
  generalize xs[q] = y at *
  generalize xs[m] = x at *
  obtain ⟨kind, text, kids, blank⟩ := x
  obtain ⟨yk, yt, ys, yb⟩ := y
  simp only at hkind
  subst hkind
  simp only at c0 c1 c2 c3 y0 y1 y2 y3 hj hj1 hkl hry HFS hcall
  obtain ⟨d12, e12⟩ : ∃ d, (yk == 12) = d := ⟨_, rfl⟩
  obtain ⟨d20, e20⟩ : ∃ d, (yk == 20) = d := ⟨_, rfl⟩
  obtain ⟨d19, e19⟩ : ∃ d, (yk == 19) = d := ⟨_, rfl⟩
  have HF : Hid (R = (d12 || d20 || d19)) := by
    show R = _
    rw [HFS.out, Bool.and_comm, ← e12, ← e20, ← e19]
    simp [fit1, isMem]
  cases d12 with
  | true =>
    go_enter Tryz.func82, Tryz.ntmps82
    go_wp2
    go_ret
    exact ⟨ret_bool (by rw [HF.out]; simp), hB2 _ _⟩
  | false =>
  cases d20 with
  | true =>
    go_enter Tryz.func82, Tryz.ntmps82
    go_wp2
    go_ret
    exact ⟨ret_bool (by rw [HF.out]; simp), hB2 _ _⟩
  | false =>
  go_enter Tryz.func82, Tryz.ntmps82
  go_wp2
  go_ret
  exact ⟨ret_bool (by rw [HF.out]; simp), hB2 _ _⟩
set_option maxHeartbeats 4000000 in
set_option maxRecDepth 100000 in
theorem fits_22 (hr : Rd nodeS lo hi w v xs) (_hh : hi ≤ w.heap.size) (hm : m < xs.length) (hj : j < xs[m].kids.length) (hb : 0 ≤ kd xs[m] j ∧ kd xs[m] j < xs.length) (hcall : callOk xs (nd xs (kd xs[m] j))) (hkind : xs[m].kind = 22) :
    Calls Tryz.prog 82 #[v, .int .i64 m, .int .i64 j] w fun e w' => e = .returned (.bool (fitS xs xs[m] j)) ∧ Below w.heap.size w w' := by
  obtain ⟨a, c, rfl, h2, h3, h4, h5⟩ := hr.nodeS
  unfold maxLen at h3
  obtain ⟨b, off, ka, kc, rfl, hlo, hhi, c0, c1, c2, c3, hrk⟩ := h5 m hm
  have hmi : (m : Int) < (xs.length : Int) := by omega
  have hmz : (0 : Int) ≤ (m : Int) := by omega
  obtain ⟨kb, koff, rfl, _, _, kc0⟩ := hrk.intAt hj
  obtain ⟨_, hkl, hkc⟩ := hrk.lenEq
  have HKD := Lib.hid (show kd xs[m] j = xs[m].kids.getD j 0 from rfl)
  have HFS := Lib.hid (show fitS xs xs[m] j = (fit1 xs[m].kind xs[m].kids.length j (nd xs (kd xs[m] j)).kind && (if xs[m].kind = 10 ∧ 0 < j then (nd xs (kd (nd xs (kd xs[m] j)) 0)).kind == 1 else true)) from rfl)
  rw [HKD.out] at hb hcall HFS
  obtain ⟨q, hq⟩ : ∃ q : Nat, xs[m].kids.getD j 0 = (q : Int) := ⟨(xs[m].kids.getD j 0).toNat, by omega⟩
  rw [hq] at hb hcall HFS kc0
  have hql : q < xs.length := by omega
  have hqi : (q : Int) < (xs.length : Int) := by omega
  have hqz : (0 : Int) ≤ (q : Int) := by omega
  obtain ⟨b', off', ya, yc, eb, _, hhy, q0, q1, q2, q3, hry⟩ := h5 q hql
  injection eb with eb
  injection eb with e1 e2
  subst e1; subst e2
  rw [nd_at hql] at hcall HFS
  have H5 : Hid (∀ (t : Nat) (ht : t < xs.length), w.cell? ⟨b, off + t * 4, none⟩ = some (.int .i64 xs[t].kind)) := by
    intro t ht
    obtain ⟨b2, off2, _, _, e, _, _, t0, _⟩ := h5 t ht
    injection e with e
    injection e with e1 e2
    subst e1; subst e2
    exact t0
  have kc1 := al1 kc0
  have y0 := al1 q0
  have y1 := al1 q1
  have y2 := al1 q2
  have y3 := al1 q3
  have hrr := Lib.hid hr
  have hj1 : (j : Int) < (xs[m].kids.length : Int) := by omega
  have hjz : (0 : Int) ≤ (j : Int) := by omega
  have hB2 : ∀ A B, Below w.heap.size w ((w.alloc A).alloc B) := fun A B => ((Below.refl _ _).alloc (Nat.le_refl _) A).alloc (by simp) B
  clear h5 kc0 q0 q1 q2 q3 hq HKD hr hrk
  generalize fitS xs xs[m] j = R at *
  generalize xs[q] = y at *
  generalize xs[m] = x at *
  obtain ⟨kind, text, kids, blank⟩ := x
  obtain ⟨yk, yt, ys, yb⟩ := y
  simp only at hkind
  subst hkind
  simp only at c0 c1 c2 c3 y0 y1 y2 y3 hj hj1 hkl hry HFS hcall
  obtain ⟨d21, e21⟩ : ∃ d, (yk == 21) = d := ⟨_, rfl⟩
  obtain ⟨d12, e12⟩ : ∃ d, (yk == 12) = d := ⟨_, rfl⟩
  obtain ⟨d20, e20⟩ : ∃ d, (yk == 20) = d := ⟨_, rfl⟩
  obtain ⟨d19, e19⟩ : ∃ d, (yk == 19) = d := ⟨_, rfl⟩
  have HF : Hid (R = ((d12 || d20 || d19) || d21)) := by
    show R = _
    rw [HFS.out, Bool.and_comm, ← e21, ← e12, ← e20, ← e19]
    simp [fit1, isMem]
  cases d21 with
  | true =>
    go_enter Tryz.func82, Tryz.ntmps82
    go_wp2
    go_ret
    exact ⟨ret_bool (by rw [HF.out]; simp), hB2 _ _⟩
  | false =>
  cases d12 with
  | true =>
    go_enter Tryz.func82, Tryz.ntmps82
    go_wp2
    go_ret
    exact ⟨ret_bool (by rw [HF.out]; simp), hB2 _ _⟩
  | false =>
  cases d20 with
  | true =>
    go_enter Tryz.func82, Tryz.ntmps82
    go_wp2
    go_ret
    exact ⟨ret_bool (by rw [HF.out]; simp), hB2 _ _⟩
  | false =>
  go_enter Tryz.func82, Tryz.ntmps82
  go_wp2
  go_ret
  exact ⟨ret_bool (by rw [HF.out]; simp), hB2 _ _⟩
theorem fits_any (hr : Rd nodeS lo hi w v xs) (hh : hi ≤ w.heap.size) (hm : m < xs.length) (hj : j < xs[m].kids.length) (hb : 0 ≤ kd xs[m] j ∧ kd xs[m] j < xs.length) (hcall : callOk xs (nd xs (kd xs[m] j))) (hkind : 1 ≤ xs[m].kind ∧ xs[m].kind ≤ 22) :
    Calls Tryz.prog 82 #[v, .int .i64 m, .int .i64 j] w fun e w' => e = .returned (.bool (fitS xs xs[m] j)) ∧ Below w.heap.size w w' := by
  rcases kind_cases xs[m].kind with h | h | h | h | h | h | h | h | h | h | h | h | h | h | h | h | h | h | h | h | h | h | h
  · exact fits_1 xs v lo hi m j w hr hh hm hj hb hcall h
  · exact fits_2 xs v lo hi m j w hr hh hm hj hb hcall h
  · exact fits_3 xs v lo hi m j w hr hh hm hj hb hcall h
  · exact fits_4 xs v lo hi m j w hr hh hm hj hb hcall h
  · exact fits_5 xs v lo hi m j w hr hh hm hj hb hcall h
  · exact fits_6 xs v lo hi m j w hr hh hm hj hb hcall h
  · exact fits_7 xs v lo hi m j w hr hh hm hj hb hcall h
  · exact fits_8 xs v lo hi m j w hr hh hm hj hb hcall h
  · exact fits_9 xs v lo hi m j w hr hh hm hj hb hcall h
  · exact fits_10 xs v lo hi m j w hr hh hm hj hb hcall h
  · exact fits_11 xs v lo hi m j w hr hh hm hj hb hcall h
  · exact fits_12 xs v lo hi m j w hr hh hm hj hb hcall h
  · exact fits_13 xs v lo hi m j w hr hh hm hj hb hcall h
  · exact fits_14 xs v lo hi m j w hr hh hm hj hb hcall h
  · exact fits_15 xs v lo hi m j w hr hh hm hj hb hcall h
  · exact fits_16 xs v lo hi m j w hr hh hm hj hb hcall h
  · exact fits_17 xs v lo hi m j w hr hh hm hj hb hcall h
  · exact fits_18 xs v lo hi m j w hr hh hm hj hb hcall h
  · exact fits_19 xs v lo hi m j w hr hh hm hj hb hcall h
  · exact fits_20 xs v lo hi m j w hr hh hm hj hb hcall h
  · exact fits_21 xs v lo hi m j w hr hh hm hj hb hcall h
  · exact fits_22 xs v lo hi m j w hr hh hm hj hb hcall h
  · exact absurd hkind h
end
end Go.Proofs.YtoloplpmjcgbdaaGreatDoor
