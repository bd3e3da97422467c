/- What must stand in brackets, of both. By mk_wants.py. -/
import Derived.Test.YtefcelolakpnoaaDoorLevel
namespace Go.Proofs.YtefcelolakpnoaaDoor
open Go.RowKit

/-- one is a chain of plus, the other one of minus -/
def swapB (xt : ByteArray) (yk : Int) (yt : ByteArray) : Bool := (yk == 7) && (((xt.toList == [43]) && (yt.toList == [45])) || ((xt.toList == [45]) && (yt.toList == [43])))
def wantsB (xk : Int) (xt : ByteArray) (n : Nat) (i yk : Int) (yt : ByteArray) : Bool :=
  if xk = 5 then (i == 0) && decide (levelN yk yt < 8)
  else if xk = 6 then decide (levelN yk yt < 8)
  else if xk = 7 then decide (levelN yk yt ≤ chainL xt) && !((i == 0) && swapB xt yk yt)
  else if xk = 8 then (if i = 0 then decide (levelN yk yt < 2) else decide (levelN yk yt < 1))
  else if xk = 9 then (i == (n : Int) - 1) && decide (levelN yk yt < 1)
  else if xk = 10 then (i == 0) && decide (levelN yk yt < 1)
  else false
theorem mem_chain {t : ByteArray} (h : inMarks chainMs t = true) : t.toList = [38, 38] ∨ t.toList = [124, 124] ∨ t.toList = [61, 61] ∨ t.toList = [60] ∨ t.toList = [43] ∨ t.toList = [45] ∨ t.toList = [42] := by
  simp only [inMarks, chainMs, List.any_cons, List.any_nil, Bool.or_false, Bool.or_eq_true, Lib.toList_data, beq_iff_eq] at h
  simp only [Lib.toList_data]
  exact h
theorem swap_eq {xt yt : ByteArray} {yk : Int} (hx : inMarks chainMs xt = true) (hy : yk = 7 → inMarks chainMs yt = true) : ((yk == 7) && (yt.toList != xt.toList) && (levelN yk yt == 6) && (chainL xt == 6)) = swapB xt yk yt := by
  by_cases h7 : yk = 7
  · subst h7
    have e : levelN 7 yt = chainL yt := rfl
    rw [e]
    unfold swapB chainL
    rcases mem_chain hx with h | h | h | h | h | h | h <;> rcases mem_chain (hy rfl) with g | g | g | g | g | g | g <;> rw [h, g] <;> rfl
  · unfold swapB
    rw [beq_eq_false_iff_ne.2 h7]; rfl
/-- two nodes, each in a block of its own -/
def Two (w : World) (B : Nat) (xk : Int) (xt : ByteArray) (xa : Value) (xb : Bool) (yk : Int) (yt : ByteArray) (ya : Value) (yb : Bool) : Prop :=
  (w.cell? ⟨B, 0, none⟩ = some (.int .i64 xk) ∧ w.cell? ⟨B, 1, none⟩ = some (.string xt) ∧ w.cell? ⟨B, 2, none⟩ = some xa ∧ w.cell? ⟨B, 3, none⟩ = some (.bool xb)) ∧
  (w.cell? ⟨B + 1, 0, none⟩ = some (.int .i64 yk) ∧ w.cell? ⟨B + 1, 1, none⟩ = some (.string yt) ∧ w.cell? ⟨B + 1, 2, none⟩ = some ya ∧ w.cell? ⟨B + 1, 3, none⟩ = some (.bool yb))
theorem Two.below {w w' : World} {B : Nat} {xk : Int} {xt : ByteArray} {xa : Value} {xb : Bool} {yk : Int} {yt : ByteArray} {ya : Value} {yb : Bool} (h : Two w B xk xt xa xb yk yt ya yb) (hb : Below w.heap.size w w') (hs : B + 1 < w.heap.size) : Two w' B xk xt xa xb yk yt ya yb :=
  ⟨⟨(hb.cell (p := ⟨B, _, none⟩) (by show B < _; omega)).trans h.1.1, (hb.cell (p := ⟨B, _, none⟩) (by show B < _; omega)).trans h.1.2.1, (hb.cell (p := ⟨B, _, none⟩) (by show B < _; omega)).trans h.1.2.2.1, (hb.cell (p := ⟨B, _, none⟩) (by show B < _; omega)).trans h.1.2.2.2⟩,
   ⟨(hb.cell (p := ⟨B + 1, _, none⟩) (by show B + 1 < _; omega)).trans h.2.1, (hb.cell (p := ⟨B + 1, _, none⟩) (by show B + 1 < _; omega)).trans h.2.2.1, (hb.cell (p := ⟨B + 1, _, none⟩) (by show B + 1 < _; omega)).trans h.2.2.2.1, (hb.cell (p := ⟨B + 1, _, none⟩) (by show B + 1 < _; omega)).trans h.2.2.2.2⟩⟩
theorem two_of (w : World) (T : TypeId) (xk : Int) (xt : ByteArray) (xa : Value) (xb : Bool) (yk : Int) (yt : ByteArray) (ya : Value) (yb : Bool) :
    Two ((w.alloc (.cells #[.int .i64 xk, .string xt, xa, .bool xb] T)).alloc (.cells #[.int .i64 yk, .string yt, ya, .bool yb] T)) w.heap.size xk xt xa xb yk yt ya yb := by
  obtain ⟨p0, p1⟩ := heap_two w (.cells #[.int .i64 xk, .string xt, xa, .bool xb] T) (.cells #[.int .i64 yk, .string yt, ya, .bool yb] T)
  exact ⟨⟨cell_heap (j := 0) p0 rfl, cell_heap (j := 1) p0 rfl, cell_heap (j := 2) p0 rfl, cell_heap (j := 3) p0 rfl⟩, ⟨cell_heap (j := 0) p1 rfl, cell_heap (j := 1) p1 rfl, cell_heap (j := 2) p1 rfl, cell_heap (j := 3) p1 rfl⟩⟩
set_option maxHeartbeats 1000000 in
set_option maxRecDepth 100000 in
theorem isSwap_any (xt : ByteArray) (xa : Value) (xb : Bool) (yk : Int) (yt : ByteArray) (ya : Value) (yb : Bool) (w : World) :
    Calls Tryd.prog 86 #[.agg #[.int .i64 7, .string xt, xa, .bool xb], .agg #[.int .i64 yk, .string yt, ya, .bool yb]] w fun e w' => e = .returned (.bool (swapB xt yk yt)) ∧ Below w.heap.size w w' := by
  have hba : ∀ A B, Below w.heap.size w ((w.alloc A).alloc B) := fun A B => ((Below.refl _ _).alloc (Nat.le_refl _) A).alloc (by simp) B
  obtain ⟨d1, e1⟩ : ∃ d, (yk != 7) = d := ⟨_, rfl⟩
  have e2 : (yk == 7) = !d1 := by rw [← e1]; simp [bne]
  obtain ⟨a1, f1⟩ : ∃ d, (xt.toList == [43]) = d := ⟨_, rfl⟩
  obtain ⟨a2, f2⟩ : ∃ d, (yt.toList == [45]) = d := ⟨_, rfl⟩
  obtain ⟨a3, f3⟩ : ∃ d, (xt.toList == [45]) = d := ⟨_, rfl⟩
  obtain ⟨a4, f4⟩ : ∃ d, (yt.toList == [43]) = d := ⟨_, rfl⟩
  have HF := Lib.hid (show swapB xt yk yt = (!d1 && ((a1 && a2) || (a3 && a4))) by rw [swapB, e2, f1, f2, f3, f4])
  clear e2
  cases d1 <;> cases a1 <;> cases a2 <;> cases a3 <;>
    (go_enter Tryd.func86, Tryd.ntmps86; go_wp2; go_ret; exact ⟨ret_bool (by rw [HF.out]; simp), hba _ _⟩)
set_option maxHeartbeats 8000000 in
set_option maxRecDepth 100000 in
theorem wants_impl (xk : Int) (xt : ByteArray) (ka : Option Addr) (n kc : Nat) (xb : Bool) (i yk : Int) (yt : ByteArray) (ya : Value) (yb : Bool) (w : World) (hn : n ≤ 1048576) (hI : 0 ≤ i ∧ i ≤ 1048576) :
    Calls Tryd.prog 68 #[.agg #[.int .i64 xk, .string xt, .slice ka n kc, .bool xb], .int .i64 i, .agg #[.int .i64 yk, .string yt, ya, .bool yb]] w fun e w' => e = .returned (.bool (wantsB xk xt n i yk yt)) ∧ Below w.heap.size w w' := by
  obtain ⟨hI0, hI1⟩ := hI
  have hba : ∀ A B, Below w.heap.size w ((w.alloc A).alloc B) := fun A B => ((Below.refl _ _).alloc (Nat.le_refl _) A).alloc (by simp) B
  have HT := Lib.hid (two_of w 46 xk xt (.slice ka n kc) xb yk yt ya yb)
  obtain ⟨l, hl⟩ : ∃ l, Hid (levelN yk yt = l) := ⟨_, rfl⟩
  have HW : Hid (wantsB xk xt n i yk yt = wantsB xk xt n i yk yt) := rfl
  go_enter Tryd.func68, Tryd.ntmps68
  go_wp2_with fail
  generalize hX : Obj.cells #[Value.int IntKind.i64 xk, Value.string xt, Value.slice ka n kc, Value.bool xb] 46 = X at *
  generalize hY : Obj.cells #[Value.int IntKind.i64 yk, Value.string yt, ya, Value.bool yb] 46 = Y at *
  have hb0 := hba X Y
  have hs0 : ((w.alloc X).alloc Y).heap.size = w.heap.size + 2 := by simp
  generalize (w.alloc X).alloc Y = w0 at *
  clear hX hY hba
  refine (levelOf_any yk yt _ yb _).mono ?_
  rintro e w1 ⟨rfl, hb1⟩
  have hs1 := hb1.size
  have HT1 := HT.out.below hb1 (by omega)
  have hbW : Below w.heap.size w w1 := hb0.trans (hb1.mono (by omega))
  obtain ⟨⟨x0, x1, x2, x3⟩, ⟨y0, y1, y2, y3⟩⟩ := HT1
  rw [hl.out]
  by_cases h5 : xk = 5
  · subst h5
    cases c : (i == 0) with
    | true =>
      have HF : Hid (wantsB 5 xt n i yk yt = decide (l < 8)) := by show _ = _; unfold wantsB; rw [hl.out, c]; simp
      go_wp2
      go_ret
      exact ⟨ret_bool HF.out.symm, hbW⟩
    | false =>
      have HF : Hid (wantsB 5 xt n i yk yt = false) := by show _ = _; unfold wantsB; rw [hl.out, c]; simp
      go_wp2
      go_ret
      exact ⟨ret_bool HF.out.symm, hbW⟩
  by_cases h6 : xk = 6
  · subst h6
    have HF : Hid (wantsB 6 xt n i yk yt = decide (l < 8)) := by show _ = _; unfold wantsB; rw [hl.out]; simp
    go_wp2
    go_ret
    exact ⟨ret_bool HF.out.symm, hbW⟩
  by_cases h7 : xk = 7
  · subst h7
    have H7 : Hid (wantsB 7 xt n i yk yt = (decide (l ≤ chainL xt) && !((i == 0) && swapB xt yk yt))) := by show _ = _; unfold wantsB; rw [hl.out]; simp
    go_wp2_with fail
    refine (chainLevel_any xt _).mono ?_
    rintro e w' ⟨rfl, hw⟩
    subst hw
    obtain ⟨cl, hcl⟩ : ∃ cl, Hid (chainL xt = cl) := ⟨_, rfl⟩
    rw [hcl.out] at H7 ⊢
    by_cases q : l ≤ cl
    · have q2 : decide (l ≤ cl) = true := decide_eq_true q
      rw [q2] at H7
      clear q
      cases c : (i == 0) with
      | false =>
        have HF : Hid (wantsB 7 xt n i yk yt = true) := by show _ = _; rw [H7.out, c]; rfl
        go_wp2
        go_ret
        exact ⟨ret_bool HF.out.symm, hbW⟩
      | true =>
        have HF : Hid (wantsB 7 xt n i yk yt = !swapB xt yk yt) := by show _ = _; rw [H7.out, c]; rfl
        go_wp2_with fail
        refine (isSwap_any xt _ xb yk yt _ yb _).mono ?_
        rintro e w2 ⟨rfl, hb2⟩
        replace hbW : Below w.heap.size w w2 := hbW.trans (hb2.mono (by omega))
        go_wp2
        go_ret
        exact ⟨ret_bool HF.out.symm, hbW⟩
    · have q2 : decide (l ≤ cl) = false := decide_eq_false q
      have HF : Hid (wantsB 7 xt n i yk yt = false) := by show _ = _; rw [H7.out, q2]; rfl
      clear q
      go_wp2
      go_ret
      exact ⟨ret_bool HF.out.symm, hbW⟩
  by_cases h8 : xk = 8
  · subst h8
    cases c : (i == 0) with
    | true =>
      have HF : Hid (wantsB 8 xt n i yk yt = decide (l < 2)) := by show _ = _; unfold wantsB; rw [hl.out]; simp [show i = 0 from by simpa using c]
      go_wp2
      go_ret
      exact ⟨ret_bool HF.out.symm, hbW⟩
    | false =>
      have HF : Hid (wantsB 8 xt n i yk yt = decide (l < 1)) := by show _ = _; unfold wantsB; rw [hl.out]; simp [show i ≠ 0 from by simpa using c]
      go_wp2
      go_ret
      exact ⟨ret_bool HF.out.symm, hbW⟩
  by_cases h9 : xk = 9
  · subst h9
    cases c : (i == (n : Int) - 1) with
    | true =>
      have HF : Hid (wantsB 9 xt n i yk yt = decide (l < 1)) := by show _ = _; unfold wantsB; rw [hl.out, c]; simp
      go_wp2
      go_ret
      exact ⟨ret_bool HF.out.symm, hbW⟩
    | false =>
      have HF : Hid (wantsB 9 xt n i yk yt = false) := by show _ = _; unfold wantsB; rw [hl.out, c]; simp
      go_wp2
      go_ret
      exact ⟨ret_bool HF.out.symm, hbW⟩
  by_cases h10 : xk = 10
  · subst h10
    cases c : (i == 0) with
    | true =>
      have HF : Hid (wantsB 10 xt n i yk yt = decide (l < 1)) := by show _ = _; unfold wantsB; rw [hl.out, c]; simp
      go_wp2
      go_ret
      exact ⟨ret_bool HF.out.symm, hbW⟩
    | false =>
      have HF : Hid (wantsB 10 xt n i yk yt = false) := by show _ = _; unfold wantsB; rw [hl.out, c]; simp
      go_wp2
      go_ret
      exact ⟨ret_bool HF.out.symm, hbW⟩
  have m5 := eqf h5
  have m6 := eqf h6
  have m7 := eqf h7
  have m8 := eqf h8
  have m9 := eqf h9
  have m10 := eqf h10
  have HF : Hid (wantsB xk xt n i yk yt = false) := by show _ = _; unfold wantsB; rw [if_neg h5, if_neg h6, if_neg h7, if_neg h8, if_neg h9, if_neg h10]
  clear h5 h6 h7 h8 h9 h10
  go_wp2
  go_ret
  exact ⟨ret_bool HF.out.symm, hbW⟩
set_option maxHeartbeats 8000000 in
set_option maxRecDepth 100000 in
theorem wants_spec (xk : Int) (xt : ByteArray) (ka : Option Addr) (n kc : Nat) (xb : Bool) (i yk : Int) (yt : ByteArray) (ya : Value) (yb : Bool) (w : World) (hn : n ≤ 1048576) (hI : 0 ≤ i ∧ i ≤ 1048576) (hx : xk = 7 → inMarks chainMs xt = true) (hy : yk = 7 → inMarks chainMs yt = true) :
    Calls Tryd.prog 66 #[.agg #[.int .i64 xk, .string xt, .slice ka n kc, .bool xb], .int .i64 i, .agg #[.int .i64 yk, .string yt, ya, .bool yb]] w fun e w' => e = .returned (.bool (wantsB xk xt n i yk yt)) ∧ Below w.heap.size w w' := by
  obtain ⟨hI0, hI1⟩ := hI
  have hiw : i + 1 ≤ 9223372036854775807 := by omega
  have HSW := Lib.hid (fun h : xk = 7 => swap_eq (hx h) hy)
  have HX := Lib.hid hx
  clear hx
  have hba : ∀ A B, Below w.heap.size w ((w.alloc A).alloc B) := fun A B => ((Below.refl _ _).alloc (Nat.le_refl _) A).alloc (by simp) B
  have HT := Lib.hid (two_of w 46 xk xt (.slice ka n kc) xb yk yt ya yb)
  obtain ⟨l, hl⟩ : ∃ l, Hid (levelN yk yt = l) := ⟨_, rfl⟩
  have HW : Hid (wantsB xk xt n i yk yt = wantsB xk xt n i yk yt) := rfl
  go_enter Tryd.func66, Tryd.ntmps66
  go_wp2_with fail
  generalize hX : Obj.cells #[Value.int IntKind.i64 xk, Value.string xt, Value.slice ka n kc, Value.bool xb] 46 = X at *
  generalize hY : Obj.cells #[Value.int IntKind.i64 yk, Value.string yt, ya, Value.bool yb] 46 = Y at *
  have hb0 := hba X Y
  have hs0 : ((w.alloc X).alloc Y).heap.size = w.heap.size + 2 := by simp
  generalize (w.alloc X).alloc Y = w0 at *
  clear hX hY hba
  refine (l23Level_any yk yt _ yb _ hy).mono ?_
  rintro e w1 ⟨rfl, hb1⟩
  have hs1 := hb1.size
  have HT1 := HT.out.below hb1 (by omega)
  have hbW : Below w.heap.size w w1 := hb0.trans (hb1.mono (by omega))
  obtain ⟨⟨x0, x1, x2, x3⟩, ⟨y0, y1, y2, y3⟩⟩ := HT1
  rw [hl.out]
  by_cases h5 : xk = 5
  · subst h5
    cases c : (i == 0) with
    | true =>
      have HF : Hid (wantsB 5 xt n i yk yt = decide (l < 8)) := by show _ = _; unfold wantsB; rw [hl.out, c]; simp
      go_wp2
      go_ret
      exact ⟨ret_bool HF.out.symm, hbW⟩
    | false =>
      have HF : Hid (wantsB 5 xt n i yk yt = false) := by show _ = _; unfold wantsB; rw [hl.out, c]; simp
      go_wp2
      go_ret
      exact ⟨ret_bool HF.out.symm, hbW⟩
  by_cases h6 : xk = 6
  · subst h6
    have HF : Hid (wantsB 6 xt n i yk yt = decide (l < 8)) := by show _ = _; unfold wantsB; rw [hl.out]; simp
    go_wp2
    go_ret
    exact ⟨ret_bool HF.out.symm, hbW⟩
  by_cases h7 : xk = 7
  · subst h7
    have H7 : Hid (wantsB 7 xt n i yk yt = (decide (l ≤ chainL xt) && !((i == 0) && ((yk == 7) && (yt.toList != xt.toList) && (l == 6) && (chainL xt == 6))))) := by show _ = _; rw [← hl.out, HSW.out rfl]; unfold wantsB; simp
    have HLX := Lib.hid (fun w => l23Level_any 7 xt (.slice ka n kc) xb w HX.out)
    have HLE : Hid (levelN 7 xt = chainL xt) := rfl
    rw [HLE.out] at HLX
    obtain ⟨cl, hcl⟩ : ∃ cl, Hid (chainL xt = cl) := ⟨_, rfl⟩
    rw [hcl.out] at H7 HLX
    have tail : ∀ (d : Bool), Hid (wantsB 7 xt n i yk yt = (decide (l ≤ cl) && !d)) → True := fun _ _ => trivial
    clear tail
    cases c1 : (i == 0) with
    | false =>
      have HD : Hid (wantsB 7 xt n i yk yt = (decide (l ≤ cl) && !false)) := by show _ = _; rw [H7.out, c1]; simp
      go_wp2_with fail
      refine (HLX.out _).mono ?_
      rintro e w3 ⟨rfl, hb3⟩
      replace hbW : Below w.heap.size w w3 := hbW.trans (hb3.mono hbW.size)
      by_cases q : l ≤ cl
      · have q2 : decide (l ≤ cl) = true := decide_eq_true q
        have HF : Hid (wantsB 7 xt n i yk yt = true) := by show _ = _; rw [HD.out, q2]; rfl
        clear q
        go_wp2
        go_ret
        exact ⟨ret_bool HF.out.symm, hbW⟩
      · have q2 : decide (l ≤ cl) = false := decide_eq_false q
        have HF : Hid (wantsB 7 xt n i yk yt = false) := by show _ = _; rw [HD.out, q2]; rfl
        clear q
        go_wp2
        go_ret
        exact ⟨ret_bool HF.out.symm, hbW⟩
    | true =>
    cases c2 : (yk == 7) with
    | false =>
      have HD : Hid (wantsB 7 xt n i yk yt = (decide (l ≤ cl) && !false)) := by show _ = _; rw [H7.out, c1, c2]; simp
      go_wp2_with fail
      refine (HLX.out _).mono ?_
      rintro e w3 ⟨rfl, hb3⟩
      replace hbW : Below w.heap.size w w3 := hbW.trans (hb3.mono hbW.size)
      by_cases q : l ≤ cl
      · have q2 : decide (l ≤ cl) = true := decide_eq_true q
        have HF : Hid (wantsB 7 xt n i yk yt = true) := by show _ = _; rw [HD.out, q2]; rfl
        clear q
        go_wp2
        go_ret
        exact ⟨ret_bool HF.out.symm, hbW⟩
      · have q2 : decide (l ≤ cl) = false := decide_eq_false q
        have HF : Hid (wantsB 7 xt n i yk yt = false) := by show _ = _; rw [HD.out, q2]; rfl
        clear q
        go_wp2
        go_ret
        exact ⟨ret_bool HF.out.symm, hbW⟩
    | true =>
    cases c3 : (yt.toList == xt.toList) with
    | true =>
      have HD : Hid (wantsB 7 xt n i yk yt = (decide (l ≤ cl) && !false)) := by show _ = _; rw [H7.out, c1, c2]; simp [bne, c3]
      go_wp2_with fail
      refine (HLX.out _).mono ?_
      rintro e w3 ⟨rfl, hb3⟩
      replace hbW : Below w.heap.size w w3 := hbW.trans (hb3.mono hbW.size)
      by_cases q : l ≤ cl
      · have q2 : decide (l ≤ cl) = true := decide_eq_true q
        have HF : Hid (wantsB 7 xt n i yk yt = true) := by show _ = _; rw [HD.out, q2]; rfl
        clear q
        go_wp2
        go_ret
        exact ⟨ret_bool HF.out.symm, hbW⟩
      · have q2 : decide (l ≤ cl) = false := decide_eq_false q
        have HF : Hid (wantsB 7 xt n i yk yt = false) := by show _ = _; rw [HD.out, q2]; rfl
        clear q
        go_wp2
        go_ret
        exact ⟨ret_bool HF.out.symm, hbW⟩
    | false =>
    cases c4 : (l == 6) with
    | false =>
      have HD : Hid (wantsB 7 xt n i yk yt = (decide (l ≤ cl) && !false)) := by show _ = _; rw [H7.out, c1, c2, c4]; simp
      go_wp2_with fail
      refine (HLX.out _).mono ?_
      rintro e w3 ⟨rfl, hb3⟩
      replace hbW : Below w.heap.size w w3 := hbW.trans (hb3.mono hbW.size)
      by_cases q : l ≤ cl
      · have q2 : decide (l ≤ cl) = true := decide_eq_true q
        have HF : Hid (wantsB 7 xt n i yk yt = true) := by show _ = _; rw [HD.out, q2]; rfl
        clear q
        go_wp2
        go_ret
        exact ⟨ret_bool HF.out.symm, hbW⟩
      · have q2 : decide (l ≤ cl) = false := decide_eq_false q
        have HF : Hid (wantsB 7 xt n i yk yt = false) := by show _ = _; rw [HD.out, q2]; rfl
        clear q
        go_wp2
        go_ret
        exact ⟨ret_bool HF.out.symm, hbW⟩
    | true =>
    go_wp2_with fail
    refine (HLX.out _).mono ?_
    rintro e w2 ⟨rfl, hb2⟩
    have hs2 := hb2.size
    obtain ⟨⟨x0, x1, x2, x3⟩, ⟨y0, y1, y2, y3⟩⟩ := (Two.below ⟨⟨x0, x1, x2, x3⟩, ⟨y0, y1, y2, y3⟩⟩ hb2 (by omega))
    replace hbW : Below w.heap.size w w2 := hbW.trans (hb2.mono (by omega))
    cases c5 : (cl == 6) with
    | false =>
      have HD : Hid (wantsB 7 xt n i yk yt = (decide (l ≤ cl) && !false)) := by show _ = _; rw [H7.out, c1, c2, c4, c5]; simp [bne, c3]
      go_wp2_with fail
      refine (HLX.out _).mono ?_
      rintro e w3 ⟨rfl, hb3⟩
      replace hbW : Below w.heap.size w w3 := hbW.trans (hb3.mono hbW.size)
      by_cases q : l ≤ cl
      · have q2 : decide (l ≤ cl) = true := decide_eq_true q
        have HF : Hid (wantsB 7 xt n i yk yt = true) := by show _ = _; rw [HD.out, q2]; rfl
        clear q
        go_wp2
        go_ret
        exact ⟨ret_bool HF.out.symm, hbW⟩
      · have q2 : decide (l ≤ cl) = false := decide_eq_false q
        have HF : Hid (wantsB 7 xt n i yk yt = false) := by show _ = _; rw [HD.out, q2]; rfl
        clear q
        go_wp2
        go_ret
        exact ⟨ret_bool HF.out.symm, hbW⟩
    | true =>
      have HD : Hid (wantsB 7 xt n i yk yt = (decide (l ≤ cl) && !true)) := by show _ = _; rw [H7.out, c1, c2, c4, c5]; simp [bne, c3]
      go_wp2_with fail
      refine (HLX.out _).mono ?_
      rintro e w3 ⟨rfl, hb3⟩
      replace hbW : Below w.heap.size w w3 := hbW.trans (hb3.mono hbW.size)
      by_cases q : l ≤ cl
      · have q2 : decide (l ≤ cl) = true := decide_eq_true q
        have HF : Hid (wantsB 7 xt n i yk yt = false) := by show _ = _; rw [HD.out, q2]; rfl
        clear q
        go_wp2
        go_ret
        exact ⟨ret_bool HF.out.symm, hbW⟩
      · have q2 : decide (l ≤ cl) = false := decide_eq_false q
        have HF : Hid (wantsB 7 xt n i yk yt = false) := by show _ = _; rw [HD.out, q2]; rfl
        clear q
        go_wp2
        go_ret
        exact ⟨ret_bool HF.out.symm, hbW⟩
  by_cases h8 : xk = 8
  · subst h8
    cases c : (i == 0) with
    | true =>
      have HF : Hid (wantsB 8 xt n i yk yt = decide (l < 2)) := by show _ = _; unfold wantsB; rw [hl.out]; simp [show i = 0 from by simpa using c]
      by_cases q : l < 2
      · have q2 : decide (l < 2) = true := decide_eq_true q
        rw [q2] at HF
        clear q
        go_wp2
        go_ret
        exact ⟨ret_bool HF.out.symm, hbW⟩
      · have q2 : decide (l < 2) = false := decide_eq_false q
        have q3 : decide (l < 1) = false := decide_eq_false (by omega)
        rw [q2] at HF
        clear q
        go_wp2
        go_ret
        exact ⟨ret_bool HF.out.symm, hbW⟩
    | false =>
      have HF : Hid (wantsB 8 xt n i yk yt = decide (l < 1)) := by show _ = _; unfold wantsB; rw [hl.out]; simp [show i ≠ 0 from by simpa using c]
      go_wp2
      go_ret
      exact ⟨ret_bool HF.out.symm, hbW⟩
  by_cases h9 : xk = 9
  · subst h9
    have c9 : (i + 1 == (n : Int)) = (i == (n : Int) - 1) := by rw [Bool.eq_iff_iff, beq_iff_eq, beq_iff_eq]; omega
    cases c : (i == (n : Int) - 1) with
    | true =>
      have HF : Hid (wantsB 9 xt n i yk yt = decide (l < 1)) := by show _ = _; unfold wantsB; rw [hl.out, c]; simp
      rw [c] at c9
      go_wp2
      go_ret
      exact ⟨ret_bool HF.out.symm, hbW⟩
    | false =>
      have HF : Hid (wantsB 9 xt n i yk yt = false) := by show _ = _; unfold wantsB; rw [hl.out, c]; simp
      rw [c] at c9
      go_wp2
      go_ret
      exact ⟨ret_bool HF.out.symm, hbW⟩
  by_cases h10 : xk = 10
  · subst h10
    cases c : (i == 0) with
    | true =>
      have HF : Hid (wantsB 10 xt n i yk yt = decide (l < 1)) := by show _ = _; unfold wantsB; rw [hl.out, c]; simp
      go_wp2
      go_ret
      exact ⟨ret_bool HF.out.symm, hbW⟩
    | false =>
      have HF : Hid (wantsB 10 xt n i yk yt = false) := by show _ = _; unfold wantsB; rw [hl.out, c]; simp
      go_wp2
      go_ret
      exact ⟨ret_bool HF.out.symm, hbW⟩
  have m5 := eqf h5
  have m6 := eqf h6
  have m7 := eqf h7
  have m8 := eqf h8
  have m9 := eqf h9
  have m10 := eqf h10
  have HF : Hid (wantsB xk xt n i yk yt = false) := by show _ = _; unfold wantsB; rw [if_neg h5, if_neg h6, if_neg h7, if_neg h8, if_neg h9, if_neg h10]
  clear h5 h6 h7 h8 h9 h10
  go_wp2
  go_ret
  exact ⟨ret_bool HF.out.symm, hbW⟩
end Go.Proofs.YtefcelolakpnoaaDoor
