/- SameRan of the program and of the reference. -/
import Derived.Test.YthfeochekadhcaaRan
namespace Go.Proofs.Ythfeochekadhcaa
open Go.RowKit
def sameR (x y : Ran) : Bool := x.out == y.out && (x.ret == y.ret && (x.code == y.code && x.steps == y.steps))
theorem int_no {x y : Int} (h : x ≠ y) : (x == y) = false ∧ (x != y) = true ∧ decide (x = y) = false := by simp [h]
theorem int_yes {x y : Int} (h : x = y) : (x == y) = true ∧ (x != y) = false ∧ decide (x = y) = true := by simp [h]
theorem beq_len {xs ys : List Int} (h : xs.length ≠ ys.length) : (xs == ys) = false := beq_eq_false_iff_ne.2 fun e => h (congrArg List.length e)
theorem beq_at {xs ys : List Int} {k : Nat} (h1 : k < xs.length) (h2 : k < ys.length) (h : xs[k] ≠ ys[k]) : (xs == ys) = false := beq_eq_false_iff_ne.2 fun e => h (by subst e; rfl)
theorem take_next {xs ys : List Int} {k : Nat} (h1 : k < xs.length) (h2 : k < ys.length) (h : xs[k] = ys[k]) (ht : xs.take k = ys.take k) : xs.take (k + 1) = ys.take (k + 1) := by
  rw [List.take_succ_eq_append_getElem h1, List.take_succ_eq_append_getElem h2, ht, h]
set_option maxHeartbeats 400000 in
set_option maxRecDepth 100000 in
theorem equalI_any (xs ys : List Int) (v u : Value) (lo hi lo' hi' : Nat) (w : World) (hr : Rd intF.shape lo hi w v xs) (hh : hi ≤ w.heap.size) (hr' : Rd intF.shape lo' hi' w u ys) (hh' : hi' ≤ w.heap.size) :
    Calls Try.prog 79 #[v, u] w fun e w' => e = .returned (.bool (xs == ys)) ∧ Below w.heap.size w w' := by
  have hl := hr.len_le
  have hl' := hr'.len_le
  obtain ⟨a, c, rfl, h2, h3, h4, h5⟩ := hr.intF
  obtain ⟨a', c', rfl, h2', h3', h4', h5'⟩ := hr'.intF
  unfold maxLen at h3 h3'
  by_cases hn : xs.length = ys.length
  · have HN := Lib.hid hn
    rw [← HN.out]
    go_enter Try.func79, Try.ntmps79
    go_wp2
    go_loopw [13] (fun i wr => ∃ k : Nat, k ≤ xs.length ∧ i = .int .i64 k ∧ Hid (xs.take k = ys.take k) ∧ Below w.heap.size w wr) (fun i _ => xs.length - (intOf i).toNat)
    case atStart => exact ⟨0, Nat.zero_le _, rfl, rfl, Below.refl _ _⟩
    case round =>
      obtain ⟨k, hk, rfl, HT, hb⟩ := hrel
      by_cases hlt : k < xs.length
      · have hlt' : k < ys.length := by omega
        obtain ⟨b, off, rfl, hlo, hhi, c0⟩ := h5 k hlt
        obtain ⟨b', off', rfl, hlo', hhi', q0⟩ := h5' k hlt'
        have d0 := (hb.cell (p := ⟨b, _, none⟩) (by show b < _; omega)).trans c0
        have r0 := (hb.cell (p := ⟨b', _, none⟩) (by show b' < _; omega)).trans q0
        clear c0 q0
        have hki : (k : Int) < (xs.length : Int) := by omega
        by_cases hx : xs[k] = ys[k]
        · have HT2 := Lib.hid (take_next hlt hlt' hx HT.out)
          clear HT
          rw [← hx] at r0
          clear hx
          generalize xs[k] = x at *
          go_wp2_with fail
          go_quiet (fail)
          go_wp2
          go_roundw
          case rel => exact ⟨k + 1, by omega, by go_num, HT2, blw_drewN hb _⟩
          case measure => simp [intOf]; omega
        · have HF := Lib.hid (beq_at hlt hlt' hx)
          obtain ⟨e1, e2, e3⟩ := int_no hx
          generalize xs[k] = x at *
          generalize ys[k] = y at *
          go_wp2_with fail
          go_quiet (fail)
          go_wp2
          go_ret
          exact ⟨ret_bool HF.out.symm, blw_drewN hb _⟩
      · have HF : Hid ((xs == ys) = true) := by
          have e := HT.out
          rw [List.take_of_length_le (by omega), List.take_of_length_le (by omega)] at e
          exact beq_iff_eq.2 e
        go_wp2
        go_ret
        exact ⟨ret_bool HF.out.symm, hb⟩
  · have HF := Lib.hid (beq_len hn)
    go_enter Try.func79, Try.ntmps79
    go_wp2
    go_ret
    exact ⟨ret_bool HF.out.symm, Below.refl _ _⟩

set_option maxHeartbeats 1000000 in
set_option maxRecDepth 100000 in
theorem sameRan_impl (x y : Ran) (ka ka' : Option Addr) (kc kc' lo hi lo' hi' : Nat) (w : World) (hr : Rd intF.shape lo hi w (.slice ka x.out.length kc) x.out) (hh : hi ≤ w.heap.size) (hr' : Rd intF.shape lo' hi' w (.slice ka' y.out.length kc') y.out) (hh' : hi' ≤ w.heap.size) :
    Calls Try.prog 35 #[x.v ka kc, y.v ka' kc'] w fun e w' => e = .returned (.bool (sameR x y)) ∧ Below w.heap.size w w' := by
  obtain ⟨out, ret, code, steps⟩ := x
  obtain ⟨out', ret', code', steps'⟩ := y
  unfold Ran.v
  simp only at hr hr' ⊢
  have hb0 : ∀ A C, Below w.heap.size w ((w.alloc A).alloc C) := fun A C => ((Below.refl _ _).alloc (Nat.le_refl _) _).alloc (by simp) _
  by_cases h1 : ret = ret'
  · by_cases h2 : code = code'
    · by_cases h3 : steps = steps'
      · have HF : Hid (sameR ⟨out, ret, code, steps⟩ ⟨out', ret', code', steps'⟩ = (out == out')) := by subst h1; subst h2; subst h3; simp [Hid, sameR]
        subst h1; subst h2; subst h3
        go_enter Try.func35, Try.ntmps35
        go_wp2_with fail
        have hbx := hb0 (.cells #[Value.slice ka out.length kc, Value.int IntKind.i64 ret, Value.int IntKind.i64 code, Value.int IntKind.i64 steps] 51) (.cells #[Value.slice ka' out'.length kc', Value.int IntKind.i64 ret, Value.int IntKind.i64 code, Value.int IntKind.i64 steps] 51)
        have hsx := hbx.size
        refine (equalI_any out out' _ _ _ _ _ _ _ (hr.below hbx hh) (by omega) (hr'.below hbx hh') (by omega)).mono ?_
        rintro e w1 ⟨rfl, hb1⟩
        go_wp2
        go_ret
        exact ⟨ret_bool HF.out.symm, hbx.trans (hb1.mono hsx)⟩
      · have HF : Hid (sameR ⟨out, ret, code, steps⟩ ⟨out', ret', code', steps'⟩ = false) := by simp [Hid, sameR, h3]
        subst h1; subst h2
        obtain ⟨e1, e2, e3⟩ := int_no h3
        go_enter Try.func35, Try.ntmps35
        go_wp2
        go_ret
        exact ⟨ret_bool (HF.out.symm ▸ rfl), hb0 _ _⟩
    · have HF : Hid (sameR ⟨out, ret, code, steps⟩ ⟨out', ret', code', steps'⟩ = false) := by simp [Hid, sameR, h2]
      subst h1
      obtain ⟨e1, e2, e3⟩ := int_no h2
      go_enter Try.func35, Try.ntmps35
      go_wp2
      go_ret
      exact ⟨ret_bool (HF.out.symm ▸ rfl), hb0 _ _⟩
  · have HF : Hid (sameR ⟨out, ret, code, steps⟩ ⟨out', ret', code', steps'⟩ = false) := by simp [Hid, sameR, h1]
    obtain ⟨e1, e2, e3⟩ := int_no h1
    go_enter Try.func35, Try.ntmps35
    go_wp2
    go_ret
    exact ⟨ret_bool (HF.out.symm ▸ rfl), hb0 _ _⟩

set_option maxHeartbeats 1000000 in
set_option maxRecDepth 100000 in
theorem sameRan_spec (x y : Ran) (ka ka' : Option Addr) (kc kc' lo hi lo' hi' : Nat) (w : World) (hr : Rd intF.shape lo hi w (.slice ka x.out.length kc) x.out) (hh : hi ≤ w.heap.size) (hr' : Rd intF.shape lo' hi' w (.slice ka' y.out.length kc') y.out) (hh' : hi' ≤ w.heap.size) :
    Calls Try.prog 33 #[x.v ka kc, y.v ka' kc'] w fun e w' => e = .returned (.bool (sameR x y)) ∧ Below w.heap.size w w' := by
  obtain ⟨out, ret, code, steps⟩ := x
  obtain ⟨out', ret', code', steps'⟩ := y
  unfold Ran.v
  simp only at hr hr' ⊢
  have hl := hr.len_le
  have hl' := hr'.len_le
  have hb0 : ∀ A C, Below w.heap.size w ((w.alloc A).alloc C) := fun A C => ((Below.refl _ _).alloc (Nat.le_refl _) _).alloc (by simp) _
  by_cases hn : out.length = out'.length
  · have HL := Lib.hid hn
    by_cases h1 : ret = ret'
    · by_cases h2 : code = code'
      · by_cases h3 : steps = steps'
        · have HF : Hid (sameR ⟨out, ret, code, steps⟩ ⟨out', ret', code', steps'⟩ = (out == out')) := by subst h1; subst h2; subst h3; simp [Hid, sameR]
          subst h1; subst h2; subst h3
          obtain ⟨a, c, ea, k2, k3, k4, k5⟩ := hr.intF
          obtain ⟨a', c', ea', k2', k3', k4', k5'⟩ := hr'.intF
          obtain ⟨rfl, _, rfl⟩ : ka = a ∧ out.length = out.length ∧ kc = c := by injection ea with e1 _ e2; exact ⟨e1, rfl, e2⟩
          obtain ⟨rfl, _, rfl⟩ : ka' = a' ∧ out.length = out.length ∧ kc' = c' := by injection ea' with e1 _ e2; exact ⟨e1, rfl, e2⟩
          clear ea ea' hr hr'
          unfold maxLen at k3 k3'
          rw [← HL.out] at k2' ⊢
          clear hn hl'
          go_enter Try.func33, Try.ntmps33
          go_wp2
          generalize hA : Obj.cells #[Value.slice ka out.length kc, Value.int IntKind.i64 ret, Value.int IntKind.i64 code, Value.int IntKind.i64 steps] 51 = A
          generalize hC : Obj.cells #[Value.slice ka' out.length kc', Value.int IntKind.i64 ret, Value.int IntKind.i64 code, Value.int IntKind.i64 steps] 51 = C
          have hbx : Below w.heap.size w ((w.alloc A).alloc C) := hb0 _ _
          have hs0 : ((w.alloc A).alloc C).heap.size = w.heap.size + 2 := by simp
          obtain ⟨p0, p1⟩ := heap_two w A C
          have q0 : ((w.alloc A).alloc C).cell? ⟨w.heap.size, 0, none⟩ = some (.slice ka out.length kc) := cell_heap (j := 0) (p0.trans (congrArg some hA.symm)) rfl
          have q1 : ((w.alloc A).alloc C).cell? ⟨w.heap.size + 1, 0, none⟩ = some (.slice ka' out.length kc') := cell_heap (j := 0) (p1.trans (congrArg some hC.symm)) rfl
          clear p0 p1 hA hC
          generalize (w.alloc A).alloc C = w0 at *
          go_loopw [5] (fun i wr => ∃ k : Nat, k ≤ out.length ∧ i = .int .i64 k ∧ Hid (out.take k = out'.take k) ∧ Below w0.heap.size w0 wr) (fun i _ => out.length - (intOf i).toNat)
          case atStart => exact ⟨0, Nat.zero_le _, rfl, rfl, Below.refl _ _⟩
          case round =>
            obtain ⟨k, hk, rfl, HT, hb⟩ := hrel
            have m0 := (hb.cell (p := ⟨w.heap.size, 0, none⟩) (by show w.heap.size < _; omega)).trans q0
            have m1 := (hb.cell (p := ⟨w.heap.size + 1, 0, none⟩) (by show w.heap.size + 1 < _; omega)).trans q1
            have hbw := hbx.trans (hb.mono hbx.size)
            by_cases hlt : k < out.length
            · have hlt' : k < out'.length := by have := HL.out; omega
              obtain ⟨b, off, rfl, hlo, hhi, c0⟩ := k5 k hlt
              obtain ⟨b', off', rfl, hlo', hhi', c1⟩ := k5' k hlt'
              have d0 := (hbw.cell (p := ⟨b, _, none⟩) (by show b < _; omega)).trans c0
              have r0 := (hbw.cell (p := ⟨b', _, none⟩) (by show b' < _; omega)).trans c1
              clear c0 c1 q0 q1
              have hki : (k : Int) < (out.length : Int) := by omega
              by_cases hx : out[k] = out'[k]
              · have HT2 := Lib.hid (take_next hlt hlt' hx HT.out)
                clear HT
                rw [← hx] at r0
                clear hx
                generalize out[k] = x at *
                go_wp2_with fail
                go_quiet (fail)
                go_wp2
                go_roundw
                case rel => exact ⟨k + 1, by omega, by go_num, HT2, blw_drewN hb _⟩
                case measure => simp [intOf]; omega
              · have HX := Lib.hid (beq_at hlt hlt' hx)
                obtain ⟨e1, e2, e3⟩ := int_no hx
                generalize out[k] = x at *
                generalize out'[k] = y at *
                go_wp2_with fail
                go_quiet (fail)
                go_wp2
                go_ret
                exact ⟨ret_bool (by rw [HF.out, HX.out]), blw_drewN hbw _⟩
            · have HX : Hid ((out == out') = true) := by
                have e := HT.out
                rw [List.take_of_length_le (by omega), List.take_of_length_le (by have := HL.out; omega)] at e
                exact beq_iff_eq.2 e
              go_wp2
              go_ret
              exact ⟨ret_bool (by rw [HF.out, HX.out]), hbw⟩
        · have HF : Hid (sameR ⟨out, ret, code, steps⟩ ⟨out', ret', code', steps'⟩ = false) := by simp [Hid, sameR, h3]
          subst h1; subst h2
          rw [← HL.out]
          obtain ⟨e1, e2, e3⟩ := int_no h3
          go_enter Try.func33, Try.ntmps33
          go_wp2
          go_ret
          exact ⟨ret_bool (HF.out.symm ▸ rfl), hb0 _ _⟩
      · have HF : Hid (sameR ⟨out, ret, code, steps⟩ ⟨out', ret', code', steps'⟩ = false) := by simp [Hid, sameR, h2]
        subst h1
        rw [← HL.out]
        obtain ⟨e1, e2, e3⟩ := int_no h2
        go_enter Try.func33, Try.ntmps33
        go_wp2
        go_ret
        exact ⟨ret_bool (HF.out.symm ▸ rfl), hb0 _ _⟩
    · have HF : Hid (sameR ⟨out, ret, code, steps⟩ ⟨out', ret', code', steps'⟩ = false) := by simp [Hid, sameR, h1]
      rw [← HL.out]
      obtain ⟨e1, e2, e3⟩ := int_no h1
      go_enter Try.func33, Try.ntmps33
      go_wp2
      go_ret
      exact ⟨ret_bool (HF.out.symm ▸ rfl), hb0 _ _⟩
  · have HF : Hid (sameR ⟨out, ret, code, steps⟩ ⟨out', ret', code', steps'⟩ = false) := by
      have := beq_len hn
      simp [Hid, sameR, this]
    go_enter Try.func33, Try.ntmps33
    go_wp2
    go_ret
    exact ⟨ret_bool (HF.out.symm ▸ rfl), hb0 _ _⟩
end Go.Proofs.Ythfeochekadhcaa
