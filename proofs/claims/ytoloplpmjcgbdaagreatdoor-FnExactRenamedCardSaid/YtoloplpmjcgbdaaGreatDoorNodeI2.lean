/- What the program asks of a node's text, of the kinds of its kids. -/
import Derived.Test.YtoloplpmjcgbdaaGreatDoorNodeI
import Derived.Test.YtoloplpmjcgbdaaGreatDoorHNodeC
namespace Go.Proofs.YtoloplpmjcgbdaaGreatDoor
open Go.RowKit

theorem textOk_name {k : Int} (s : ByteArray) (h : k = 1 ∨ k = 6 ∨ k = 12 ∨ k = 13 ∨ k = 20 ∨ k = 21) : textOk k s = isNm s := by unfold textOk; rw [if_pos h]
theorem textOk_empty {k : Int} (s : ByteArray) (h : ¬ (k = 1 ∨ k = 6 ∨ k = 12 ∨ k = 13 ∨ k = 20 ∨ k = 21)) (h2 : k ≠ 2) (h3 : k ≠ 3) (h4 : k ≠ 19) (h5 : k ≠ 7) : textOk k s = s.toList.isEmpty := by
  unfold textOk; rw [if_neg h, if_neg h2, if_neg h3, if_neg h4, if_neg h5]
theorem eqf {a b : Int} (h : a ≠ b) : (a == b) = false := beq_eq_false_iff_ne.2 h
set_option maxHeartbeats 4000000 in
set_option maxRecDepth 100000 in
theorem textFits_any (kind : Int) (s : ByteArray) (kv : Value) (bl : Bool) (w : World) (hs : s.size ≤ 4611686018427387904) :
    Calls Tryz.prog 83 #[.agg #[.int .i64 kind, .string s, kv, .bool bl]] w fun e w' => e = .returned (.bool (textOk kind s)) ∧ Below w.heap.size w w' := by
  have hba : ∀ A, Below w.heap.size w (w.alloc A) := fun A => (Below.refl _ _).alloc (Nat.le_refl _) A
  have hsz : ∀ A, w.heap.size ≤ (w.alloc A).heap.size := fun A => by simp
  by_cases hn : kind = 1 ∨ kind = 6 ∨ kind = 12 ∨ kind = 13 ∨ kind = 20 ∨ kind = 21
  · have HT := Lib.hid (textOk_name s hn)
    rcases hn with rfl | rfl | rfl | rfl | rfl | rfl
    all_goals
      go_enter Tryz.func83, Tryz.ntmps83
      go_wp2_with fail
      refine (isName_any s _ hs).mono ?_
      rintro e w' ⟨rfl, hb⟩
      go_wp2
      go_ret
      exact ⟨ret_bool HT.out.symm, (hba _).trans (hb.mono (hsz _))⟩
  have hs1 : kind ≠ 1 := fun h => hn (.inl h)
  have n1 := eqf (a := kind) (b := 1) (fun h => hn (by rw [h]; simp))
  have n2 := eqf (a := kind) (b := 6) (fun h => hn (by rw [h]; simp))
  have n3 := eqf (a := kind) (b := 12) (fun h => hn (by rw [h]; simp))
  have n4 := eqf (a := kind) (b := 13) (fun h => hn (by rw [h]; simp))
  have n5 := eqf (a := kind) (b := 20) (fun h => hn (by rw [h]; simp))
  have n6 := eqf (a := kind) (b := 21) (fun h => hn (by rw [h]; simp))
  by_cases h2 : kind = 2
  · subst h2
    go_enter Tryz.func83, Tryz.ntmps83
    go_wp2_with fail
    refine (isSign_any s 2 _ hs).mono ?_
    rintro e w' ⟨rfl, hb⟩
    go_wp2
    go_ret
    exact ⟨rfl, (hba _).trans (hb.mono (hsz _))⟩
  by_cases h3 : kind = 3
  · subst h3
    go_enter Tryz.func83, Tryz.ntmps83
    go_wp2_with fail
    refine (isSign_any s 3 _ hs).mono ?_
    rintro e w' ⟨rfl, hb⟩
    go_wp2
    go_ret
    exact ⟨rfl, (hba _).trans (hb.mono (hsz _))⟩
  by_cases h4 : kind = 19
  · subst h4
    go_enter Tryz.func83, Tryz.ntmps83
    go_wp2_with fail
    refine (isSign_any s 5 _ hs).mono ?_
    rintro e w' ⟨rfl, hb⟩
    go_wp2
    go_ret
    exact ⟨rfl, (hba _).trans (hb.mono (hsz _))⟩
  by_cases h5 : kind = 7
  · subst h5
    obtain ⟨d0, e0⟩ : ∃ d, (s.toList == [38, 38]) = d := ⟨_, rfl⟩
    obtain ⟨d1, e1⟩ : ∃ d, (s.toList == [124, 124]) = d := ⟨_, rfl⟩
    obtain ⟨d2, e2⟩ : ∃ d, (s.toList == [61, 61]) = d := ⟨_, rfl⟩
    obtain ⟨d3, e3⟩ : ∃ d, (s.toList == [60]) = d := ⟨_, rfl⟩
    obtain ⟨d4, e4⟩ : ∃ d, (s.toList == [43]) = d := ⟨_, rfl⟩
    obtain ⟨d5, e5⟩ : ∃ d, (s.toList == [45]) = d := ⟨_, rfl⟩
    obtain ⟨d6, e6⟩ : ∃ d, (s.toList == [42]) = d := ⟨_, rfl⟩
    have HF := Lib.hid (show textOk 7 s = (d0 || (d1 || (d2 || (d3 || (d4 || (d5 || (d6 || false))))))) by
      show inMarks chainMs s = _
      rw [← e0, ← e1, ← e2, ← e3, ← e4, ← e5, ← e6]; simp only [inMarks, chainMs, List.any_cons, List.any_nil, Lib.toList_data])
    clear hs1
    cases d0
    case true =>
      go_enter Tryz.func83, Tryz.ntmps83
      go_wp2
      go_ret
      exact ⟨ret_bool (by rw [HF.out]; rfl), hba _⟩
    cases d1
    case true =>
      go_enter Tryz.func83, Tryz.ntmps83
      go_wp2
      go_ret
      exact ⟨ret_bool (by rw [HF.out]; rfl), hba _⟩
    cases d2
    case true =>
      go_enter Tryz.func83, Tryz.ntmps83
      go_wp2
      go_ret
      exact ⟨ret_bool (by rw [HF.out]; rfl), hba _⟩
    cases d3
    case true =>
      go_enter Tryz.func83, Tryz.ntmps83
      go_wp2
      go_ret
      exact ⟨ret_bool (by rw [HF.out]; rfl), hba _⟩
    cases d4
    case true =>
      go_enter Tryz.func83, Tryz.ntmps83
      go_wp2
      go_ret
      exact ⟨ret_bool (by rw [HF.out]; rfl), hba _⟩
    cases d5
    case true =>
      go_enter Tryz.func83, Tryz.ntmps83
      go_wp2
      go_ret
      exact ⟨ret_bool (by rw [HF.out]; rfl), hba _⟩
    cases d6
    all_goals
      go_enter Tryz.func83, Tryz.ntmps83
      go_wp2
      go_ret
      exact ⟨ret_bool (by rw [HF.out]; rfl), hba _⟩
  have m1 := eqf h2
  have m2 := eqf h3
  have m3 := eqf h4
  have m4 := eqf h5
  have HT := Lib.hid (textOk_empty s hn h2 h3 h4 h5)
  clear hn h2 h3 h4 h5 hs1
  go_enter Tryz.func83, Tryz.ntmps83
  go_wp2
  go_ret
  exact ⟨ret_bool HT.out.symm, hba _⟩
theorem all_no {ks : List Int} {p : Int → Bool} {k : Nat} (h : k < ks.length) (hx : p ks[k] = false) : ks.all p = false := allp_no h hx
set_option maxHeartbeats 1000000 in
set_option maxRecDepth 100000 in
theorem all_any (f : Nat) (p : Int → Bool) (hc : ∀ args w, Sem.run Tryz.prog (callFunc f args) w = .ok (.enter f args) w) (hf : ∀ n w, Calls Tryz.prog f #[.int .i64 n] w fun e w' => e = .returned (.bool (p n)) ∧ w = w') (ks : List Int) (v : Value) (lo hi : Nat) (w : World) (hr : Rd intS lo hi w v ks) :
    Calls Tryz.prog 116 #[v, .func (.func f) #[] #[]] w fun e w' => e = .returned (.bool (ks.all p)) ∧ w = w' := by
  obtain ⟨a, c, rfl, h2, h3, h4, h5⟩ := hr
  unfold maxLen at h3
  go_enter Tryz.func116, Tryz.ntmps116
  go_wp2
  go_loop [9] (fun i => ∃ k : Nat, k ≤ ks.length ∧ i = .int .i64 k ∧ Hid ((ks.take k).all p = true)) (fun i => ks.length - (intOf i).toNat)
  case atStart => exact ⟨0, Nat.zero_le _, rfl, rfl⟩
  case round =>
    obtain ⟨k, hk, rfl, HA⟩ := hrel
    by_cases hlt : k < ks.length
    · obtain ⟨b, off, cs, rfl, hlo, hhi, rfl, e5⟩ := h5 k hlt
      have c0 : w.cell? ⟨b, off + k, none⟩ = some (.int .i64 ks[k]) := by have := e5 0 _ rfl; simpa [intF, Flat.shape] using this
      have HT := Lib.hid (show ks.take (k + 1) = ks.take k ++ [ks[k]] from List.take_succ_eq_append_getElem hlt)
      have HN := Lib.hid (fun h : p ks[k] = false => all_no hlt h)
      clear e5
      go_wp2_with fail
      refine (hf _ _).mono ?_
      rintro e w' ⟨rfl, rfl⟩
      cases g : p ks[k] with
      | false =>
        have HF := Lib.hid (HN.out g)
        go_wp2
        go_ret
        exact ⟨ret_bool HF.out.symm, rfl⟩
      | true =>
        have G := Lib.hid g
        go_wp2
        go_round
        case rel => exact ⟨k + 1, by omega, by go_num, allp_succ HT.out HA.out G.out⟩
        case measure => simp [intOf]; omega
    · have HF : Hid (ks.all p = true) := by have e := HA.out; rw [List.take_of_length_le (by omega)] at e; exact e
      go_wp2
      go_ret
      exact ⟨ret_bool HF.out.symm, rfl⟩
theorem enter_go {P : Program} {f : FuncId} {fn : Func} {c : Code} (hf : P.funcs[f]? = some fn) (hname : (fn.name == "runtime.NumGoroutine") = false) (hb : fn.body = some c) (args : Array Value) (w : World) :
    Sem.run P (callFunc f args) w = .ok (.enter f args) w := by
  have h1 : fn.name ≠ "runtime.NumGoroutine" := by simpa using hname
  simp [callFunc, hf, h1, hb]
theorem enter_val (args : Array Value) (w : World) : Sem.run Tryz.prog (callFunc 50 args) w = .ok (.enter 50 args) w :=
  enter_go Tryz.func50 (by kernel_rfl) (by rfl) args w
theorem all_val (ks : List Int) (v : Value) (lo hi : Nat) (w : World) (hr : Rd intS lo hi w v ks) :
    Calls Tryz.prog 116 #[v, .func (.func 50) #[] #[]] w fun e w' => e = .returned (.bool (ks.all isVal)) ∧ w = w' :=
  all_any 50 isVal enter_val isValue_any ks v lo hi w hr
theorem enter_name (args : Array Value) (w : World) : Sem.run Tryz.prog (callFunc 138 args) w = .ok (.enter 138 args) w :=
  enter_go Tryz.func138 (by kernel_rfl) (by rfl) args w
theorem all_name (ks : List Int) (v : Value) (lo hi : Nat) (w : World) (hr : Rd intS lo hi w v ks) :
    Calls Tryz.prog 116 #[v, .func (.func 138) #[] #[]] w fun e w' => e = .returned (.bool (ks.all (fun n => n == 1))) ∧ w = w' :=
  all_any 138 (fun n => n == 1) enter_name lastIs1_any ks v lo hi w hr
theorem enter_call (args : Array Value) (w : World) : Sem.run Tryz.prog (callFunc 118 args) w = .ok (.enter 118 args) w :=
  enter_go Tryz.func118 (by kernel_rfl) (by rfl) args w
theorem all_call (ks : List Int) (v : Value) (lo hi : Nat) (w : World) (hr : Rd intS lo hi w v ks) :
    Calls Tryz.prog 116 #[v, .func (.func 118) #[] #[]] w fun e w' => e = .returned (.bool (ks.all (fun n => n == 5))) ∧ w = w' :=
  all_any 118 (fun n => n == 5) enter_call kinds1_any ks v lo hi w hr
theorem enter_block (args : Array Value) (w : World) : Sem.run Tryz.prog (callFunc 119 args) w = .ok (.enter 119 args) w :=
  enter_go Tryz.func119 (by kernel_rfl) (by rfl) args w
theorem all_block (ks : List Int) (v : Value) (lo hi : Nat) (w : World) (hr : Rd intS lo hi w v ks) :
    Calls Tryz.prog 116 #[v, .func (.func 119) #[] #[]] w fun e w' => e = .returned (.bool (ks.all (fun n => n == 18))) ∧ w = w' :=
  all_any 119 (fun n => n == 18) enter_block isBlock_any ks v lo hi w hr
theorem enter_step (args : Array Value) (w : World) : Sem.run Tryz.prog (callFunc 120 args) w = .ok (.enter 120 args) w :=
  enter_go Tryz.func120 (by kernel_rfl) (by rfl) args w
theorem all_step (ks : List Int) (v : Value) (lo hi : Nat) (w : World) (hr : Rd intS lo hi w v ks) :
    Calls Tryz.prog 116 #[v, .func (.func 120) #[] #[]] w fun e w' => e = .returned (.bool (ks.all (fun n => isStp n || (n == 19)))) ∧ w = w' :=
  all_any 120 (fun n => isStp n || (n == 19)) enter_step kinds2_any ks v lo hi w hr
theorem enter_mem (args : Array Value) (w : World) : Sem.run Tryz.prog (callFunc 85 args) w = .ok (.enter 85 args) w :=
  enter_go Tryz.func85 (by kernel_rfl) (by rfl) args w
theorem all_mem (ks : List Int) (v : Value) (lo hi : Nat) (w : World) (hr : Rd intS lo hi w v ks) :
    Calls Tryz.prog 116 #[v, .func (.func 85) #[] #[]] w fun e w' => e = .returned (.bool (ks.all isMem)) ∧ w = w' :=
  all_any 85 isMem enter_mem isMember_any ks v lo hi w hr
theorem enter_file (args : Array Value) (w : World) : Sem.run Tryz.prog (callFunc 121 args) w = .ok (.enter 121 args) w :=
  enter_go Tryz.func121 (by kernel_rfl) (by rfl) args w
theorem all_file (ks : List Int) (v : Value) (lo hi : Nat) (w : World) (hr : Rd intS lo hi w v ks) :
    Calls Tryz.prog 116 #[v, .func (.func 121) #[] #[]] w fun e w' => e = .returned (.bool (ks.all (fun n => isMem n || (n == 21)))) ∧ w = w' :=
  all_any 121 (fun n => isMem n || (n == 21)) enter_file kinds3_any ks v lo hi w hr
theorem Rd.take {α : Type} {S : Shape α} {lo hi n c m : Nat} {w : World} {a : Option Addr} {xs : List α} (h : Rd S lo hi w (.slice a n c) xs) (hm : m ≤ n) : Rd S lo hi w (.slice a m c) (xs.take m) := by
  obtain ⟨a', c', e, h2, h3, h4, h5⟩ := h
  injection e with e1 e2 e3
  subst e1; subst e2; subst e3
  have hl : (xs.take m).length = m := by rw [List.length_take]; omega
  refine ⟨a, c, by rw [hl], by omega, h3, h4, fun k hk => ?_⟩
  obtain ⟨b, off, cs, q1, q2, q3, q4, q5⟩ := h5 k (by omega)
  exact ⟨b, off, cs, q1, q2, q3, by rw [List.getElem_take]; exact q4, q5⟩
theorem Rd.drop1 {lo hi n c : Nat} {w : World} {b off : Nat} {xs : List Int} (h : Rd intS lo hi w (.slice (some ⟨b, off, none⟩) n c) xs) : Rd intS lo hi w (.slice (some ⟨b, off + 1, none⟩) (n - 1) (c - 1)) (xs.drop 1) := by
  obtain ⟨a', c', e, h2, h3, h4, h5⟩ := h
  injection e with e1 e2 e3
  subst e1; subst e3
  have hl : (xs.drop 1).length = n - 1 := by rw [List.length_drop]; omega
  refine ⟨_, c - 1, by rw [hl], by omega, by omega, (fun e => by cases e), fun k hk => ?_⟩
  obtain ⟨b', off', cs, q1, q2, q3, q4, q5⟩ := h5 (k + 1) (by omega)
  injection q1 with q1
  injection q1 with q6 q7
  subst q6; subst q7
  refine ⟨b, off + 1, cs, rfl, q2, q3, by rw [List.getElem_drop]; simp only [Nat.add_comm 1 k]; exact q4, fun j u hu => ?_⟩
  have := q5 j u hu
  rwa [show off + (k + 1) * intS.size + j = off + 1 + k * intS.size + j by show off + (k + 1) * 1 + j = off + 1 + k * 1 + j; omega] at this
end Go.Proofs.YtoloplpmjcgbdaaGreatDoor
