/- callsFit of the program. -/
import Derived.Test.YtoloplpmjcgbdaaGreatDoorNodeI3
namespace Go.Proofs.YtoloplpmjcgbdaaGreatDoor
open Go.RowKit

set_option maxHeartbeats 400000 in
theorem isNode_any (k : Int) (a : Option Addr) (n c : Nat) (w : World) (_hn : n ≤ 9223372036854775807) : Calls Tryz.prog 49 #[.slice a n c, .int .i64 k] w fun e w' => e = .returned (.bool (decide (0 ≤ k) && decide (k < n))) ∧ w = w' := by
  by_cases h0 : 0 ≤ k
  · have h0d : decide (0 ≤ k) = true := decide_eq_true h0
    go_enter Tryz.func49, Tryz.ntmps49
    go_wp2
    go_ret
    exact ⟨ret_bool (by rw [h0d]; rfl), rfl⟩
  · have h0d : decide (0 ≤ k) = false := decide_eq_false h0
    go_enter Tryz.func49, Tryz.ntmps49
    go_wp2
    go_ret
    exact ⟨rfl, rfl⟩
/-- what the program asks of the calls among the first kids -/
def CallsI (xs : List Node) (x : Node) (m : Nat) : Prop := ∀ i, i < m → (nd xs (kd x i)).kind = 5 →
  (0 < (nd xs (kd x i)).kids.length ∧ 0 ≤ kd (nd xs (kd x i)) 0 ∧ kd (nd xs (kd x i)) 0 < xs.length) ∧ (x.kind = 10 → 0 < i → (nd xs (kd (nd xs (kd x i)) 0)).kind = 1)
theorem callsI_succ {xs : List Node} {x : Node} {m : Nat} (h : CallsI xs x m) (hm : (nd xs (kd x m)).kind = 5 →
  (0 < (nd xs (kd x m)).kids.length ∧ 0 ≤ kd (nd xs (kd x m)) 0 ∧ kd (nd xs (kd x m)) 0 < xs.length) ∧ (x.kind = 10 → 0 < m → (nd xs (kd (nd xs (kd x m)) 0)).kind = 1)) : CallsI xs x (m + 1) := by
  intro i hi
  by_cases e : i = m
  · subst e; exact hm
  · exact h i (by omega)
/-- what callsFit answers -/
def CallsRet (xs : List Node) (x : Node) (e : Ending) : Prop := ∃ q, e = .returned (.bool q) ∧ (q = true ↔ CallsI xs x x.kids.length)
theorem callsRet_no {xs : List Node} {x : Node} (h : ¬ CallsI xs x x.kids.length) : CallsRet xs x (.returned (.bool false)) := ⟨false, rfl, ⟨fun e => (by cases e), fun c => absurd c h⟩⟩
theorem callsRet_yes {xs : List Node} {x : Node} (h : CallsI xs x x.kids.length) : CallsRet xs x (.returned (.bool true)) := ⟨true, rfl, ⟨fun _ => h, fun _ => rfl⟩⟩
set_option maxHeartbeats 4000000 in
set_option maxRecDepth 100000 in
theorem callsFit_any (xs : List Node) (v : Value) (lo hi : Nat) (x : Node) (ka : Option Addr) (kc lo' hi' : Nat) (w : World) (hr : Rd nodeS lo hi w v xs) (hh : hi ≤ w.heap.size)
    (hk : Rd intS lo' hi' w (.slice ka x.kids.length kc) x.kids) (hh' : hi' ≤ w.heap.size) (hb : ∀ i, i < x.kids.length → 0 ≤ kd x i ∧ kd x i < xs.length) :
    Calls Tryz.prog 87 #[v, x.v ka kc] w fun e w' => CallsRet xs x e ∧ Below w.heap.size w w' := by
  obtain ⟨a, c, rfl, h2, h3, h4, h5⟩ := hr.nodeS
  unfold maxLen at h3
  obtain ⟨_, hkl, hkc⟩ := hk.lenEq
  obtain ⟨kind, text, kids, blank⟩ := x
  have HB := Lib.hid hb
  have HCS := Lib.hid (fun m => callsI_succ (xs := xs) (x := ⟨kind, text, kids, blank⟩) (m := m))
  have HCN := Lib.hid (fun m (hm : m < kids.length) (h : CallsI xs ⟨kind, text, kids, blank⟩ kids.length) => h m hm)
  have HC0 : Hid (CallsI xs ⟨kind, text, kids, blank⟩ 0) := fun i hi => absurd hi (Nat.not_lt_zero _)
  unfold Node.v
  simp only at hk hkl hkc ⊢
  clear hb
  go_enter Tryz.func87, Tryz.ntmps87
  go_wp2
  generalize hX : Obj.cells #[Value.int IntKind.i64 kind, Value.string text, Value.slice ka kids.length kc, Value.bool blank] 38 = X
  have hbX : Below w.heap.size w (w.alloc X) := (Below.refl _ _).alloc (Nat.le_refl _) _
  have hsX : (w.alloc X).heap.size = w.heap.size + 1 := by simp
  have x0 : (w.alloc X).cell? ⟨w.heap.size, 0, none⟩ = some (.int .i64 kind) := by rw [← hX]; exact cell_heap (j := 0) (heap_alloc_new w _) rfl
  generalize w.alloc X = w0 at *
  clear hX
  go_loopw [11] (fun i wr => ∃ k : Nat, k ≤ kids.length ∧ i = .int .i64 k ∧ Hid (CallsI xs ⟨kind, text, kids, blank⟩ k) ∧ Below w0.heap.size w0 wr) (fun i _ => kids.length - (intOf i).toNat)
  case atStart => exact ⟨0, Nat.zero_le _, rfl, HC0.out, Below.refl _ _⟩
  case round =>
    obtain ⟨k, hkk, rfl, HA, hbr⟩ := hrel
    have hbW : Below w.heap.size w wr := hbX.trans (hbr.mono (by omega))
    by_cases hlt : k < kids.length
    · obtain ⟨kb, koff, rfl, _, khi, kc0⟩ := hk.intAt hlt
      have kc1 := (hbW.cell (p := ⟨kb, koff + k, none⟩) (by show kb < _; omega)).trans kc0
      have hbd := HB.out k hlt
      have HS := Lib.hid (HCS.out k HA.out)
      have HN := Lib.hid (HCN.out k hlt)
      have hkd : kd (⟨kind, text, kids, blank⟩ : Node) k = kids.getD k 0 := rfl
      rw [hkd] at hbd
      have HKD := Lib.hid hkd
      clear hkd kc0
      obtain ⟨m, hm⟩ : ∃ m : Nat, kids.getD k 0 = (m : Int) := ⟨(kids.getD k 0).toNat, by omega⟩
      rw [hm] at kc1 hbd
      have HM := Lib.hid (HKD.out.trans hm)
      have hml : m < xs.length := by omega
      have hmi : (m : Int) < (xs.length : Int) := by omega
      have hmz : (0 : Int) ≤ (m : Int) := by omega
      obtain ⟨b, off, ya, yc, rfl, hlo, hhi, c0, c1, c2, c3, hry⟩ := h5 m hml
      have d0 := (hbW.cell (p := ⟨b, _, none⟩) (by show b < _; omega)).trans c0
      have d1 := (hbW.cell (p := ⟨b, _, none⟩) (by show b < _; omega)).trans c1
      have d2 := (hbW.cell (p := ⟨b, _, none⟩) (by show b < _; omega)).trans c2
      have d3 := (hbW.cell (p := ⟨b, _, none⟩) (by show b < _; omega)).trans c3
      have y0 := (hbr.cell (p := ⟨w.heap.size, 0, none⟩) (by show w.heap.size < _; omega)).trans x0
      have hry' := hry.below hbW hh
      have HY : Hid (nd xs (kd (⟨kind, text, kids, blank⟩ : Node) k) = xs[m]) := by
        show nd xs (kd _ k) = _
        rw [HM.out]; exact nd_at hml
      rw [HY.out] at HS HN
      clear c0 c1 c2 c3 hry hbd hm HKD HM HY
      have h5i : ∀ q (hq : q < xs.length), wr.cell? ⟨b, off + q * 4, none⟩ = some (.int .i64 xs[q].kind) := by
        intro q hq
        obtain ⟨b', off', _, _, e, _, _, c0, _⟩ := h5 q hq
        injection e with e
        injection e with e1 e2
        subst e1; subst e2
        exact (hbW.cell (p := ⟨b, _, none⟩) (by show b < _; omega)).trans c0
      have H5I := Lib.hid h5i
      clear h5i
      generalize xs[m] = y at *
      obtain ⟨yk, yt, ys, yb⟩ := y
      simp only at d0 d1 d2 d3 hry' HS HN
      obtain ⟨_, hyl, hyc⟩ := hry'.lenEq
      by_cases h5k : yk = 5
      · have t5 : (yk != 5) = false := by rw [h5k]; rfl
        by_cases hy0 : 0 < ys.length
        · obtain ⟨yb2, yoff, rfl, _, _, yc0⟩ := hry'.intAt hy0
          rw [Nat.add_zero] at yc0
          have hsr := hbr.size
          have hal : ∀ A, Below wr.heap.size wr (wr.alloc A) := fun A => (Below.refl _ _).alloc (Nat.le_refl _) A
          have yc1 : ∀ A, (wr.alloc A).cell? ⟨yb2, yoff, none⟩ = some (.int .i64 (ys.getD 0 0)) := fun A => ((hal A).cell (p := ⟨yb2, yoff, none⟩) (World.block_lt_of_cell? wr ⟨yb2, yoff, none⟩ yc0)).trans yc0
          have y1 : ∀ A, (wr.alloc A).cell? ⟨w.heap.size, 0, none⟩ = some (.int .i64 kind) := fun A => ((hal A).cell (p := ⟨w.heap.size, 0, none⟩) (World.block_lt_of_cell? wr ⟨w.heap.size, 0, none⟩ y0)).trans y0
          clear yc0 y0
          have hyz : ((ys.length : Int) == 0) = false := eqf (by omega)
          have hyi : (0 : Int) < (ys.length : Int) := by omega
          have HF0 : Hid (kd (⟨yk, yt, ys, yb⟩ : Node) 0 = ys.getD 0 0) := rfl
          rw [HF0.out] at HS HN
          clear HF0
          generalize ys.getD 0 0 = f at *
          go_wp2_with fail
          refine (isNode_any f _ xs.length c _ (by omega)).mono ?_
          rintro e w' ⟨rfl, rfl⟩
          by_cases hf : 0 ≤ f ∧ f < xs.length
          · rw [decide_eq_true hf.1, decide_eq_true hf.2]
            have HN2 := Lib.hid (fun h : CallsI xs ⟨kind, text, kids, blank⟩ kids.length => (HN.out h h5k).2)
            have HS2 := Lib.hid (fun h => HS.out (fun _ => ⟨⟨hy0, hf⟩, h⟩))
            clear HN HS
            by_cases hkn : kind = 10 ∧ 0 < k
            · have tk : (kind == 10) = true := by rw [hkn.1]; rfl
              have tki : (0 : Int) < (k : Int) := by omega
              obtain ⟨fm, hfm⟩ : ∃ fm : Nat, f = (fm : Int) := ⟨f.toNat, by omega⟩
              subst hfm
              have fml : fm < xs.length := by omega
              have fmi : (fm : Int) < (xs.length : Int) := by omega
              have fmz : (0 : Int) ≤ (fm : Int) := by omega
              have fc0 := H5I.out fm fml
              have fc : ∀ A, (wr.alloc A).cell? ⟨b, off + fm * 4, none⟩ = some (.int .i64 xs[fm].kind) := fun A => ((hal A).cell (p := ⟨b, _, none⟩) (World.block_lt_of_cell? wr ⟨b, _, none⟩ fc0)).trans fc0
              clear fc0
              have HFM : Hid (nd xs (fm : Int) = xs[fm]) := nd_at fml
              rw [HFM.out] at HN2 HS2
              clear HFM H5I
              generalize xs[fm] = z at *
              by_cases hz1 : z.kind = 1
              · have tz : (z.kind != 1) = false := by rw [hz1]; rfl
                have HR := Lib.hid (HS2.out (fun _ _ => hz1))
                clear h5k hkn hf hz1
                go_wp2
                go_roundw
                case rel => exact ⟨k + 1, by omega, by go_num, HR.out, hbr.alloc (by omega) _⟩
                case measure => simp [intOf]; omega
              · have tz : (z.kind != 1) = true := by simpa using hz1
                have HR := Lib.hid (show ¬ CallsI xs ⟨kind, text, kids, blank⟩ kids.length from fun h => hz1 (HN2.out h hkn.1 hkn.2))
                clear h5k hkn hf hz1
                go_wp2
                go_ret
                exact ⟨callsRet_no HR.out, hbW.alloc (by have := hbW.size; omega) _⟩
            · have HR := Lib.hid (HS2.out (fun a b => absurd ⟨a, b⟩ hkn))
              by_cases hk10 : kind = 10
              · have tk : (kind == 10) = true := by rw [hk10]; rfl
                have tki : ¬ (0 : Int) < (k : Int) := fun h => hkn ⟨hk10, by omega⟩
                clear h5k hkn hf hk10
                go_wp2
                go_roundw
                case rel => exact ⟨k + 1, by omega, by go_num, HR.out, hbr.alloc (by omega) _⟩
                case measure => simp [intOf]; omega
              · have tk : (kind == 10) = false := eqf hk10
                clear h5k hkn hf hk10
                go_wp2
                go_roundw
                case rel => exact ⟨k + 1, by omega, by go_num, HR.out, hbr.alloc (by omega) _⟩
                case measure => simp [intOf]; omega
          · have HR := Lib.hid (show ¬ CallsI xs ⟨kind, text, kids, blank⟩ kids.length from fun h => hf ⟨(HN.out h h5k).1.2.1, (HN.out h h5k).1.2.2⟩)
            have hfd : (decide (0 ≤ f) && decide (f < (xs.length : Int))) = false := by
              rw [Bool.eq_false_iff]; intro h; rw [Bool.and_eq_true, decide_eq_true_iff, decide_eq_true_iff] at h; exact hf h
            rw [hfd]
            clear h5k hf hfd
            go_wp2
            go_ret
            exact ⟨callsRet_no HR.out, hbW.alloc (by have := hbW.size; omega) _⟩
        · have hyz : ((ys.length : Int) == 0) = true := by rw [beq_iff_eq]; omega
          have HR := Lib.hid (show ¬ CallsI xs ⟨kind, text, kids, blank⟩ kids.length from fun h => hy0 (HN.out h h5k).1.1)
          clear h5k
          go_wp2
          go_ret
          exact ⟨callsRet_no HR.out, hbW.alloc (by have := hbW.size; omega) _⟩
      · have t5 : (yk != 5) = true := by simpa using h5k
        have HR := Lib.hid (HS.out (fun h => absurd h h5k))
        clear h5k
        go_wp2
        go_roundw
        case rel => exact ⟨k + 1, by omega, by go_num, HR.out, hbr.alloc (by have := hbr.size; omega) _⟩
        case measure => simp [intOf]; omega
    · have HR : Hid (CallsI xs ⟨kind, text, kids, blank⟩ kids.length) := by have e := HA.out; rwa [show k = kids.length by omega] at e
      go_wp2
      go_ret
      exact ⟨callsRet_yes HR.out, hbW⟩
end Go.Proofs.YtoloplpmjcgbdaaGreatDoor
