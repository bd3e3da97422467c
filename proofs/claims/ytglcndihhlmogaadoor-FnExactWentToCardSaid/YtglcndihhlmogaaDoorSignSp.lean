/- Marks at a place, of the reference. By mk_signsp.py. -/
import Derived.Test.YtglcndihhlmogaaDoorSignQ
import Derived.Test.YtglcndihhlmogaaDoorSignD
import Derived.Test.YtglcndihhlmogaaDoorHeap
namespace Go.Proofs.YtglcndihhlmogaaDoor
open Go.RowKit

set_option maxHeartbeats 2000000 in
set_option maxRecDepth 100000 in
theorem l04Marks_any (w : World) : Calls Tryd.prog 36 #[] w fun e w' => e = .returned (.slice (some ⟨w.heap.size, 0, none⟩) 21 21) ∧ Below w.heap.size w w' ∧ ∀ j, j < 21 → w'.cell? ⟨w.heap.size, j, none⟩ = some (.string (marksA.getD j ⟨#[]⟩)) := by
  go_enter Tryd.func36, Tryd.ntmps36
  go_wp2
  go_ret
  refine ⟨rfl, (Below.refl _ _).alloc (Nat.le_refl _) _, fun j hj => ?_⟩
  refine cell_heap (j := j) (heap_alloc_new w _) ?_
  match j, hj with
  | 0, _ => rfl
  | 1, _ => rfl
  | 2, _ => rfl
  | 3, _ => rfl
  | 4, _ => rfl
  | 5, _ => rfl
  | 6, _ => rfl
  | 7, _ => rfl
  | 8, _ => rfl
  | 9, _ => rfl
  | 10, _ => rfl
  | 11, _ => rfl
  | 12, _ => rfl
  | 13, _ => rfl
  | 14, _ => rfl
  | 15, _ => rfl
  | 16, _ => rfl
  | 17, _ => rfl
  | 18, _ => rfl
  | 19, _ => rfl
  | 20, _ => rfl
  | n + 21, hj => exact absurd hj (by omega)
theorem marksA_small : ∀ j, j < 21 → (marksA.getD j ⟨#[]⟩).size ≤ 2 := by decide
/-- what l04Mark answers -/
def MarkRet (t : ByteArray) (a : Nat) (e : Ending) : Prop := ∃ x : ByteArray, e = .returned (.string x) ∧ x.size ≤ 2 ∧ (x.size = 0 → markAt t a = none) ∧ (0 < x.size → markAt t a = some (4, x, x.size))
set_option maxHeartbeats 2000000 in
set_option maxRecDepth 100000 in
theorem l04Mark_any (t : ByteArray) (a : Nat) (w : World) (hs : t.size ≤ 4611686018427387904) (ha : a ≤ t.size) :
    Calls Tryd.prog 24 #[.string t, .int .i64 a] w fun e w' => MarkRet t a e ∧ Below w.heap.size w w' := by
  go_enter Tryd.func24, Tryd.ntmps24
  go_wp2_with fail
  refine (l04Marks_any _).mono ?_
  rintro e w1 ⟨rfl, hb1, hcs⟩
  have hs1 := hb1.size
  have HCS := Lib.hid (fun w4 (h4 : Below w1.heap.size w1 w4) j (hj : j < 21) => (h4.cell (p := ⟨w.heap.size, j, none⟩) (World.block_lt_of_cell? w1 _ (hcs j hj))).trans (hcs j hj))
  have HMS := Lib.hid marksA_small
  clear hcs
  go_wp2
  go_loopw [6] (fun i wr => ∃ j : Nat, j ≤ 21 ∧ i = .int .i64 j ∧ Hid (∀ s, s < j → markHit t a (marksA.getD s ⟨#[]⟩) = false) ∧ Below w1.heap.size w1 wr) (fun i _ => 21 - (intOf i).toNat)
  case atStart => exact ⟨0, Nat.zero_le _, rfl, (fun s hs => absurd hs (Nat.not_lt_zero _)), Below.refl _ _⟩
  case round =>
    obtain ⟨j, hj, rfl, HA, hb⟩ := hrel
    have hbW := hb1.trans (hb.mono hs1)
    by_cases hlt : j < 21
    · have hji : (j : Int) < 21 := by omega
      have hjz : (0 : Int) ≤ (j : Int) := by omega
      have c0 := HCS.out wr hb j hlt
      have hx2 := HMS.out j hlt
      have HH := Lib.hid (fun h => mark_hit (t := t) (a := a) hlt HA.out h)
      have HNO : Hid (markHit t a (marksA.getD j ⟨#[]⟩) = false → ∀ s, s < j + 1 → markHit t a (marksA.getD s ⟨#[]⟩) = false) := fun h s hs => by
        by_cases e : s = j
        · subst e; exact h
        · exact HA.out s (by omega)
      obtain ⟨x, hx⟩ : ∃ x, Hid (marksA.getD j ⟨#[]⟩ = x) := ⟨_, rfl⟩
      rw [hx.out] at c0 hx2 HH HNO
      have HD : Hid (markHit t a x = (decide (a + x.size ≤ t.size) && ((t.extract a (a + x.size)).toList == x.toList))) := rfl
      have e0 : (0 : Int) ≤ (a : Int) := by omega
      have e1 : ((a : Int) + (x.size : Int)).toNat = a + x.size := by omega
      have e2 : (a : Int) ≤ (a : Int) + (x.size : Int) := by omega
      by_cases hfit : a + x.size ≤ t.size
      · have f1 : (a : Int) + (x.size : Int) ≤ (t.size : Int) := by omega
        have f1d : decide ((a : Int) + (x.size : Int) ≤ (t.size : Int)) = true := decide_eq_true f1
        rw [decide_eq_true hfit] at HD
        clear hfit
        cases g : ((t.extract a (a + x.size)).toList == x.toList) with
        | true =>
          have HM := Lib.hid (HH.out (by rw [HD.out, g]; rfl))
          go_wp2_with fail
          go_quiet (fail)
          go_wp2
          go_ret
          exact ⟨⟨x, rfl, hx2, fun h => absurd HM.out.2 (by omega), fun _ => HM.out.1⟩, blw_drewN hbW _⟩
        | false =>
          have HM := Lib.hid (HNO.out (by rw [HD.out, g]; rfl))
          go_wp2_with fail
          go_quiet (fail)
          go_wp2
          go_roundw
          case rel => exact ⟨j + 1, by omega, by go_num, HM.out, blw_drewN hb _⟩
          case measure => simp [intOf]; omega
      · have f1 : ¬ (a : Int) + (x.size : Int) ≤ (t.size : Int) := by omega
        have f1d : decide ((a : Int) + (x.size : Int) ≤ (t.size : Int)) = false := decide_eq_false f1
        have HM := Lib.hid (HNO.out (by rw [HD.out, decide_eq_false hfit]; rfl))
        clear hfit f1
        go_wp2_with fail
        go_quiet (fail)
        go_wp2
        go_roundw
        case rel => exact ⟨j + 1, by omega, by go_num, HM.out, blw_drewN hb _⟩
        case measure => simp [intOf]; omega
    · have hji : ¬ (j : Int) < 21 := by omega
      have HM := Lib.hid (mark_miss (t := t) (a := a) (fun s hs => HA.out s (by omega)))
      go_wp2
      go_ret
      exact ⟨⟨⟨#[]⟩, rfl, by decide, fun _ => HM.out, fun h => absurd h (by decide)⟩, hbW⟩
end Go.Proofs.YtglcndihhlmogaaDoor
