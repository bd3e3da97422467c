/- Rows of states drawn. -/
import Derived.Test.YtjaginciejljkaaHeapK
namespace Go.Proofs.Ytjaginciejljkaa
open Go.RowKit

theorem push_mem {l : List StL} {x : StL} (h : HeapI l) : ∀ y ∈ pushL l x, y ∈ l ∨ y = x := by
  have hlen : (l ++ [x]).length = l.length + 1 := by simp
  have hst : ∀ k, k < l.length → stA (l ++ [x]) k = stA l k := fun k hk => by
    unfold stA
    rw [List.getD_eq_getElem?_getD, List.getD_eq_getElem?_getD, List.getElem?_append_left hk]
  obtain ⟨_, a2, _, a4⟩ := up_heap (l.length + 1) (l ++ [x]) l.length (by omega) (by omega) ⟨fun k hk h1 h2 => by
    rw [hlen] at hk
    have := up_lt h1
    rw [hst _ (by omega), hst _ (by omega)]
    exact h k (by omega) h1, fun k hk h1 h2 h3 => by
    rw [hlen] at hk
    have := up_lt h1
    omega⟩
  intro y hy
  obtain ⟨k, hk, e⟩ := List.getElem_of_mem hy
  have hk2 : k < (l ++ [x]).length := by rw [← a2]; exact hk
  obtain ⟨j, hj, e2⟩ := a4 k hk2
  have e3 : y = stA (l ++ [x]) j := by rw [← e2, ← e]; exact stA_at hk
  have hm : y ∈ l ++ [x] := by rw [e3, ← stA_at hj]; exact List.getElem_mem hj
  simpa using hm
/-- a drawn row of states -/
def SmallH (xs : List StL) : Prop := xs.length ≤ 9 ∧ ∀ x ∈ xs, SmallS x
theorem HeapI.nil : HeapI [] := fun _ hk _ => absurd hk (Nat.not_lt_zero _)
set_option maxHeartbeats 2000000 in
set_option maxRecDepth 100000 in
theorem l11Heap_any {g lo hi : Nat} {xs : List Int} {w : World} (hc : Cur g lo hi xs w) :
    Calls Try.prog 20 #[.pointer (some ⟨g, 0, none⟩)] w fun e w' => ∃ u ys, e = .returned u ∧ ys.length ≤ 8 ∧ (∀ x ∈ ys, SmallS x) ∧ HeapI ys ∧ HOwn w.heap.size w'.heap.size w' u ys ∧ Out g (g + 1) w w' ∧ Cur g lo hi xs w' := by
  have hgl := hc.lt
  go_enter Try.func20, Try.ntmps20
  go_wp2
  have hb0 : Below w.heap.size w (w.alloc (.cells #[] 28)) := (Below.refl _ _).alloc (Nat.le_refl _) _
  have hc0 := hc.below hb0 hgl
  have ho0 : Out g (g + 1) w (w.alloc (.cells #[] 28)) := Out.of_below hb0
  have hS0 : HOwn w.heap.size (w.alloc (.cells #[] 28)).heap.size (w.alloc (.cells #[] 28)) (.slice (some ⟨w.heap.size, 0, none⟩) 0 0) [] := ⟨[], ⟨Own.empty stF 28 w.heap.size w (Nat.le_refl _), fun p hp => by cases hp⟩, rfl⟩
  generalize w.alloc (.cells #[] 28) = w0 at *
  go_loopw [3, 4] (fun out i wr => ∃ (k : Nat) (ys : List StL), k ≤ 8 ∧ i = .int .i64 k ∧ ys.length = k ∧ Hid ((∀ x ∈ ys, SmallS x) ∧ HeapI ys) ∧ HOwn w.heap.size wr.heap.size wr out ys ∧ Out g (g + 1) w wr ∧ Cur g lo hi xs wr) (fun _ i _ => 9 - (intOf i).toNat)
  case atStart => exact ⟨0, [], Nat.zero_le _, rfl, rfl, ⟨(fun x hx => by cases hx), HeapI.nil⟩, hS0, ho0, hc0⟩
  case round =>
    clear hS0 ho0 hc0 hb0
    obtain ⟨k, ys, hk, rfl, hyl0, HS, hO, ho, hcu⟩ := hrel
    have hyl := Lib.hid hyl0
    have hyk : ys.length ≤ 8 := by omega
    clear hyl0
    have hsz := ho.size
    go_wp2_with fail
    refine (l01Below_any hcu (by omega) (by omega)).mono ?_
    rintro e w1 ⟨x, rfl, x1, x2, ho1, hc1⟩
    have hO1 := (hO.same (ho1.same (Nat.le_refl _) (.inr (by omega)))).wide (Nat.le_refl _) ho1.size
    have hs1 := ho1.size
    have ho1' := ho.trans ho1
    clear hO ho hcu ho1
    by_cases hlt : (k : Int) < x
    · go_wp2_with fail
      refine (l11State_any hc1).mono ?_
      rintro e w2 ⟨u, n, c, s, rfl, hsm, hO2, ho2, hc2⟩
      have hs2 := ho2.size
      obtain ⟨ps, hS, hq⟩ := (hO1.same (ho2.same (Nat.le_refl _) (.inr (by omega)))).wide (Nat.le_refl _) hs2
      have ho2' := ho1'.trans ho2
      have hql : ps.length ≤ 8 := by have e := congrArg List.length hq; rw [List.length_map] at e; omega
      obtain ⟨pa, pc, rfl, -, -⟩ := hS.form
      have HP := Lib.hid (push_spec ps (s, (u, n, c)) _ w.heap.size w2.heap.size w2 hS (hO2.wide (by omega) (Nat.le_refl _)) (by omega) (Nat.le_refl _) (by omega))
      rw [hq] at HP
      have HM := Lib.hid (push_mem (x := s) HS.out.2)
      have HH := Lib.hid (push_heap (x := s) HS.out.2)
      obtain ⟨zs, hzs⟩ : ∃ zs, Hid (pushL ys s = zs) := ⟨_, rfl⟩
      replace HP : Hid (Calls Try.prog 34 #[.slice pa ps.length pc, .agg #[.slice u n c, .int .i64 s.sum]] w2 fun e w' => ∃ u, e = .returned u ∧ HOwn w.heap.size w'.heap.size w' u zs ∧ Below w.heap.size w2 w') := by rw [← hzs.out]; exact HP
      rw [hzs.out] at HM HH
      clear hO1 hO2 hS hq ho1' ho2
      go_wp2_with fail
      refine HP.out.mono ?_
      rintro e w3 ⟨u3, rfl, hO3, hb3⟩
      have HF : Hid ((∀ x ∈ zs, SmallS x) ∧ HeapI zs) := ⟨fun y hy => by
        rcases HM.out y hy with h | h
        · exact HS.out.1 y h
        · subst h; exact hsm, HH.out.1⟩
      have HL : Hid (zs.length = k + 1) := by show _ = _; rw [HH.out.2.1, hyl.out]
      have hc3 := hc2.below hb3 hgl
      have ho3 := ho2'.then hb3 (Nat.le_refl _)
      clear HP
      go_wp2
      go_roundw
      case rel => exact ⟨k + 1, zs, by omega, by go_num, HL.out, HF.out, hO3, ho3, hc3⟩
      case measure => simp [intOf]; omega
    · go_wp2
      go_ret
      exact ⟨_, _, rfl, hyk, HS.out.1, HS.out.2, hO1, ho1', hc1⟩
set_option maxHeartbeats 2000000 in
set_option maxRecDepth 100000 in
theorem l11Any_any {g lo hi : Nat} {xs : List Int} {w : World} (hc : Cur g lo hi xs w) :
    Calls Try.prog 23 #[.pointer (some ⟨g, 0, none⟩)] w fun e w' => ∃ u ys, e = .returned u ∧ SmallH ys ∧ HOwn w.heap.size w'.heap.size w' u ys ∧ Out g (g + 1) w w' ∧ Cur g lo hi xs w' := by
  obtain ⟨i0, hi0, hz0, hz1, hz2⟩ := info_parts Try.infoState
  have hgl := hc.lt
  go_enter Try.func23, Try.ntmps23
  go_wp2_with fail
  refine (l01Below_any hc (by omega) (by omega)).mono ?_
  rintro e w1 ⟨x, rfl, x1, x2, ho1, hc1⟩
  have hs1 := ho1.size
  go_wp2_with fail
  refine (l11Heap_any hc1).mono ?_
  rintro e w2 ⟨u, ys, rfl, hyl, HS0, -, hO2, ho2, hc2⟩
  have HS := Lib.hid HS0
  clear HS0
  have ho2' := ho1.trans ho2
  have hs2 := ho2.size
  by_cases h0 : x = 0
  · subst h0
    go_wp2_with fail
    refine (l11State_any hc2).mono ?_
    rintro e w3 ⟨v, n, c, s, rfl, hsm, hO3, ho3, hc3⟩
    have hs3 := ho3.size
    have hsw := ho2'.size
    obtain ⟨ps, hS, hq⟩ := (hO2.same (ho3.same (Nat.le_refl _) (.inr (by omega)))).wide (lo' := w.heap.size) (hi' := w3.heap.size) (by omega) hs3
    have hql : ps.length ≤ 8 := by have e := congrArg List.length hq; rw [List.length_map] at e; omega
    have hO3' := hO3.wide (lo' := w.heap.size) (hi' := w3.heap.size) (by omega) (Nat.le_refl _)
    have ho3' := ho2'.trans ho3
    have HQ := Lib.hid hq
    obtain ⟨pa, pc, rfl, hp1, hp2⟩ := hS.form
    clear hq hO2 hO3 ho2 ho3 ho2'
    go_wp2_with (at_builtin; refine wp_app1g (F := stF) (P := Try.prog) (y := (s, (v, n, c))) rfl (.tmp 11) (.tmp 14) 24 rfl Try.underlying24 hi0 hz0 hz1 hz2 rfl (by decide) rfl (hS.outer.alloc _) w3.heap.size rfl (heap_alloc_new _ _) rfl (by omega) (by omega) (by simp; omega) ?_; intro v' w4 hO4 hb4 hg4)
    have hs4 : w3.heap.size + 1 ≤ w4.heap.size := by simpa using hb4.size
    have hS4 : HOwn w.heap.size w4.heap.size w4 v' (ys ++ [s]) := ⟨_, (hS.alloc _).snoc (hO3'.alloc _) (by have := hb4.size; simp at this; omega) hO4 hg4, by rw [List.map_append, HQ.out]; rfl⟩
    have hb5 : Below w.heap.size w3 w4 := blw_al1 hb4 (by omega)
    have hc4 := hc3.below hb5 hgl
    have ho4 := ho3'.then hb5 (Nat.le_refl _)
    have HF : Hid (SmallH (ys ++ [s])) := ⟨by simp; omega, fun y hy => by
      rcases List.mem_append.1 hy with h | h
      · exact HS.out y h
      · simp at h; subst h; exact hsm⟩
    clear hO4 hg4 hS
    go_wp2
    go_ret
    exact ⟨_, _, rfl, HF.out, hS4, ho4, hc4⟩
  · have HF : Hid (SmallH ys) := ⟨by omega, HS.out⟩
    have hsw := ho2'.size
    have hO4 := hO2.wide (lo' := w.heap.size) (by omega) (Nat.le_refl _)
    go_wp2
    go_ret
    exact ⟨_, _, rfl, HF.out, hO4, ho2', hc2⟩
end Go.Proofs.Ytjaginciejljkaa
