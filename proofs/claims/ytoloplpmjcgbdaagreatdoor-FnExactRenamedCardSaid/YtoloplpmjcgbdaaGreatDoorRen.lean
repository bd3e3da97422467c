/- Renamed of both. -/
import Derived.Test.YtoloplpmjcgbdaaGreatDoorCount
import Derived.Test.YtoloplpmjcgbdaaGreatDoorMembersP
import Derived.Test.YtoloplpmjcgbdaaGreatDoorHNodeM
import Derived.Test.YtoloplpmjcgbdaaGreatDoorDeepR
import Derived.Test.YtoloplpmjcgbdaaGreatDoorShelf
import Derived.Lib.SlicesS
import Derived.Test.YtoloplpmjcgbdaaGreatDoorMembers
namespace Go.Proofs.YtoloplpmjcgbdaaGreatDoor
open Go.RowKit

def Node.put (x : Node) (t : ByteArray) : Node := ⟨x.kind, t, x.kids, x.blank⟩
/-- as the program does: it looks at what stands there by now -/
def renI (frm to : ByteArray) (ys : List Node) (i : Int) : List Node := if hasNm (nd ys i) frm then ys.set i.toNat ((nd ys i).put to) else ys
/-- as the reference does: it looks at what stood there -/
def renS (xs : List Node) (frm to : ByteArray) (ys : List Node) (i : Int) : List Node := if hasNm (nd xs i) frm then ys.set i.toNat ((nd ys i).put to) else ys
def renL (xs : List Node) (us : List Int) (frm to : ByteArray) : List Node := us.foldl (renS xs frm to) xs
theorem renS_len (xs : List Node) (frm to : ByteArray) (ys : List Node) (i : Int) : (renS xs frm to ys i).length = ys.length := by
  unfold renS; split <;> simp
theorem renL_len (xs : List Node) (frm to : ByteArray) : ∀ (us : List Int) (ys : List Node), (us.foldl (renS xs frm to) ys).length = ys.length
  | [], _ => rfl
  | u :: us, ys => by rw [List.foldl_cons, renL_len xs frm to us, renS_len]
/-- each is as it was, or has the new name -/
def RenOk (xs ys : List Node) (frm to : ByteArray) : Prop := ys.length = xs.length ∧ ∀ j : Nat, j < xs.length → nd ys (j : Int) = nd xs (j : Int) ∨ (hasNm (nd xs (j : Int)) frm = true ∧ nd ys (j : Int) = (nd xs (j : Int)).put to)
theorem nd_set {ys : List Node} {i j : Nat} {x : Node} (hi : i < ys.length) : nd (ys.set i x) (j : Int) = if i = j then x else nd ys (j : Int) := by
  unfold nd
  simp only [Int.toNat_natCast, List.getD_eq_getElem?_getD, List.getElem?_set]
  by_cases h : i = j
  · subst h; simp [hi]
  · simp [h]
theorem set_nd_self {ys : List Node} {i : Nat} (hi : i < ys.length) : ys.set i (nd ys (i : Int)) = ys := by
  rw [nd_at hi, List.set_getElem_self]
theorem RenOk.step {xs ys : List Node} {frm to : ByteArray} (h : RenOk xs ys frm to) {i : Nat} (hi : i < xs.length) : renI frm to ys (i : Int) = renS xs frm to ys (i : Int) ∧ RenOk xs (renS xs frm to ys (i : Int)) frm to := by
  obtain ⟨hl, h1⟩ := h
  have hiy : i < ys.length := by omega
  rcases h1 i hi with e | ⟨e1, e2⟩
  · refine ⟨by unfold renI renS; rw [e], by rw [renS_len]; exact hl, fun j hj => ?_⟩
    unfold renS
    by_cases hn : hasNm (nd xs (i : Int)) frm = true
    · rw [if_pos hn, Int.toNat_natCast, nd_set hiy]
      by_cases hij : i = j
      · subst hij; rw [if_pos rfl, e]; exact .inr ⟨hn, rfl⟩
      · rw [if_neg hij]; exact h1 j hj
    · rw [if_neg hn]; exact h1 j hj
  · have e3 : renS xs frm to ys (i : Int) = ys := by
      unfold renS
      rw [if_pos e1, Int.toNat_natCast, e2]
      have : ((nd xs (i : Int)).put to).put to = nd ys (i : Int) := by rw [e2]; rfl
      rw [this, set_nd_self hiy]
    have e4 : renI frm to ys (i : Int) = ys := by
      unfold renI
      split
      · rw [Int.toNat_natCast, e2]
        have : ((nd xs (i : Int)).put to).put to = nd ys (i : Int) := by rw [e2]; rfl
        rw [this, set_nd_self hiy]
      · rfl
    rw [e3, e4]
    exact ⟨rfl, hl, h1⟩
theorem RenOk.start (xs : List Node) (frm to : ByteArray) : RenOk xs xs frm to := ⟨rfl, fun _ _ => .inl rfl⟩
theorem renTo_ok {xs : List Node} {us : List Int} {frm to : ByteArray} (hu : ∀ u ∈ us, ∃ i : Nat, u = (i : Int) ∧ i < xs.length) : ∀ t, RenOk xs ((us.take t).foldl (renS xs frm to) xs) frm to
  | 0 => RenOk.start xs frm to
  | t + 1 => by
    by_cases ht : t < us.length
    · rw [List.take_succ_eq_append_getElem ht, List.foldl_append]
      obtain ⟨i, hi, hl⟩ := hu _ (List.getElem_mem ht)
      show RenOk xs (renS xs frm to _ us[t]) frm to
      rw [hi]
      exact ((renTo_ok hu t).step hl).2
    · rw [List.take_of_length_le (by omega)]
      have := renTo_ok (frm := frm) (to := to) hu t
      rwa [List.take_of_length_le (by omega)] at this
theorem renTo_next {xs : List Node} {us : List Int} {frm to : ByteArray} {t : Nat} (ht : t < us.length) : (us.take (t + 1)).foldl (renS xs frm to) xs = renS xs frm to ((us.take t).foldl (renS xs frm to) xs) us[t] := by
  rw [List.take_succ_eq_append_getElem ht, List.foldl_append]; rfl
/-- may the name be put for the other in the member? -/
noncomputable def renOk (xs : List Node) (k : Int) (frm to : ByteArray) : Bool := (membersL xs).contains k && !((nd xs k).kind == 21) && !(countN xs k frm == 0) && isNm to && (countN xs k to == 0)
noncomputable def renamedL (xs : List Node) (k : Int) (frm to : ByteArray) : List Node := if renOk xs k frm to then renL xs (underL xs k) frm to else xs
theorem membersL_mem {xs : List Node} {k : Int} (h : k ∈ membersL xs) : 0 ≤ k ∧ k < xs.length := by
  unfold membersL at h
  split at h
  · obtain ⟨q, hq, rfl⟩ := List.mem_map.1 h
    have := List.mem_range.1 (List.mem_filter.1 hq).1
    omega
  · cases h
theorem underL_nat {xs : List Node} {k : Int} : ∀ u ∈ underL xs k, ∃ i : Nat, u = (i : Int) ∧ i < xs.length := fun u hu => by
  obtain ⟨h1, h2, -⟩ := underL_mem hu
  exact ⟨u.toNat, by omega, by omega⟩
end Go.Proofs.YtoloplpmjcgbdaaGreatDoor
namespace Go.Proofs.YtoloplpmjcgbdaaGreatDoor
open Go.RowKit

theorem Tryz.infoIntR : (Tryz.prog.info? 3).map (fun i => (i.zero, i.size, i.bytes)) = some (some (.int .i64 0), 1, 8) := by kernel_rfl
theorem containsI_any {xs : List Int} {v : Value} {lo hi : Nat} {w : World} (k : Int) (hr : Rd intS lo hi w v xs) :
    Calls Tryz.prog 30 #[v, .int .i64 k] w fun e w' => e = .returned (.bool (xs.contains k)) ∧ w' = w := by
  have hl := hr.len_le
  obtain ⟨a, c, rfl⟩ := hr.sl
  by_cases h0 : xs.length = 0
  · obtain rfl : xs = [] := List.eq_nil_of_length_eq_zero h0
    exact Tryz.slices_Contains_int_empty a c k w
  · obtain ⟨b, off, rfl, -, -, -⟩ := hr.intAt (show 0 < xs.length by omega)
    have q := Tryz.slices_Contains_int b off xs.length c xs k w (Nat.le_refl _) hl (fun j hj => by
      obtain ⟨b2, off2, e, -, -, c0⟩ := hr.intAt hj
      injection e with e
      injection e with e1 e2
      subst e1; subst e2
      exact c0)
    rw [List.take_of_length_le (Nat.le_refl _)] at q
    exact q
theorem contains_next {xs : List Int} {k : Int} {q : Nat} (h : q < xs.length) : (xs.take (q + 1)).contains k = ((xs.take q).contains k || (k == xs.getD q 0)) := by
  rw [List.take_succ_eq_append_getElem h, List.getD_eq_getElem?_getD, List.getElem?_eq_getElem h, List.contains_append]
  simp only [List.contains_cons, List.contains_nil, Bool.or_false, Option.getD_some]
theorem contains_of {xs : List Int} {k : Int} {q : Nat} (h : q < xs.length) (e : xs.getD q 0 = k) : xs.contains k = true := by
  rw [List.getD_eq_getElem?_getD, List.getElem?_eq_getElem h] at e
  simp only [Option.getD_some] at e
  simp only [List.contains_iff_mem]
  exact e ▸ List.getElem_mem h
set_option maxHeartbeats 400000 in
set_option maxRecDepth 100000 in
theorem l22In_any {xs : List Int} {v : Value} {lo hi : Nat} {w : World} (k : Int) (hr : Rd intS lo hi w v xs) :
    Calls Tryz.prog 23 #[v, .int .i64 k] w fun e w' => e = .returned (.bool (xs.contains k)) ∧ w' = w := by
  have hl := hr.len_le
  obtain ⟨a, c, rfl⟩ := hr.sl
  obtain ⟨bb, hbb⟩ : ∃ bb, Hid (xs.contains k = bb) := ⟨_, rfl⟩
  rw [hbb.out]
  go_enter Tryz.func23, Tryz.ntmps23
  go_wp2
  go_loop [5] (fun i => ∃ q : Nat, q ≤ xs.length ∧ i = .int .i64 q ∧ Hid ((xs.take q).contains k = false)) (fun i => xs.length - (intOf i).toNat)
  case atStart => exact ⟨0, Nat.zero_le _, rfl, rfl⟩
  case round =>
    obtain ⟨q, hq, rfl, hf⟩ := hrel
    by_cases hlt : q < xs.length
    · obtain ⟨b, off, rfl, -, -, c0⟩ := hr.intAt hlt
      have hqi : (q : Int) < (xs.length : Int) := by omega
      have hn := Lib.hid (contains_next (k := k) hlt)
      have hy := Lib.hid (contains_of (xs := xs) (k := k) hlt)
      generalize xs.getD q 0 = x at *
      by_cases e : x = k
      · obtain rfl : true = bb := (hy.out e).symm.trans hbb.out
        clear hn hy hbb
        go_wp2
        go_ret
        exact ⟨rfl, rfl⟩
      · have hne : Hid ((xs.take (q + 1)).contains k = false) := by
          show _ = _
          rw [hn.out, hf.out]
          simp only [Bool.false_or, beq_eq_false_iff_ne]
          exact fun h => e h.symm
        clear hn hy
        go_wp2
        go_round
        case rel => exact ⟨q + 1, by omega, by go_num, hne⟩
        case measure => simp [intOf]; omega
    · have hqi : ¬ (q : Int) < (xs.length : Int) := by omega
      have hF : xs.contains k = false := by
        rw [← hf.out, List.take_of_length_le (by omega)]
      obtain rfl : false = bb := hF.symm.trans hbb.out
      clear hF hbb hf
      go_wp2
      go_ret
      exact ⟨rfl, rfl⟩
set_option maxHeartbeats 400000 in
theorem cloneR_any {xs : List Int} {v : Value} {lo hi : Nat} {w : World} (hr : Rd intS lo hi w v xs) (hh : hi ≤ w.heap.size) (hl : xs.length ≤ 1048576) :
    Calls Tryz.prog 59 #[v] w fun e w' => ∃ u, e = .returned u ∧ Below w.heap.size w w' ∧ Own intF 3 w.heap.size w'.heap.size w' u xs := by
  obtain ⟨i0, hi0, hz0, hz1, hz2⟩ := info_parts Tryz.infoIntR
  obtain ⟨a, c, rfl, h2, h3, h4, h5⟩ := id hr
  have hne := fun (w : World) (a : Option Addr) (n c : Nat) => Lib.run_eql_slice_nil (P := Tryz.prog) w 34 3 a n c 0 0 Tryz.underlying34
  cases a with
  | none =>
    obtain rfl := h4 rfl
    have hx : xs = [] := List.eq_nil_of_length_eq_zero (by omega)
    subst hx
    go_enter Tryz.func59, Tryz.ntmps59
    go_wp2
    go_ret
    exact ⟨_, rfl, Below.refl _ _, Own.nil _ _ _ _ _⟩
  | some ad =>
    go_enter Tryz.func59, Tryz.ntmps59
    go_wp2_with (at_builtin; refine wp_appAll (F := intF) (P := Tryz.prog) (ys := xs) (lo' := lo) (hi' := hi) rfl (.tmp 5) (.tmp 6) 34 rfl Tryz.underlying34 hi0 hz0 hz1 hz2 rfl (by decide) rfl (Own.empty intF 3 w.heap.size w (Nat.le_refl _)) rfl (hr.below ((Below.refl w.heap.size w).alloc (Nat.le_refl _) _) hh) (by simp; omega) (by simp; omega) (by simp) ?_; intro v' w' hO' hb')
    go_ret
    exact ⟨_, rfl, blw_al1 hb' (Nat.le_refl _), hO'⟩
set_option maxHeartbeats 2000000 in
set_option maxRecDepth 100000 in
theorem copyNodes_impl (xs : List Node) (v : Value) (lo hi : Nat) (w : World) (hr : Rd nodeS lo hi w v xs) (hh : hi ≤ w.heap.size) (hl : xs.length ≤ 1048576) (hlk : ∀ x ∈ xs, x.kids.length ≤ 1048576) :
    Calls Tryz.prog 29 #[v] w fun e w' => ∃ u, e = .returned u ∧ Below w.heap.size w w' ∧ NOwn w.heap.size w'.heap.size w' u xs := by
  obtain ⟨i0, hi0, hz0, hz1, hz2⟩ := info_parts Tryz.infoNode
  obtain ⟨i1, hi1, hy0, hy1, hy2⟩ := info_parts Tryz.infoIntR
  obtain ⟨a, c, rfl, h2, h3, h4, h5⟩ := hr.nodeS
  unfold maxLen at h3
  obtain ⟨B, HB⟩ : ∃ B, Hid (B = w.heap.size) := ⟨_, rfl⟩
  have hB1 : B ≤ w.heap.size := Nat.le_of_eq HB.out
  have hB2 : w.heap.size ≤ B := Nat.le_of_eq HB.out.symm
  go_enter Tryz.func29, Tryz.ntmps29
  go_wp2
  go_loopw [3, 8] (fun out i wr => ∃ (k : Nat) (ps : List (Node × SV)), k ≤ xs.length ∧ i = .int .i64 k ∧ Hid (ps.length = k) ∧ Hid (ps.map (·.1) = xs.take k) ∧ Below B w wr ∧ FOwn nodeF Node.kids 38 3 B wr.heap.size wr out ps) (fun _ i _ => xs.length - (intOf i).toNat)
  case atStart => exact ⟨0, [], Nat.zero_le _, rfl, rfl, rfl, (Below.refl _ _).mono hB1, FOwn.nil⟩
  case round =>
    obtain ⟨k, ps, hk, rfl, hyl, hyt, hb, hO⟩ := hrel
    have hsz := hb.size
    by_cases hlt : k < xs.length
    · obtain ⟨b, off, ka, kc, rfl, hlo, hhi, c0, c1, c2, c3, hrk⟩ := h5 k hlt
      have d0 := (hb.cell (p := ⟨b, _, none⟩) (by show b < _; omega)).trans c0
      have d1 := (hb.cell (p := ⟨b, _, none⟩) (by show b < _; omega)).trans c1
      have d2 := (hb.cell (p := ⟨b, _, none⟩) (by show b < _; omega)).trans c2
      have d3 := (hb.cell (p := ⟨b, _, none⟩) (by show b < _; omega)).trans c3
      have hrk' := hrk.below hb (by omega)
      have hlx := hlk _ (List.getElem_mem hlt)
      have hy := Lib.hid (fun s : SV => show (ps ++ [(xs[k], s)]).map (·.1) = xs.take (k + 1) by rw [List.map_append, hyt.out, List.take_succ_eq_append_getElem hlt]; rfl)
      have hki : (k : Int) < (xs.length : Int) := by omega
      clear c0 c1 c2 c3 hyt hrk
      generalize xs[k] = x at *
      obtain ⟨kind, text, kids, blank⟩ := x
      simp only at d0 d1 d2 d3 hrk' hlx
      go_upto_region 5 with fail
      have kA : Below wr.heap.size wr (wr.alloc (.cells #[.int .i64 kind, .string text, .slice ka kids.length kc, .bool blank] 38)) := (Below.refl _ _).alloc (Nat.le_refl _) _
      have hX := heap_alloc_new wr (.cells #[.int .i64 kind, .string text, .slice ka kids.length kc, .bool blank] 38)
      have hsx : (wr.alloc (.cells #[.int .i64 kind, .string text, .slice ka kids.length kc, .bool blank] 38)).heap.size = wr.heap.size + 1 := by simp
      obtain ⟨X, HX⟩ : ∃ X, Hid (X = wr.heap.size) := ⟨_, rfl⟩
      have hX1 : X ≤ wr.heap.size := Nat.le_of_eq HX.out
      have hX2 : wr.heap.size ≤ X := Nat.le_of_eq HX.out.symm
      rw [← HX.out] at hX ⊢
      have hbx := hb.trans (kA.mono (by omega))
      have hOx := hO.below kA (Nat.le_refl _)
      have hrx := hrk'.below kA (by omega)
      clear d0 d1 d2 d3 hO kA hb hrk'
      generalize wr.alloc (.cells #[.int .i64 kind, .string text, .slice ka kids.length kc, .bool blank] 38) = wx at *
      have hxs : X < wx.heap.size := by omega
      clear hsx
      have e0 := cell_heap (j := 0) hX rfl
      have e1 := cell_heap (j := 1) hX rfl
      have e2 := cell_heap (j := 2) hX rfl
      have e3 := cell_heap (j := 3) hX rfl
      go_wp2_with fail
      refine (cloneR_any hrx (by omega) hlx).mono ?_
      rintro e w2 ⟨u, rfl, hb2, hos⟩
      obtain ⟨sa, sc, rfl, -, -, -⟩ := hos.form
      have hX3 := blk hb2 hX
      have g2 := cell_heap (j := 2) hX3 rfl
      have q2 := frozen_heap (j := 2) hX3
      go_upto_region 6 with fail
      have hs2 := hb2.size
      have hO2 := hOx.below hb2 (by omega)
      have hb3 := hbx.trans (hb2.mono (by omega))
      clear e0 e1 e2 e3 hX hOx hbx hrx
      have hX4 := heap_set_same (j := 2) (v := .slice sa kids.length sc) hX3
      have hB4 : Below X w2 (w2.setCell ⟨X, 2, none⟩ (.slice sa kids.length sc)) := (Below.refl _ _).setCell (p := ⟨X, 2, none⟩) (Nat.le_refl _) _
      have hos4 := hos.keepFar (g := X) (fun e => by have := (hos.below_heap X e).1; omega) 2 (.slice sa kids.length sc)
      have hz4 : (w2.setCell ⟨X, 2, none⟩ (.slice sa kids.length sc)).heap.size = w2.heap.size := by simp [World.setCell]
      have hz5 : w2.heap.size ≤ (w2.setCell ⟨X, 2, none⟩ (.slice sa kids.length sc)).heap.size := Nat.le_of_eq hz4.symm
      have hO4 := hO2.below hB4 (by omega)
      have hb4 := hb3.trans (hB4.mono (by omega))
      replace hos4 := hos4.wide (Nat.le_refl _) hz5
      clear g2 q2 hX3 hB4 hos hO2 hb3 hz4
      generalize w2.setCell ⟨X, 2, none⟩ (.slice sa kids.length sc) = w4 at *
      replace hX4 : w4.heap[X]? = some (.cells #[.int .i64 kind, .string text, .slice sa kids.length sc, .bool blank] 38) := hX4
      have e0 := cell_heap (j := 0) hX4 rfl
      have e1 := cell_heap (j := 1) hX4 rfl
      have e2 := cell_heap (j := 2) hX4 rfl
      have e3 := cell_heap (j := 3) hX4 rfl
      have hpl : ps.length ≤ 1048576 := by have := hyl.out; omega
      go_wp2_with (at_builtin; refine wp_app1g (F := nodeF) (P := Tryz.prog) (y := (((⟨kind, text, kids, blank⟩ : Node), ((sa, kids.length, sc) : SV)) : Node × SV)) rfl (.tmp 16) (.tmp 18) 25 rfl Tryz.underlying25 hi0 hz0 hz1 hz2 rfl (by decide) rfl (hO4.outer.alloc _) w4.heap.size rfl (heap_alloc_new _ _) rfl (by omega) (by omega) (by simp; omega) ?_; intro v' w' hO' hb' hg')
      have hsw := hg'.size
      simp at hsw
      have hS := (hO4.alloc _).snoc (hi2 := w'.heap.size) (s := (sa, kids.length, sc)) (x' := (⟨kind, text, kids, blank⟩ : Node)) (by decide) (hos4.alloc _) (by omega) (by omega) (by omega) (fun g hg => by have := (hos4.below_heap g hg).1; omega) hO' hg'
      have hbF : Below B w w' := hb4.trans (blw_al1 hb' (by omega))
      go_roundw
      case rel => exact ⟨k + 1, _, by omega, by go_num, (by have := hyl.out; show _ = _; simp; omega), hy.out _, hbF, hS⟩
      case measure => simp [intOf]; omega
    · have hki : ¬ (k : Int) < (xs.length : Int) := by omega
      have HK := Lib.hid (show k = xs.length by omega)
      go_wp2
      go_ret
      have e := HB.out
      subst e
      refine ⟨_, rfl, hb, ps, hO, ?_⟩
      rw [hyt.out, HK.out, List.take_length]
set_option maxHeartbeats 2000000 in
set_option maxRecDepth 100000 in
theorem l05Copy_spec (xs : List Node) (v : Value) (lo hi : Nat) (w : World) (hr : Rd nodeS lo hi w v xs) (hh : hi ≤ w.heap.size) (hl : xs.length ≤ 1048576) (hlk : ∀ x ∈ xs, x.kids.length ≤ 1048576) :
    Calls Tryz.prog 22 #[v] w fun e w' => ∃ u, e = .returned u ∧ Below w.heap.size w w' ∧ NOwn w.heap.size w'.heap.size w' u xs := by
  obtain ⟨i0, hi0, hz0, hz1, hz2⟩ := info_parts Tryz.infoNode
  obtain ⟨i1, hi1, hy0, hy1, hy2⟩ := info_parts Tryz.infoIntR
  obtain ⟨a, c, rfl, h2, h3, h4, h5⟩ := hr.nodeS
  unfold maxLen at h3
  obtain ⟨B, HB⟩ : ∃ B, Hid (B = w.heap.size) := ⟨_, rfl⟩
  have hB1 : B ≤ w.heap.size := Nat.le_of_eq HB.out
  have hB2 : w.heap.size ≤ B := Nat.le_of_eq HB.out.symm
  go_enter Tryz.func22, Tryz.ntmps22
  go_upto_region 2 with fail
  have kE : Below w.heap.size w (w.alloc (.cells #[] 38)) := (Below.refl _ _).alloc (Nat.le_refl _) _
  have hE := Own.empty nodeF 38 w.heap.size w (Nat.le_refl _)
  have hF0 : FOwn nodeF Node.kids 38 3 B (w.alloc (.cells #[] 38)).heap.size (w.alloc (.cells #[] 38)) (.slice (some ⟨w.heap.size, 0, none⟩) 0 0) [] := ⟨hE.wide hB1 (Nat.le_refl _), fun _ h => absurd h (Nat.not_lt_zero _), fun _ _ h => absurd h (Nat.not_lt_zero _)⟩
  have hbE : Below B w (w.alloc (.cells #[] 38)) := kE.mono hB1
  generalize w.alloc (.cells #[] 38) = w0 at *
  go_wp2
  go_loopw [3, 4] (fun out i wr => ∃ (k : Nat) (ps : List (Node × SV)), k ≤ xs.length ∧ i = .int .i64 k ∧ Hid (ps.length = k) ∧ Hid (ps.map (·.1) = xs.take k) ∧ Below B w wr ∧ FOwn nodeF Node.kids 38 3 B wr.heap.size wr out ps) (fun _ i _ => xs.length - (intOf i).toNat)
  case atStart => exact ⟨0, [], Nat.zero_le _, rfl, rfl, rfl, hbE, hF0⟩
  case round =>
    obtain ⟨k, ps, hk, rfl, hyl, hyt, hb, hO⟩ := hrel
    have hsz := hb.size
    by_cases hlt : k < xs.length
    · obtain ⟨b, off, ka, kc, rfl, hlo, hhi, c0, c1, c2, c3, hrk⟩ := h5 k hlt
      have d0 := (hb.cell (p := ⟨b, _, none⟩) (by show b < _; omega)).trans c0
      have d1 := (hb.cell (p := ⟨b, _, none⟩) (by show b < _; omega)).trans c1
      have d2 := (hb.cell (p := ⟨b, _, none⟩) (by show b < _; omega)).trans c2
      have d3 := (hb.cell (p := ⟨b, _, none⟩) (by show b < _; omega)).trans c3
      have hrk' := hrk.below hb (by omega)
      have hlx := hlk _ (List.getElem_mem hlt)
      have hy := Lib.hid (fun s : SV => show (ps ++ [(xs[k], s)]).map (·.1) = xs.take (k + 1) by rw [List.map_append, hyt.out, List.take_succ_eq_append_getElem hlt]; rfl)
      have hki : (k : Int) < (xs.length : Int) := by omega
      clear c0 c1 c2 c3 hyt hrk
      generalize xs[k] = x at *
      obtain ⟨kind, text, kids, blank⟩ := x
      simp only at d0 d1 d2 d3 hrk' hlx
      go_upto_region 6 with fail
      have kA : Below wr.heap.size wr (wr.alloc (.cells #[.int .i64 kind, .string text, .slice ka kids.length kc, .bool blank] 38)) := (Below.refl _ _).alloc (Nat.le_refl _) _
      have hX := heap_alloc_new wr (.cells #[.int .i64 kind, .string text, .slice ka kids.length kc, .bool blank] 38)
      have hsx : (wr.alloc (.cells #[.int .i64 kind, .string text, .slice ka kids.length kc, .bool blank] 38)).heap.size = wr.heap.size + 1 := by simp
      obtain ⟨X, HX⟩ : ∃ X, Hid (X = wr.heap.size) := ⟨_, rfl⟩
      have hX1 : X ≤ wr.heap.size := Nat.le_of_eq HX.out
      have hX2 : wr.heap.size ≤ X := Nat.le_of_eq HX.out.symm
      rw [← HX.out] at hX ⊢
      have hbx := hb.trans (kA.mono (by omega))
      have hOx := hO.below kA (Nat.le_refl _)
      have hrx := hrk'.below kA (by omega)
      clear d0 d1 d2 d3 hO kA hb hrk'
      generalize wr.alloc (.cells #[.int .i64 kind, .string text, .slice ka kids.length kc, .bool blank] 38) = wx at *
      have hxs : X < wx.heap.size := by omega
      clear hsx
      have e0 := cell_heap (j := 0) hX rfl
      have e1 := cell_heap (j := 1) hX rfl
      have e2 := cell_heap (j := 2) hX rfl
      have e3 := cell_heap (j := 3) hX rfl
      have e9 := cell_heap (j := 2) (blk ((Below.refl wx.heap.size wx).alloc (Nat.le_refl _) (.cells #[] 3)) hX) rfl
      go_upto_region 7 with (at_builtin; refine wp_appAll (F := intF) (P := Tryz.prog) (ys := kids) (lo' := lo) (hi' := hi) rfl (.tmp 17) (.tmp 19) 34 rfl Tryz.underlying34 hi1 hy0 hy1 hy2 rfl (by decide) rfl (Own.empty intF 3 wx.heap.size wx (Nat.le_refl _)) rfl (hrx.below ((Below.refl wx.heap.size wx).alloc (Nat.le_refl _) _) (by omega)) (by simp; omega) (by simp; omega) (by simp) ?_; intro u w2 hos hb9; rw [List.nil_append] at hos; obtain ⟨sa, sc, rfl, -, -, -⟩ := hos.form; have hb2 : Below wx.heap.size wx w2 := ((Below.refl _ _).alloc (Nat.le_refl _) _).trans hb9; have hX3 := blk hb2 hX; have g2 := cell_heap (j := 2) hX3 rfl; have q2 := frozen_heap (j := 2) hX3)
      clear e9 hb9
      have hs2 := hb2.size
      have hO2 := hOx.below hb2 (by omega)
      have hb3 := hbx.trans (hb2.mono (by omega))
      clear e0 e1 e2 e3 hX hOx hbx hrx
      have hX4 := heap_set_same (j := 2) (v := .slice sa kids.length sc) hX3
      have hB4 : Below X w2 (w2.setCell ⟨X, 2, none⟩ (.slice sa kids.length sc)) := (Below.refl _ _).setCell (p := ⟨X, 2, none⟩) (Nat.le_refl _) _
      have hos4 := hos.keepFar (g := X) (fun e => by have := (hos.below_heap X e).1; omega) 2 (.slice sa kids.length sc)
      have hz4 : (w2.setCell ⟨X, 2, none⟩ (.slice sa kids.length sc)).heap.size = w2.heap.size := by simp [World.setCell]
      have hz5 : w2.heap.size ≤ (w2.setCell ⟨X, 2, none⟩ (.slice sa kids.length sc)).heap.size := Nat.le_of_eq hz4.symm
      have hO4 := hO2.below hB4 (by omega)
      have hb4 := hb3.trans (hB4.mono (by omega))
      replace hos4 := hos4.wide (Nat.le_refl _) hz5
      clear g2 q2 hX3 hB4 hos hO2 hb3 hz4
      generalize w2.setCell ⟨X, 2, none⟩ (.slice sa kids.length sc) = w4 at *
      replace hX4 : w4.heap[X]? = some (.cells #[.int .i64 kind, .string text, .slice sa kids.length sc, .bool blank] 38) := hX4
      have e0 := cell_heap (j := 0) hX4 rfl
      have e1 := cell_heap (j := 1) hX4 rfl
      have e2 := cell_heap (j := 2) hX4 rfl
      have e3 := cell_heap (j := 3) hX4 rfl
      have hpl : ps.length ≤ 1048576 := by have := hyl.out; omega
      go_wp2_with (at_builtin; refine wp_app1g (F := nodeF) (P := Tryz.prog) (y := (((⟨kind, text, kids, blank⟩ : Node), ((sa, kids.length, sc) : SV)) : Node × SV)) rfl (.tmp 22) (.tmp 24) 25 rfl Tryz.underlying25 hi0 hz0 hz1 hz2 rfl (by decide) rfl (hO4.outer.alloc _) w4.heap.size rfl (heap_alloc_new _ _) rfl (by omega) (by omega) (by simp; omega) ?_; intro v' w' hO' hb' hg')
      have hsw := hg'.size
      simp at hsw
      have hS := (hO4.alloc _).snoc (hi2 := w'.heap.size) (s := (sa, kids.length, sc)) (x' := (⟨kind, text, kids, blank⟩ : Node)) (by decide) (hos4.alloc _) (by omega) (by omega) (by omega) (fun g hg => by have := (hos4.below_heap g hg).1; omega) hO' hg'
      have hbF : Below B w w' := hb4.trans (blw_al1 hb' (by omega))
      go_roundw
      case rel => exact ⟨k + 1, _, by omega, by go_num, (by have := hyl.out; show _ = _; simp; omega), hy.out _, hbF, hS⟩
      case measure => simp [intOf]; omega
    · have hki : ¬ (k : Int) < (xs.length : Int) := by omega
      have HK := Lib.hid (show k = xs.length by omega)
      go_wp2
      go_ret
      have e := HB.out
      subst e
      refine ⟨_, rfl, hb, ps, hO, ?_⟩
      rw [hyt.out, HK.out, List.take_length]
end Go.Proofs.YtoloplpmjcgbdaaGreatDoor
namespace Go.Proofs.YtoloplpmjcgbdaaGreatDoor
open Go.RowKit

/-- the mark of row j's kind -/
def kOf (ls : List Nat) (j : Nat) : Nat := 1 + 3 * j + (ls.take j).sum
def blkB (k : Nat) : Bool := ((k : Int) % 3 == 0)
/-- the first q rows are marked -/
def MDone (lo hi : Nat) (w : World) (G : Nat) (ps : List SV) (ls : List Nat) (q : Nat) : Prop := ∀ j, j < q → ∀ (h1 : j < ps.length) (h2 : j < ls.length),
  w.cell? ⟨G, j * 4, none⟩ = some (.int .i64 ((kOf ls j : Nat) : Int)) ∧ w.cell? ⟨G, j * 4 + 1, none⟩ = some (.string (mt (kOf ls j + 1))) ∧ w.cell? ⟨G, j * 4 + 3, none⟩ = some (.bool (blkB (kOf ls j + 2 + ls[j]))) ∧ Own intF 3 lo hi w ps[j].v (intMarks (kOf ls j + 2) ls[j])
theorem own_block {α : Type} {F : Flat α} {T lo hi : Nat} {w w' : World} {v : Value} {xs : List α} (h : Own F T lo hi w v xs) (hb : ∀ g, v.ownBlock = some g → w'.heap[g]? = w.heap[g]?) : Own F T lo hi w' v xs := by
  refine ⟨⟨h.1.1, ?_⟩, h.2⟩
  rcases h.1.2 with hn0 | ⟨g', cap, cur, e3, hb3, hg3, rest⟩
  · exact .inl hn0
  · exact .inr ⟨g', cap, cur, e3, hb3, (hb g' (by rw [e3]; rfl)).trans hg3, rest⟩
theorem MRow.in_hi {lo hi G n j : Nat} {w : World} {ps : List SV} {ls : List Nat} (h : MRow lo hi w G n ps ls) {q : Nat} (_ : j < q) (hj : j < ps.length) {g : Nat} (hg : ps[j].v.ownBlock = some g) : g < hi := by
  obtain ⟨ys, ho, -⟩ := h.inner j hj (by rw [h.lens, ← h.len]; exact hj)
  exact ho.2 g hg
theorem MDone.keep {lo hi G n q : Nat} {w w' : World} {ps : List SV} {ls : List Nat} (h : MDone lo hi w G ps ls q) (_ : q ≤ n) (_ : MRow lo hi w G n ps ls) (h1 : ∀ a, a < q * 4 → w'.cell? ⟨G, a, none⟩ = w.cell? ⟨G, a, none⟩) (h2 : ∀ j, j < q → ∀ (hj : j < ps.length) g, ps[j].v.ownBlock = some g → w'.heap[g]? = w.heap[g]?) : MDone lo hi w' G ps ls q := by
  intro j hj hp hl
  obtain ⟨a, b, c, d⟩ := h j hj hp hl
  exact ⟨(h1 _ (by omega)).trans a, (h1 _ (by omega)).trans b, (h1 _ (by omega)).trans c, own_block d fun g hg => h2 j hj hp g hg⟩
theorem MDone.same {lo hi G n q : Nat} {w w' : World} {ps : List SV} {ls : List Nat} (h : MDone lo hi w G ps ls q) (hM : MRow lo hi w G n ps ls) (hq : q ≤ n) (hs : Same lo hi w w') : MDone lo hi w' G ps ls q := by
  have hb := hs G hM.low hM.high
  refine h.keep hq hM (fun a _ => World.cell?_of_block hb) fun j hj hp g hg => ?_
  obtain ⟨ys, ho, -⟩ := hM.inner j hp (by rw [hM.lens, ← hM.len]; exact hp)
  exact hs g (ho.1.lt g hg).1 (ho.2 g hg)
theorem MDone.setq {lo hi G n q j : Nat} {w : World} {ps : List SV} {ls : List Nat} (h : MDone lo hi w G ps ls q) (hM : MRow lo hi w G n ps ls) (hq : q ≤ n) (u : Value) : MDone lo hi (w.setCell ⟨G, q * 4 + j, none⟩ u) G ps ls q := by
  refine h.keep hq hM (fun a ha => World.cell?_setCell_other _ _ _ _ (fun c => by injection c with _ c _; omega)) fun i hi hp g hg => ?_
  exact heap_setCell_other w ⟨G, q * 4 + j, none⟩ g _ (fun e => hM.far i hp (by rw [hg]; exact congrArg some e))
theorem MDone.next {lo hi G q : Nat} {w : World} {ps : List SV} {ls : List Nat} (h : MDone lo hi w G ps ls q) (hp : q < ps.length) (hl : q < ls.length) (a : w.cell? ⟨G, q * 4, none⟩ = some (.int .i64 ((kOf ls q : Nat) : Int))) (b : w.cell? ⟨G, q * 4 + 1, none⟩ = some (.string (mt (kOf ls q + 1)))) (c : w.cell? ⟨G, q * 4 + 3, none⟩ = some (.bool (blkB (kOf ls q + 2 + ls[q])))) (d : Own intF 3 lo hi w ps[q].v (intMarks (kOf ls q + 2) ls[q])) : MDone lo hi w G ps ls (q + 1) := by
  intro j hj hp' hl'
  by_cases e : j = q
  · subst e; exact ⟨a, b, c, d⟩
  · exact h j (by omega) hp' hl'
set_option maxHeartbeats 4000000 in
set_option maxRecDepth 100000 in
theorem markNodeS_exact (G n c lo hi : Nat) (ps : List SV) (ls : List Nat) (w : World) (h : MRow lo hi w G n ps ls) (hh : hi ≤ w.heap.size) (hn : n ≤ 1048576) (hs : ls.sum ≤ 1048576) (hl : ∀ i (h : i < ls.length), ls[i] ≤ 1048576) :
    Calls Tryz.prog 12 #[.slice (some ⟨G, 0, none⟩) n c, .int .i64 1] w fun e w' => e = .returned (.int .i64 ((kOf ls n : Nat) : Int)) ∧ Out lo hi w w' ∧ MRow lo hi w' G n ps ls ∧ MDone lo hi w' G ps ls n := by
  go_enter Tryz.func12, Tryz.ntmps12
  go_wp2
  go_loopw [1, 5] (fun z i wr => ∃ (q k : Nat), q ≤ n ∧ i = .int .i64 q ∧ z = .int .i64 k ∧ 1 ≤ k ∧ k ≤ 1 + 3 * q + (ls.take q).sum ∧ Out lo hi w wr ∧ MRow lo hi wr G n ps ls ∧ Hid (k = kOf ls q) ∧ MDone lo hi wr G ps ls q) (fun _ i _ => n - (intOf i).toNat)
  case atStart => exact ⟨0, 1, Nat.zero_le _, rfl, rfl, Nat.le_refl _, by simp, Out.refl _ _ _, h, (by show _ = _; simp [kOf]), fun j hj => absurd hj (Nat.not_lt_zero _)⟩
  case round =>
    obtain ⟨q, k, hq, rfl, rfl, hk1, hk2, ho, hM, hKQ, hD⟩ := hrel
    have hsz := ho.size
    by_cases hlt : q < n
    · have hqi : (q : Int) < (n : Int) := by omega
      have hqz : (0 : Int) ≤ (q : Int) := by omega
      have hsl := sum_len_le ls q
      have hsl1 := sum_len_le ls (q + 1)
      have hql : q < ls.length := by rw [hM.lens]; exact hlt
      have hqp : q < ps.length := by rw [hM.len]; exact hlt
      have HSS := Lib.hid (sum_len_succ ls q hql)
      have hlq := hl q hql
      obtain ⟨u0, c0⟩ := hM.cell q 0 hlt (by decide)
      rw [Nat.add_zero] at c0
      have f0 := hM.frz (q * 4)
      have f1 := hM.frz (q * 4 + 1)
      have f3 := hM.frz (q * 4 + 3)
      have hM1 := hM.set hlt (j := 0) (by decide) (by decide) (.int .i64 (k : Int))
      have ho1 := ho.setCell (p := ⟨G, q * 4 + 0, none⟩) hM.low hM.high (.int .i64 (k : Int))
      have hD1 := hD.setq (j := 0) hM hq (.int .i64 (k : Int))
      have x0 : (wr.setCell ⟨G, q * 4, none⟩ (.int .i64 (k : Int))).cell? ⟨G, q * 4, none⟩ = some (.int .i64 (k : Int)) := World.cell?_setCell_same (w := _) (a := _) (v := _) c0
      rw [Nat.add_zero] at hM1 ho1 hD1
      go_wp2_with fail
      generalize hw1 : wr.setCell ⟨G, q * 4, none⟩ (.int .i64 (k : Int)) = w1 at *
      have hs1 : w1.heap.size = wr.heap.size := by rw [← hw1]; simp [World.setCell]
      clear hw1
      refine (markText_z ((k : Int) + 1) (k + 1) (by omega) _ (by omega) (by omega)).mono ?_
      rintro e w2 ⟨rfl, hb2⟩
      have hs2 := hb2.size
      have hM2 := hM1.same (.of_below hb2 (by omega))
      have ho2 : Out lo hi w w2 := ho1.trans (Out.of_below hb2)
      have hD2 := hD1.same hM1 hq (.of_below hb2 (by omega))
      have hGl := hM1.high
      replace x0 := (hb2.cell (p := ⟨G, q * 4, none⟩) (by show G < _; omega)).trans x0
      obtain ⟨u1, c1⟩ := hM2.cell q 1 hlt (by decide)
      have g1 := hM2.frz (q * 4 + 1)
      have hM3 := hM2.set hlt (j := 1) (by decide) (by decide) (.string (mt (k + 1)))
      have ho3 := ho2.setCell (p := ⟨G, q * 4 + 1, none⟩) hM2.low hM2.high (.string (mt (k + 1)))
      have hD3 := hD2.setq (j := 1) hM2 hq (.string (mt (k + 1)))
      replace x0 := (World.cell?_setCell_other _ _ _ (.string (mt (k + 1))) (fun c => by injection c with _ c _; omega : (⟨G, q * 4 + 1, none⟩ : Addr) ≠ ⟨G, q * 4, none⟩)).trans x0
      have x1 : (w2.setCell ⟨G, q * 4 + 1, none⟩ (.string (mt (k + 1)))).cell? ⟨G, q * 4 + 1, none⟩ = some (.string (mt (k + 1))) := World.cell?_setCell_same (w := _) (a := _) (v := _) c1
      have sl3 := hM3.sl q hqp
      obtain ⟨ys, hy, hyl⟩ := hM3.inner q hqp hql
      clear c0 f0 f1 f3 hM hM1 hM2 ho ho1 ho2 hD hD1 hD2
      obtain ⟨sa, sn, sc, hsv⟩ : ∃ sa sn sc, ps[q].v = .slice sa sn sc := ⟨_, _, _, rfl⟩
      rw [hsv] at sl3 hy
      go_wp2_with fail
      generalize hw3 : w2.setCell ⟨G, q * 4 + 1, none⟩ (.string (mt (k + 1))) = w3 at *
      have hs3 : w3.heap.size = w2.heap.size := by rw [← hw3]; simp [World.setCell]
      clear hw3
      have fin : ∀ (w4 : World) (lo2 hi2 : Nat) (zs : List Int), Out lo2 hi2 w3 w4 → lo ≤ lo2 → hi2 ≤ hi → (∀ g, lo2 ≤ g → g < hi2 → ps[q].v.ownBlock = some g) → Own intF 3 lo hi w4 (.slice sa sn sc) zs → zs.length = ys.length → MRow lo hi w4 G n ps ls ∧ Out lo hi w w4 ∧ w4.heap[G]? = w3.heap[G]? ∧ MDone lo hi w4 G ps ls q := by
        intro w4 lo2 hi2 zs h4 hl2 hh2 hg2 hz hzl
        have hG4 : w4.heap[G]? = w3.heap[G]? := h4.block G (by have := hM3.high; omega) (fun c => hM3.far q hqp (hg2 G c.1 c.2))
        refine ⟨hM3.mark hqp hql (by omega) h4 hg2 (by rw [hsv]; exact hz) (by omega), ho3.trans ⟨h4.os, h4.tape, h4.output, h4.size, fun b hb hn => h4.block b hb (fun c => hn ⟨by omega, by omega⟩)⟩, hG4, hD3.keep hq hM3 (fun a ha => World.cell?_of_block hG4) (fun j hj hjp g hg => h4.block g (by have := hM3.in_hi hj hjp hg; omega) (fun c => hM3.apart j q hjp hqp (by omega) g hg (hg2 g c.1 c.2)))⟩
      have FIN := Lib.hid fin
      clear fin
      have key : Calls Tryz.prog 37 #[.slice sa sn sc, .int .i64 ((k : Int) + 1 + 1)] w3 fun e w4 => e = .returned (.int .i64 ((k + 2 + 1 * ys.length : Nat) : Int)) ∧ (MRow lo hi w4 G n ps ls ∧ Out lo hi w w4 ∧ w4.heap[G]? = w3.heap[G]? ∧ MDone lo hi w4 G ps ls q) ∧ Own intF 3 lo hi w4 (.slice sa sn sc) (intMarks (k + 2) ys.length) := by
        rcases hy.shapes with ⟨e1, e2⟩ | ⟨g, cc, e1, g1', g2', _, _⟩
        · injection e1 with e1 e3 e4
          subst e1; subst e3; subst e4; subst e2
          refine (markIntS_z (xs := []) (lo := lo) (hi := lo) (k + 2) (by omega) (Own.nil _ _ _ _ _) (by have := hM3.low; have := hM3.high; omega) (by simp) (by omega) (by omega)).mono ?_
          rintro e w4 ⟨rfl, h4, _⟩
          exact ⟨rfl, FIN.out w4 lo lo [] h4 (Nat.le_refl _) (by have := hM3.low; have := hM3.high; omega) (fun g h1 h2 => by omega) (Own.nil _ _ _ _ _) rfl, Own.nil _ _ _ _ _⟩
        · have hgo : ps[q].v.ownBlock = some g := by rw [hsv, e1]; rfl
          have hy1 : Own intF 3 g (g + 1) w3 (.slice sa sn sc) ys := by
            refine ⟨⟨hy.1.1, ?_⟩, fun g' hg' => by rw [← hsv, hgo] at hg'; injection hg' with hg'; omega⟩
            rcases hy.1.2 with hn0 | ⟨g', cap, cur, e3, hb3, rest⟩
            · exact .inl hn0
            · have : g = g' := by rw [← hsv] at e3; rw [e3] at hgo; exact (Option.some.inj hgo).symm
              subst this
              exact .inr ⟨g, cap, cur, e3, Nat.le_refl _, rest⟩
          refine (markIntS_z (k + 2) (by omega) hy1 (by omega) (by omega) (by omega) (by omega)).mono ?_
          rintro e w4 ⟨rfl, h4, hz⟩
          exact ⟨rfl, FIN.out w4 g (g + 1) _ h4 g1' (by omega) (fun g' h1 h2 => by rw [hgo, show g' = g by omega]) (hz.wide g1' (by omega)) (intMarks_len _ _), hz.wide g1' (by omega)⟩
      refine key.mono ?_
      rintro e w4 ⟨rfl, ⟨hM4, ho4, hG4, hD4⟩, hIn⟩
      replace x0 := (World.cell?_of_block hG4).trans x0
      replace x1 := (World.cell?_of_block hG4).trans x1
      clear key sl3 hy
      obtain ⟨u3, c3⟩ := hM4.cell q 3 hlt (by decide)
      have g3 := hM4.frz (q * 4 + 3)
      have hM5 := fun u => hM4.set hlt (j := 3) (by decide) (by decide) u
      have ho5 := fun u => ho4.setCell (p := ⟨G, q * 4 + 3, none⟩) hM4.low hM4.high u
      have hD5 : ∀ u, u = Value.bool (blkB (k + 2 + ys.length)) → MDone lo hi (w4.setCell ⟨G, q * 4 + 3, none⟩ u) G ps ls (q + 1) := by
        intro u hu
        subst hu
        refine MDone.next (hD4.setq (j := 3) hM4 hq _) hqp hql ?_ ?_ ?_ ?_
        · rw [← hKQ.out]; exact (World.cell?_setCell_other _ _ _ _ (fun c => by injection c with _ c _; omega)).trans x0
        · rw [← hKQ.out]; exact (World.cell?_setCell_other _ _ _ _ (fun c => by injection c with _ c _; omega)).trans x1
        · rw [← hKQ.out, ← hyl]; exact World.cell?_setCell_same (w := _) (a := _) (v := _) c3
        · rw [← hKQ.out, ← hyl, hsv]; exact hIn.keepFar (by rw [← hsv]; exact hM4.far q hqp) _ _
      have HD5 := Lib.hid hD5
      have HYL := Lib.hid hyl
      clear hD5 x0 x1 hD4 hIn hD3 hG4
      have hkb : k + 2 + 1 * ys.length ≤ 8388608 := by omega
      go_wp2
      go_roundw
      case rel => exact ⟨q + 1, k + 3 + ys.length, by omega, by go_num, int_eq (by omega), by omega, by have := HSS.out; omega, ho5 _, hM5 _, (by have h1 := hKQ.out; have h2 := HSS.out; have h3 := HYL.out; show _ = _; unfold kOf at h1 ⊢; omega), HD5.out _ (by first | rfl | simp [blkB, HYL.out])⟩
      case measure => simp [intOf]; omega
    · have hqi : ¬ (q : Int) < (n : Int) := by omega
      go_wp2
      go_ret
      obtain rfl : q = n := by omega
      exact ⟨by rw [← hKQ.out]; rfl, ho, hM, hD⟩
set_option maxHeartbeats 4000000 in
set_option maxRecDepth 100000 in
theorem heldNodeS_row (G n c lo hi : Nat) (ps : List SV) (ls : List Nat) (w : World) (hM : MRow lo hi w G n ps ls) (hD : MDone lo hi w G ps ls n) (hh : hi ≤ w.heap.size) (hn : n ≤ 1048576) (hs : ls.sum ≤ 1048576) (hl : ∀ i (h : i < ls.length), ls[i] ≤ 1048576) :
    Calls Tryz.prog 13 #[.slice (some ⟨G, 0, none⟩) n c, .int .i64 1] w fun e w' => e = .returned (.int .i64 ((kOf ls n : Nat) : Int)) ∧ Below w.heap.size w w' := by
  have HMM := Lib.hid (fun (w4 : World) (h4 : Below w.heap.size w w4) => hM.same (.of_below h4 hh))
  have HDD := Lib.hid (fun (w4 : World) (h4 : Below w.heap.size w w4) => hD.same hM (Nat.le_refl _) (.of_below h4 hh))
  have HPL := Lib.hid hM.len
  have HLL := Lib.hid hM.lens
  have hGh := hM.high
  clear hM hD
  go_enter Tryz.func13, Tryz.ntmps13
  go_wp2
  go_loopw [1, 5] (fun z i wr => ∃ (q k : Nat), q ≤ n ∧ i = .int .i64 q ∧ z = .int .i64 k ∧ 1 ≤ k ∧ k ≤ 1 + 3 * q + (ls.take q).sum ∧ Hid (k = kOf ls q) ∧ Below w.heap.size w wr) (fun _ i _ => n - (intOf i).toNat)
  case atStart => exact ⟨0, 1, Nat.zero_le _, rfl, rfl, Nat.le_refl _, by simp, (by show _ = _; simp [kOf]), Below.refl _ _⟩
  case round =>
    obtain ⟨q, k, hq, rfl, rfl, hk1, hk2, hKQ, hb⟩ := hrel
    have hsz := hb.size
    by_cases hlt : q < n
    · have hqi : (q : Int) < (n : Int) := by omega
      have hqz : (0 : Int) ≤ (q : Int) := by omega
      have hsl := sum_len_le ls q
      have hsl1 := sum_len_le ls (q + 1)
      have hql : q < ls.length := by rw [HLL.out]; exact hlt
      have hqp : q < ps.length := by rw [HPL.out]; exact hlt
      have HSS := Lib.hid (sum_len_succ ls q hql)
      have hlq := hl q hql
      obtain ⟨d0, d1, -, -⟩ := HDD.out wr hb q hlt hqp hql
      rw [← hKQ.out] at d0 d1
      obtain ⟨sa, sn, sc, hsv⟩ : ∃ sa sn sc, ps[q].v = .slice sa sn sc := ⟨_, _, _, rfl⟩
      go_wp2_with fail
      go_region_held3 (fun w' => w'.cell? ⟨G, q * 4 + 1, none⟩ = some (.string (mt (k + 1))) ∧ Below w.heap.size w w')
        (first | exact ⟨d1, hb⟩ | exact ⟨d1, hb.drew⟩ | exact keep1 (by assumption) hb' | go_keep)
        ((go_at_call 36; refine (markText_z _ (k + 1) (by omega) _ (by omega) (by omega)).mono ?_; rintro e w' ⟨rfl, hb'⟩))
      clear d0 d1
      rename_i hG1
      have hb2 := hG1.2
      clear hG1
      generalize w' = w2 at *
      have hs2 := hb2.size
      have hD2 := HDD.out w2 hb2 q hlt hqp hql
      have sl2 := (HMM.out w2 hb2).sl q hqp
      obtain ⟨-, -, -, hI⟩ := hD2
      rw [hsv] at sl2 hI
      rw [← hKQ.out] at hI
      go_wp2_with fail
      refine (heldIntS_z (k + 2) ls[q] (by omega) hI.rd (by omega) (by omega) (by omega) (by omega)).mono ?_
      rintro e w5 ⟨rfl, hb5⟩
      have hb6 := hb2.trans (hb5.mono hs2)
      obtain ⟨-, -, d3, -⟩ := HDD.out w5 hb6 q hlt hqp hql
      rw [← hKQ.out] at d3
      unfold blkB at d3
      clear hI sl2 hb5 hb2 hb
      generalize ls[q] = lq at *
      go_wp2
      go_roundw
      case rel => exact ⟨q + 1, k + 3 + lq, by omega, by go_num, int_eq (by omega), by omega, by have := HSS.out; omega, (by have h1 := hKQ.out; have h2 := HSS.out; show _ = _; unfold kOf at h1 ⊢; omega), hb6⟩
      case measure => simp [intOf]; omega
    · have hqi : ¬ (q : Int) < (n : Int) := by omega
      go_wp2
      go_ret
      obtain rfl : q = n := by omega
      exact ⟨by rw [← hKQ.out]; rfl, hb⟩
/-- a slice of nodes that bears the law's marks, from 1 to z -/
def NMarked (lo hi : Nat) (w : World) (v : Value) (z : Nat) : Prop := (∃ a c, v = .slice a 0 c ∧ z = 1) ∨ ∃ G n c ps ls, v = .slice (some ⟨G, 0, none⟩) n c ∧ MRow lo hi w G n ps ls ∧ MDone lo hi w G ps ls n ∧ z = kOf ls n ∧ n ≤ 1048576 ∧ ls.sum ≤ 1048576 ∧ ∀ i (h : i < ls.length), ls[i] ≤ 1048576
theorem NMarked.same {lo hi z : Nat} {w w' : World} {v : Value} (h : NMarked lo hi w v z) (hs : Same lo hi w w') : NMarked lo hi w' v z := by
  rcases h with h | ⟨G, n, c, ps, ls, h1, h2, h3, h4⟩
  · exact .inl h
  · exact .inr ⟨G, n, c, ps, ls, h1, h2.same hs, h3.same h2 (Nat.le_refl _) hs, h4⟩
theorem sum_le_one : ∀ (ls : List Nat) i (h : i < ls.length), ls[i] ≤ ls.sum
  | _ :: ls, 0, _ => by simp
  | x :: ls, i + 1, h => by
    have := sum_le_one ls i (by simpa using h)
    simp only [List.getElem_cons_succ, List.sum_cons]
    omega
set_option maxHeartbeats 1000000 in
set_option maxRecDepth 100000 in
theorem markNodeS_ex {xs : List Node} {v : Value} {lo hi : Nat} {w : World} (h : NOwn lo hi w v xs) (hh : hi ≤ w.heap.size) (hn : xs.length ≤ 1048576) (hk : (xs.map fun x => x.kids.length).sum ≤ 1048576) :
    Calls Tryz.prog 12 #[v, .int .i64 1] w fun e w' => ∃ z : Nat, e = .returned (.int .i64 z) ∧ Out lo hi w w' ∧ NMarked lo hi w' v z := by
  by_cases hp : 0 < xs.length
  · obtain ⟨G, c, ps, rfl, _, _, hM⟩ := MRow.of h hp
    have hl : ∀ i (h : i < (xs.map fun x => x.kids.length).length), (xs.map fun x => x.kids.length)[i] ≤ 1048576 := fun i hi => Nat.le_trans (sum_le_one _ i hi) hk
    refine (markNodeS_exact G xs.length c lo hi ps _ w hM hh hn hk hl).mono ?_
    rintro e w' ⟨rfl, ho, hM', hD'⟩
    exact ⟨_, rfl, ho, .inr ⟨G, _, c, ps, _, rfl, hM', hD', rfl, hn, hk, hl⟩⟩
  · obtain ⟨a, c, rfl, _⟩ := h.rd
    have hz : xs.length = 0 := by omega
    rw [hz]
    go_enter Tryz.func12, Tryz.ntmps12
    go_wp2
    go_loopw [1, 5] (fun z i wr => z = .int .i64 1 ∧ i = .int .i64 0 ∧ w = wr) (fun _ _ _ => 0)
    case atStart => exact ⟨rfl, rfl, rfl⟩
    case round =>
      obtain ⟨rfl, rfl, rfl⟩ := hrel
      go_wp2
      go_ret
      exact ⟨1, rfl, Out.refl _ _ _, .inl ⟨a, c, rfl, rfl⟩⟩
set_option maxHeartbeats 1000000 in
set_option maxRecDepth 100000 in
theorem heldNodeS_ex {v : Value} {lo hi z : Nat} {w : World} (h : NMarked lo hi w v z) (hh : hi ≤ w.heap.size) :
    Calls Tryz.prog 13 #[v, .int .i64 1] w fun e w' => e = .returned (.int .i64 z) ∧ Below w.heap.size w w' := by
  rcases h with ⟨a, c, rfl, rfl⟩ | ⟨G, n, c, ps, ls, rfl, hM, hD, rfl, hn, hs, hl⟩
  · go_enter Tryz.func13, Tryz.ntmps13
    go_wp2
    go_loopw [1, 5] (fun z i wr => z = .int .i64 1 ∧ i = .int .i64 0 ∧ w = wr) (fun _ _ _ => 0)
    case atStart => exact ⟨rfl, rfl, rfl⟩
    case round =>
      obtain ⟨rfl, rfl, rfl⟩ := hrel
      go_wp2
      go_ret
      exact ⟨rfl, Below.refl _ _⟩
  · exact heldNodeS_row G n c lo hi ps ls w hM hD hh hn hs hl
end Go.Proofs.YtoloplpmjcgbdaaGreatDoor
namespace Go.Proofs.YtoloplpmjcgbdaaGreatDoor
open Go.RowKit

section
variable {xs : List Node} {k : Int} {frm to : ByteArray}
theorem renOk_1 (h : (membersL xs).contains k = false) : renOk xs k frm to = false := by unfold renOk; rw [h]; rfl
theorem renOk_2 (h : ((nd xs k).kind == 21) = true) : renOk xs k frm to = false := by unfold renOk; rw [h]; simp
theorem renOk_3 (h : (countN xs k frm == 0) = true) : renOk xs k frm to = false := by unfold renOk; rw [h]; simp
theorem renOk_4 (h : isNm to = false) : renOk xs k frm to = false := by unfold renOk; rw [h]; simp
theorem renOk_5 (h : (countN xs k to == 0) = false) : renOk xs k frm to = false := by unfold renOk; rw [h]; simp
theorem renOk_yes (h1 : (membersL xs).contains k = true) (h2 : ((nd xs k).kind == 21) = false) (h3 : (countN xs k frm == 0) = false) (h4 : isNm to = true) (h5 : (countN xs k to == 0) = true) : renOk xs k frm to = true := by unfold renOk; rw [h1, h2, h3, h4, h5]; rfl
theorem renamed_no (h : renOk xs k frm to = false) : renamedL xs k frm to = xs := by unfold renamedL; rw [h]; rfl
theorem renamed_yes (h : renOk xs k frm to = true) : renamedL xs k frm to = renL xs (underL xs k) frm to := by unfold renamedL; rw [h]; rfl
end
theorem renI_no {frm to : ByteArray} {ys : List Node} {i : Int} (h : hasNm (nd ys i) frm = false) : renI frm to ys i = ys := by unfold renI; rw [h]; rfl
theorem renI_yes {frm to : ByteArray} {ys : List Node} {i : Int} (h : hasNm (nd ys i) frm = true) : renI frm to ys i = ys.set i.toNat ((nd ys i).put to) := by unfold renI; rw [h]; rfl
theorem renS_no {xs : List Node} {frm to : ByteArray} {ys : List Node} {i : Int} (h : hasNm (nd xs i) frm = false) : renS xs frm to ys i = ys := by unfold renS; rw [h]; rfl
theorem renS_yes {xs : List Node} {frm to : ByteArray} {ys : List Node} {i : Int} (h : hasNm (nd xs i) frm = true) : renS xs frm to ys i = ys.set i.toNat ((nd ys i).put to) := by unfold renS; rw [h]; rfl
/-- a text put for another -/
theorem FOwn.putText {T TI lo hi G n c y : Nat} {w : World} {ps : List (Node × SV)} (h : FOwn nodeF Node.kids T TI lo hi w (.slice (some ⟨G, 0, none⟩) n c) ps) (hT : T ≠ TI) (hn : n = ps.length) (hy : y < ps.length) (t : ByteArray) : FOwn nodeF Node.kids T TI lo hi (w.setCell ⟨G, y * 4 + 1, none⟩ (.string t)) (.slice (some ⟨G, 0, none⟩) n c) (ps.set y (ps[y].1.put t, ps[y].2)) := by
  have hsl : ∀ i (hi1 : i < ps.length) (hi2 : i < (ps.set y (ps[y].1.put t, ps[y].2)).length), (ps.set y (ps[y].1.put t, ps[y].2))[i].2 = ps[i].2 ∧ (ps.set y (ps[y].1.put t, ps[y].2))[i].1.kids = ps[i].1.kids := by
    intro i hi1 hi2
    by_cases e : y = i
    · subst e; rw [List.getElem_set_self]; exact ⟨rfl, rfl⟩
    · rw [List.getElem_set_ne e]; exact ⟨rfl, rfl⟩
  refine ⟨h.outer.set (k := y) (j := 1) (u := .string t) (x := (ps[y].1.put t, ps[y].2)) hn hy (by decide) rfl, fun i hi1 => ?_, fun i j hi1 hj1 hne g hg => ?_⟩
  · have hi2 : i < ps.length := by simpa using hi1
    obtain ⟨e1, e2⟩ := hsl i hi2 hi1
    rw [e1, e2]
    exact (h.inner i hi2).keepFar (own_ne h.outer (h.inner i hi2) hT rfl) _ _
  · have hi2 : i < ps.length := by simpa using hi1
    have hj2 : j < ps.length := by simpa using hj1
    rw [(hsl i hi2 hi1).1] at hg
    rw [(hsl j hj2 hj1).1]
    exact h.apart i j hi2 hj2 hne g hg
set_option maxHeartbeats 4000000 in
set_option maxRecDepth 100000 in
theorem renamed_impl (xs : List Node) (v : Value) (lo hi : Nat) (k : Int) (frm to : ByteArray) (w : World) (hr : Rd nodeS lo hi w v xs) (hh : hi ≤ w.heap.size) (hs : ∀ x ∈ xs, x.text.size ≤ 4611686018427387904) (hl : xs.length ≤ 1048576) (hlk : ∀ x ∈ xs, x.kids.length ≤ 1048576) (hts : to.size ≤ 4611686018427387904) :
    Calls Tryz.prog 11 #[v, .int .i64 k, .string frm, .string to] w fun e w' => ∃ u, e = .returned (.tuple #[u, .bool (renOk xs k frm to)]) ∧ Below w.heap.size w w' ∧ NOwn w.heap.size w'.heap.size w' u (renamedL xs k frm to) := by
  have HR := Lib.hid (fun w4 (h4 : Below w.heap.size w w4) => hr.below h4 hh)
  obtain ⟨ok, hok⟩ : ∃ b, Hid (renOk xs k frm to = b) := ⟨_, rfl⟩
  obtain ⟨rl, hrl⟩ : ∃ b, Hid (renamedL xs k frm to = b) := ⟨_, rfl⟩
  rw [hok.out, hrl.out]
  go_enter Tryz.func11, Tryz.ntmps11
  go_wp2_with fail
  refine (copyNodes_impl xs v lo hi w hr hh hl hlk).mono ?_
  rintro e w1 ⟨u, rfl, hb1, hU⟩
  have hs1 := hb1.size
  go_wp2_with fail
  refine (membersIn_impl xs v lo hi w1 (HR.out w1 hb1) (by omega) hs hl).mono ?_
  rintro e w2 ⟨mu, rfl, hb2, hM⟩
  have hs2 := hb2.size
  go_wp2_with fail
  refine (containsI_any k hM.rd).mono ?_
  rintro e w3 ⟨rfl, rfl⟩
  cases g1 : (membersL xs).contains k with
  | false =>
    obtain rfl : false = ok := (renOk_1 g1).symm.trans hok.out
    obtain rfl : xs = rl := (renamed_no (renOk_1 g1)).symm.trans hrl.out
    clear hok hrl
    go_wp2
    refine bodyPost_ret (v := .tuple #[u, .bool false]) (by simp [results, Tryz.results11, go_sem]) rfl ?_
    exact ⟨u, rfl, hb1.trans (hb2.mono hb1.size), (hU.below hb2 (Nat.le_refl _)).wide (Nat.le_refl _) hb2.size⟩
  | true =>
  have hkm := membersL_mem (List.contains_iff_mem.1 g1)
  obtain ⟨y, rfl⟩ := Int.eq_ofNat_of_zero_le hkm.1
  have hyl : y < xs.length := by omega
  have hyi : (y : Int) < (xs.length : Int) := by omega
  have hyz : (0 : Int) ≤ (y : Int) := by omega
  obtain ⟨a, c, rfl⟩ := hr.sl
  have hrw := HR.out w3 (hb1.trans (hb2.mono hs1))
  obtain ⟨b, off, ya, yc, eb, _, _, q0, q1, q2, q3, _⟩ := rd_nodeAt hrw hyl
  subst eb
  have HX : Hid (nd xs (y : Int) = xs[y]) := nd_at hyl
  have HKD : Hid (((nd xs (y : Int)).kind == 21) = (xs[y].kind == 21)) := by show _ = _; rw [HX.out]
  have G1 := Lib.hid g1
  clear g1 hkm
  generalize xs[y].kind = zk at *
  by_cases g2 : zk = 21
  · have hk2 : Hid (((nd xs (y : Int)).kind == 21) = true) := by show _ = _; rw [HKD.out, g2]; rfl
    subst g2
    obtain rfl : false = ok := (renOk_2 hk2.out).symm.trans hok.out
    obtain rfl : xs = rl := (renamed_no (renOk_2 hk2.out)).symm.trans hrl.out
    clear hok hrl
    go_wp2
    refine bodyPost_ret (v := .tuple #[u, .bool false]) (by simp [results, Tryz.results11, go_sem]) rfl ?_
    exact ⟨u, rfl, hb1.trans (hb2.mono hb1.size), (hU.below hb2 (Nat.le_refl _)).wide (Nat.le_refl _) hb2.size⟩
  have g2b : (zk == 21) = false := beq_eq_false_iff_ne.2 g2
  have hk2 : Hid (((nd xs (y : Int)).kind == 21) = false) := by show _ = _; rw [HKD.out]; exact g2b
  clear HKD HX q1 q2 q3 g2
  go_wp2_with fail
  refine (countName_impl xs _ lo hi (y : Int) frm w3 hrw (by omega) hs hl).mono ?_
  rintro e w4 ⟨rfl, hb3⟩
  have hb4 := hb2.trans (hb3.mono hs2)
  clear q0
  obtain ⟨n1, hn1⟩ : ∃ n, Hid (countN xs (y : Int) frm = n) := ⟨_, rfl⟩
  rw [hn1.out]
  by_cases g3 : n1 = 0
  · have hk3 : Hid ((countN xs (y : Int) frm == 0) = true) := by show _ = _; rw [hn1.out, g3]; rfl
    subst g3
    obtain rfl : false = ok := (renOk_3 hk3.out).symm.trans hok.out
    obtain rfl : xs = rl := (renamed_no (renOk_3 hk3.out)).symm.trans hrl.out
    clear hok hrl
    go_wp2
    refine bodyPost_ret (v := .tuple #[u, .bool false]) (by simp [results, Tryz.results11, go_sem]) rfl ?_
    exact ⟨u, rfl, hb1.trans (hb4.mono hb1.size), (hU.below hb4 (Nat.le_refl _)).wide (Nat.le_refl _) hb4.size⟩
  have g3b : (n1 == 0) = false := beq_eq_false_iff_ne.2 g3
  have hk3 : Hid ((countN xs (y : Int) frm == 0) = false) := by show _ = _; rw [hn1.out]; exact g3b
  clear g3
  go_wp2_with fail
  refine (isName_any to w4 hts).mono ?_
  rintro e w5 ⟨rfl, k5⟩
  have hb45 := hb4.trans (k5.mono hb4.size)
  have hs4 := hb45.size
  cases g4 : isNm to with
  | false =>
    obtain rfl : false = ok := (renOk_4 g4).symm.trans hok.out
    obtain rfl : xs = rl := (renamed_no (renOk_4 g4)).symm.trans hrl.out
    clear hok hrl
    go_wp2
    refine bodyPost_ret (v := .tuple #[u, .bool false]) (by simp [results, Tryz.results11, go_sem]) rfl ?_
    exact ⟨u, rfl, hb1.trans (hb45.mono hb1.size), (hU.below hb45 (Nat.le_refl _)).wide (Nat.le_refl _) hb45.size⟩
  | true =>
  have hk4 := Lib.hid g4
  clear g4
  go_wp2_with fail
  refine (countName_impl xs _ lo hi (y : Int) to w5 (HR.out w5 (hb1.trans (hb45.mono hs1))) (by omega) hs hl).mono ?_
  rintro e w6 ⟨rfl, hb6⟩
  have hb7 := hb45.trans (hb6.mono hs4)
  have hs7 := hb7.size
  obtain ⟨n2, hn2⟩ : ∃ n, Hid (countN xs (y : Int) to = n) := ⟨_, rfl⟩
  have hnn : 0 ≤ n2 := by rw [← hn2.out]; exact Int.natCast_nonneg _
  rw [hn2.out]
  by_cases g5 : n2 = 0
  rotate_left
  · have hk5 : Hid ((countN xs (y : Int) to == 0) = false) := by show _ = _; rw [hn2.out]; exact beq_eq_false_iff_ne.2 g5
    have g5p : 0 < n2 := by omega
    have g5b : (n2 == 0) = false := beq_eq_false_iff_ne.2 g5
    have g5n : (n2 != 0) = true := by simp [g5]
    obtain rfl : false = ok := (renOk_5 hk5.out).symm.trans hok.out
    obtain rfl : xs = rl := (renamed_no (renOk_5 hk5.out)).symm.trans hrl.out
    clear hok hrl
    go_wp2
    refine bodyPost_ret (v := .tuple #[u, .bool false]) (by simp [results, Tryz.results11, go_sem]) rfl ?_
    exact ⟨u, rfl, hb1.trans (hb7.mono hb1.size), (hU.below hb7 (Nat.le_refl _)).wide (Nat.le_refl _) hb7.size⟩
  have hk5 : Hid ((countN xs (y : Int) to == 0) = true) := by show _ = _; rw [hn2.out, g5]; rfl
  have hOK : renOk xs (y : Int) frm to = true := renOk_yes G1.out hk2.out hk3.out hk4.out hk5.out
  obtain rfl : true = ok := hOK.symm.trans hok.out
  have hRL : Hid (renL xs (underL xs (y : Int)) frm to = rl) := (renamed_yes hOK).symm.trans hrl.out
  subst g5
  clear hok hrl hOK hk5 hk4 hk3 hk2 G1 hnn hn1 hn2
  go_wp2_with fail
  refine (underOf_impl xs _ lo hi (y : Int) w6 (HR.out w6 (hb1.trans (hb7.mono hs1))) (by omega) hs hl).mono ?_
  rintro e w7 ⟨uu, rfl, hb8, hUn⟩
  have hb9 := hb7.trans (hb8.mono hs7)
  have hs9 := hb9.size
  have hs8 := hb8.size
  obtain ⟨ps0, hF, hps⟩ := hU
  have hpl0 : ps0.length = xs.length := by rw [← hps, List.length_map]
  obtain ⟨ga, uc, rfl, -, -, hG⟩ := hF.outer.form
  obtain ⟨G, rfl, hG1, hG2⟩ := hG (by omega)
  rw [hpl0] at hF ⊢
  have hUr := hUn.rd
  obtain ⟨oa, oc, rfl⟩ := hUr.sl
  have HUN := Lib.hid (underL_nat (xs := xs) (k := (y : Int)))
  have HRO := Lib.hid (renTo_ok (frm := frm) (to := to) (underL_nat (xs := xs) (k := (y : Int))))
  have HNX := Lib.hid (fun t (h : t < (underL xs (y : Int)).length) => renTo_next (xs := xs) (frm := frm) (to := to) h)
  have HLE := Lib.hid (underL_le xs (y : Int))
  unfold renL at hRL
  generalize underL xs (y : Int) = us at *
  have hul : (us.length : Int) ≤ 9223372036854775807 := by have := HLE.out; omega
  have hF9 := hF.below hb9 (Nat.le_refl _)
  have hbW := hb1.trans (hb9.mono hs1)
  clear hF hb2 hb3 hb4 hb45 hb6 hb7 hM hUn hrw
  go_wp2
  go_loopw [51] (fun i wr => ∃ (t : Nat) (ps : List (Node × SV)), t ≤ us.length ∧ i = .int .i64 t ∧ Hid (ps.length = xs.length) ∧ Hid (ps.map (·.1) = (us.take t).foldl (renS xs frm to) xs) ∧ Below w.heap.size w wr ∧ w7.heap.size ≤ wr.heap.size ∧ FOwn nodeF Node.kids 38 3 w.heap.size w1.heap.size wr (.slice (some ⟨G, 0, none⟩) xs.length uc) ps ∧ Rd intS w6.heap.size w7.heap.size wr (.slice oa us.length oc) us) (fun i _ => us.length - (intOf i).toNat)
  case atStart => exact ⟨0, ps0, Nat.zero_le _, rfl, hpl0, hps, hbW, Nat.le_refl _, hF9, hUr⟩
  case round =>
    clear hF9 hUr hbW
    obtain ⟨t, ps, ht, rfl, hpl, hpm, hb, hsw, hF, hUr⟩ := hrel
    by_cases htl : t < us.length
    · obtain ⟨ub, uoff, rfl, _, _, uc0⟩ := hUr.intAt htl
      have hti : (t : Int) < (us.length : Int) := by omega
      have htz : (0 : Int) ≤ (t : Int) := by omega
      have hge : us.getD t 0 = us[t] := by rw [List.getD_eq_getElem?_getD, List.getElem?_eq_getElem htl]; rfl
      rw [hge] at uc0
      obtain ⟨j, hj, hjl⟩ := HUN.out _ (List.getElem_mem htl)
      have hji : (j : Int) < (xs.length : Int) := by omega
      have hjz : (0 : Int) ≤ (j : Int) := by omega
      have hjp : j < ps.length := by rw [hpl.out]; exact hjl
      have HN := HNX.out t htl
      rw [hj] at HN uc0
      rw [← hpm.out] at HN
      have hstep := ((HRO.out t).step (i := j) hjl).1
      rw [← hpm.out] at hstep
      have hnd : nd (ps.map (·.1)) (j : Int) = ps[j].1 := by rw [nd_at (by rw [List.length_map]; exact hjp), List.getElem_map]
      clear hge hj
      have d0 := (hF.outer.cell (k := j) (j := 0) hpl.out.symm hjp (by decide)).trans rfl
      have d1 := (hF.outer.cell (k := j) (j := 1) hpl.out.symm hjp (by decide)).trans rfl
      have d2 := (hF.outer.cell (k := j) (j := 2) hpl.out.symm hjp (by decide)).trans rfl
      have d3 := (hF.outer.cell (k := j) (j := 3) hpl.out.symm hjp (by decide)).trans rfl
      replace d0 : wr.cell? ⟨G, j * 4, none⟩ = some (.int .i64 ps[j].1.kind) := d0
      replace d1 : wr.cell? ⟨G, j * 4 + 1, none⟩ = some (.string ps[j].1.text) := d1
      replace d2 : wr.cell? ⟨G, j * 4 + 2, none⟩ = some ps[j].2.v := d2
      replace d3 : wr.cell? ⟨G, j * 4 + 3, none⟩ = some (.bool ps[j].1.blank) := d3
      have HPT := Lib.hid (fun (w4 : World) (h4 : FOwn nodeF Node.kids 38 3 w.heap.size w1.heap.size w4 (.slice (some ⟨G, 0, none⟩) xs.length uc) ps) => h4.putText (by decide) hpl.out.symm hjp to)
      have HMP : Hid ((ps.set j (ps[j].1.put to, ps[j].2)).map (·.1) = (ps.map (·.1)).set (j : Int).toNat ((nd (ps.map (·.1)) (j : Int)).put to)) := by
        show _ = _
        rw [hnd, Int.toNat_natCast, List.map_set]
      have HPL2 : Hid ((ps.set j (ps[j].1.put to, ps[j].2)).length = xs.length) := by show _ = _; rw [List.length_set]; exact hpl.out
      rw [← hstep] at HN
      have HNM : Hid (hasNm (nd (ps.map (·.1)) (j : Int)) frm = (isNamed ps[j].1.kind && (ps[j].1.text.toList == frm.toList))) := by show _ = _; rw [hnd]; rfl
      clear hstep hnd
      have hsz := hb.size
      go_wp2_with fail
      refine (hasName_any ps[j].1.kind ps[j].1.text _ ps[j].1.blank frm _).mono ?_
      rintro e w8 ⟨rfl, hb8'⟩
      have hbr8 := hb.trans (hb8'.mono hsz)
      have hsw8 : w7.heap.size ≤ w8.heap.size := Nat.le_trans hsw hb8'.size
      have hF8 := hF.below hb8' (by omega)
      have hU8 := hUr.below hb8' (by omega)
      clear d0 d1 d2 d3 hF hUr hb hb8'
      cases g : (isNamed ps[j].1.kind && (ps[j].1.text.toList == frm.toList)) with
      | false =>
        have HNF : Hid (hasNm (nd (ps.map (·.1)) (j : Int)) frm = false) := HNM.out.trans g
        go_wp2
        go_roundw
        case rel => exact ⟨t + 1, ps, by omega, by go_num, hpl, (by show _ = _; rw [HN, renI_no HNF.out]), hbr8, hsw8, hF8, hU8⟩
        case measure => simp [intOf]; omega
      | true =>
        have HNF : Hid (hasNm (nd (ps.map (·.1)) (j : Int)) frm = true) := HNM.out.trans g
        have f1 : w8.frozen? ⟨G, j * 4 + 1, none⟩ = false := hF8.outer.frozen hpl.out.symm _
        have e1 : w8.cell? ⟨G, j * 4 + 1, none⟩ = some (.string ps[j].1.text) := (hF8.outer.cell (k := j) (j := 1) hpl.out.symm hjp (by decide)).trans rfl
        have hFS := HPT.out w8 hF8
        have hBS : Below w.heap.size w (w8.setCell ⟨G, j * 4 + 1, none⟩ (.string to)) := hbr8.setCell (p := ⟨G, j * 4 + 1, none⟩) hG1 _
        have hzS : (w8.setCell ⟨G, j * 4 + 1, none⟩ (.string to)).heap.size = w8.heap.size := by simp [World.setCell]
        have hUS : Rd intS w6.heap.size w7.heap.size (w8.setCell ⟨G, j * 4 + 1, none⟩ (.string to)) (.slice (some ⟨ub, uoff, none⟩) us.length oc) us := hU8.far (p := ⟨G, j * 4 + 1, none⟩) (.inr (by show G < w6.heap.size; omega)) _
        have hzS2 : w7.heap.size ≤ (w8.setCell ⟨G, j * 4 + 1, none⟩ (.string to)).heap.size := by rw [hzS]; omega
        clear hzS
        go_wp2
        go_roundw
        case rel => exact ⟨t + 1, _, by omega, by go_num, HPL2.out, (by show _ = _; rw [HMP.out, HN, renI_yes HNF.out]), hBS, hzS2, hFS, hUS⟩
        case measure => simp [intOf]; omega
    · have hti : ¬ (t : Int) < (us.length : Int) := by omega
      have hfin : ps.map (·.1) = rl := by rw [← hRL.out, hpm.out, List.take_of_length_le (by omega)]
      go_wp2
      refine bodyPost_ret (v := .tuple #[.slice (some ⟨G, 0, none⟩) xs.length uc, .bool true]) (by simp [results, Tryz.results11, go_sem]) rfl ?_
      exact ⟨_, rfl, hb, ps, hF.wide (Nat.le_refl _) (by omega), hfin⟩
set_option maxHeartbeats 4000000 in
set_option maxRecDepth 100000 in
theorem renamed_spec (xs : List Node) (v : Value) (lo hi : Nat) (k : Int) (frm to : ByteArray) (w : World) (hr : Rd nodeS lo hi w v xs) (hh : hi ≤ w.heap.size) (hs : ∀ x ∈ xs, x.text.size ≤ 4611686018427387904) (hl : xs.length ≤ 1048576) (hlk : ∀ x ∈ xs, x.kids.length ≤ 1048576) (hts : to.size ≤ 4611686018427387904) :
    Calls Tryz.prog 10 #[v, .int .i64 k, .string frm, .string to] w fun e w' => ∃ u, e = .returned (.tuple #[u, .bool (renOk xs k frm to)]) ∧ Below w.heap.size w w' ∧ NOwn w.heap.size w'.heap.size w' u (renamedL xs k frm to) := by
  have HR := Lib.hid (fun w4 (h4 : Below w.heap.size w w4) => hr.below h4 hh)
  obtain ⟨ok, hok⟩ : ∃ b, Hid (renOk xs k frm to = b) := ⟨_, rfl⟩
  obtain ⟨rl, hrl⟩ : ∃ b, Hid (renamedL xs k frm to = b) := ⟨_, rfl⟩
  rw [hok.out, hrl.out]
  go_enter Tryz.func10, Tryz.ntmps10
  go_wp2_with fail
  refine (l05Copy_spec xs v lo hi w hr hh hl hlk).mono ?_
  rintro e w1 ⟨u, rfl, hb1, hU⟩
  have hs1 := hb1.size
  go_wp2_with fail
  refine (membersIn_spec xs v lo hi w1 (HR.out w1 hb1) (by omega) hs hl).mono ?_
  rintro e w2 ⟨mu, rfl, hb2, hM⟩
  have hs2 := hb2.size
  go_wp2_with fail
  refine (l22In_any k hM.rd).mono ?_
  rintro e w3 ⟨rfl, rfl⟩
  cases g1 : (membersL xs).contains k with
  | false =>
    obtain rfl : false = ok := (renOk_1 g1).symm.trans hok.out
    obtain rfl : xs = rl := (renamed_no (renOk_1 g1)).symm.trans hrl.out
    clear hok hrl
    go_wp2
    refine bodyPost_ret (v := .tuple #[u, .bool false]) (by simp [results, Tryz.results10, go_sem]) rfl ?_
    exact ⟨u, rfl, hb1.trans (hb2.mono hb1.size), (hU.below hb2 (Nat.le_refl _)).wide (Nat.le_refl _) hb2.size⟩
  | true =>
  have hkm := membersL_mem (List.contains_iff_mem.1 g1)
  obtain ⟨y, rfl⟩ := Int.eq_ofNat_of_zero_le hkm.1
  have hyl : y < xs.length := by omega
  have hyi : (y : Int) < (xs.length : Int) := by omega
  have hyz : (0 : Int) ≤ (y : Int) := by omega
  obtain ⟨a, c, rfl⟩ := hr.sl
  have hrw := HR.out w3 (hb1.trans (hb2.mono hs1))
  obtain ⟨b, off, ya, yc, eb, _, _, q0, q1, q2, q3, _⟩ := rd_nodeAt hrw hyl
  subst eb
  have HX : Hid (nd xs (y : Int) = xs[y]) := nd_at hyl
  have HKD : Hid (((nd xs (y : Int)).kind == 21) = (xs[y].kind == 21)) := by show _ = _; rw [HX.out]
  have G1 := Lib.hid g1
  clear g1 hkm
  generalize xs[y].kind = zk at *
  by_cases g2 : zk = 21
  · have hk2 : Hid (((nd xs (y : Int)).kind == 21) = true) := by show _ = _; rw [HKD.out, g2]; rfl
    subst g2
    obtain rfl : false = ok := (renOk_2 hk2.out).symm.trans hok.out
    obtain rfl : xs = rl := (renamed_no (renOk_2 hk2.out)).symm.trans hrl.out
    clear hok hrl
    go_wp2
    refine bodyPost_ret (v := .tuple #[u, .bool false]) (by simp [results, Tryz.results10, go_sem]) rfl ?_
    exact ⟨u, rfl, hb1.trans (hb2.mono hb1.size), (hU.below hb2 (Nat.le_refl _)).wide (Nat.le_refl _) hb2.size⟩
  have g2b : (zk == 21) = false := beq_eq_false_iff_ne.2 g2
  have hk2 : Hid (((nd xs (y : Int)).kind == 21) = false) := by show _ = _; rw [HKD.out]; exact g2b
  clear HKD HX q1 q2 q3 g2
  go_wp2_with fail
  refine (countName_spec xs _ lo hi (y : Int) frm w3 hrw (by omega) hs hl).mono ?_
  rintro e w4 ⟨rfl, hb3⟩
  have hb4 := hb2.trans (hb3.mono hs2)
  clear q0
  obtain ⟨n1, hn1⟩ : ∃ n, Hid (countN xs (y : Int) frm = n) := ⟨_, rfl⟩
  rw [hn1.out]
  by_cases g3 : n1 = 0
  · have hk3 : Hid ((countN xs (y : Int) frm == 0) = true) := by show _ = _; rw [hn1.out, g3]; rfl
    subst g3
    obtain rfl : false = ok := (renOk_3 hk3.out).symm.trans hok.out
    obtain rfl : xs = rl := (renamed_no (renOk_3 hk3.out)).symm.trans hrl.out
    clear hok hrl
    go_wp2
    refine bodyPost_ret (v := .tuple #[u, .bool false]) (by simp [results, Tryz.results10, go_sem]) rfl ?_
    exact ⟨u, rfl, hb1.trans (hb4.mono hb1.size), (hU.below hb4 (Nat.le_refl _)).wide (Nat.le_refl _) hb4.size⟩
  have g3b : (n1 == 0) = false := beq_eq_false_iff_ne.2 g3
  have hk3 : Hid ((countN xs (y : Int) frm == 0) = false) := by show _ = _; rw [hn1.out]; exact g3b
  clear g3
  go_wp2_with fail
  refine (l05Name_any to w4 hts).mono ?_
  rintro e w5 ⟨rfl, rfl⟩
  have hb45 := hb4
  have hs4 := hb45.size
  cases g4 : isNm to with
  | false =>
    obtain rfl : false = ok := (renOk_4 g4).symm.trans hok.out
    obtain rfl : xs = rl := (renamed_no (renOk_4 g4)).symm.trans hrl.out
    clear hok hrl
    go_wp2
    refine bodyPost_ret (v := .tuple #[u, .bool false]) (by simp [results, Tryz.results10, go_sem]) rfl ?_
    exact ⟨u, rfl, hb1.trans (hb45.mono hb1.size), (hU.below hb45 (Nat.le_refl _)).wide (Nat.le_refl _) hb45.size⟩
  | true =>
  have hk4 := Lib.hid g4
  clear g4
  go_wp2_with fail
  refine (countName_spec xs _ lo hi (y : Int) to w4 (HR.out w4 (hb1.trans (hb45.mono hs1))) (by omega) hs hl).mono ?_
  rintro e w6 ⟨rfl, hb6⟩
  have hb7 := hb45.trans (hb6.mono hs4)
  have hs7 := hb7.size
  obtain ⟨n2, hn2⟩ : ∃ n, Hid (countN xs (y : Int) to = n) := ⟨_, rfl⟩
  have hnn : 0 ≤ n2 := by rw [← hn2.out]; exact Int.natCast_nonneg _
  rw [hn2.out]
  by_cases g5 : n2 = 0
  rotate_left
  · have hk5 : Hid ((countN xs (y : Int) to == 0) = false) := by show _ = _; rw [hn2.out]; exact beq_eq_false_iff_ne.2 g5
    have g5p : 0 < n2 := by omega
    have g5b : (n2 == 0) = false := beq_eq_false_iff_ne.2 g5
    have g5n : (n2 != 0) = true := by simp [g5]
    obtain rfl : false = ok := (renOk_5 hk5.out).symm.trans hok.out
    obtain rfl : xs = rl := (renamed_no (renOk_5 hk5.out)).symm.trans hrl.out
    clear hok hrl
    go_wp2
    refine bodyPost_ret (v := .tuple #[u, .bool false]) (by simp [results, Tryz.results10, go_sem]) rfl ?_
    exact ⟨u, rfl, hb1.trans (hb7.mono hb1.size), (hU.below hb7 (Nat.le_refl _)).wide (Nat.le_refl _) hb7.size⟩
  have hk5 : Hid ((countN xs (y : Int) to == 0) = true) := by show _ = _; rw [hn2.out, g5]; rfl
  have hOK : renOk xs (y : Int) frm to = true := renOk_yes G1.out hk2.out hk3.out hk4.out hk5.out
  obtain rfl : true = ok := hOK.symm.trans hok.out
  have hRL : Hid (renL xs (underL xs (y : Int)) frm to = rl) := (renamed_yes hOK).symm.trans hrl.out
  subst g5
  clear hok hrl hOK hk5 hk4 hk3 hk2 G1 hnn hn1 hn2
  go_wp2_with fail
  refine (underOf_spec xs _ lo hi (y : Int) w6 (HR.out w6 (hb1.trans (hb7.mono hs1))) (by omega) hs hl).mono ?_
  rintro e w7 ⟨uu, rfl, hb8, hUn⟩
  have hb9 := hb7.trans (hb8.mono hs7)
  have hs9 := hb9.size
  have hs8 := hb8.size
  obtain ⟨ps0, hF, hps⟩ := hU
  have hpl0 : ps0.length = xs.length := by rw [← hps, List.length_map]
  obtain ⟨ga, uc, rfl, -, -, hG⟩ := hF.outer.form
  obtain ⟨G, rfl, hG1, hG2⟩ := hG (by omega)
  rw [hpl0] at hF ⊢
  have hUr := hUn.rd
  obtain ⟨oa, oc, rfl⟩ := hUr.sl
  have HUN := Lib.hid (underL_nat (xs := xs) (k := (y : Int)))
  have HRO := Lib.hid (renTo_ok (frm := frm) (to := to) (underL_nat (xs := xs) (k := (y : Int))))
  have HNX := Lib.hid (fun t (h : t < (underL xs (y : Int)).length) => renTo_next (xs := xs) (frm := frm) (to := to) h)
  have HLE := Lib.hid (underL_le xs (y : Int))
  unfold renL at hRL
  generalize underL xs (y : Int) = us at *
  have hul : (us.length : Int) ≤ 9223372036854775807 := by have := HLE.out; omega
  have hF9 := hF.below hb9 (Nat.le_refl _)
  have hbW := hb1.trans (hb9.mono hs1)
  clear hF hb2 hb3 hb4 hb45 hb6 hb7 hM hUn hrw
  go_wp2
  go_loopw [12] (fun i wr => ∃ (t : Nat) (ps : List (Node × SV)), t ≤ us.length ∧ i = .int .i64 t ∧ Hid (ps.length = xs.length) ∧ Hid (ps.map (·.1) = (us.take t).foldl (renS xs frm to) xs) ∧ Below w.heap.size w wr ∧ w7.heap.size ≤ wr.heap.size ∧ FOwn nodeF Node.kids 38 3 w.heap.size w1.heap.size wr (.slice (some ⟨G, 0, none⟩) xs.length uc) ps ∧ Rd intS w6.heap.size w7.heap.size wr (.slice oa us.length oc) us) (fun i _ => us.length - (intOf i).toNat)
  case atStart => exact ⟨0, ps0, Nat.zero_le _, rfl, hpl0, hps, hbW, Nat.le_refl _, hF9, hUr⟩
  case round =>
    clear hF9 hUr hbW
    obtain ⟨t, ps, ht, rfl, hpl, hpm, hb, hsw, hF, hUr⟩ := hrel
    by_cases htl : t < us.length
    · obtain ⟨ub, uoff, rfl, _, _, uc0⟩ := hUr.intAt htl
      have hti : (t : Int) < (us.length : Int) := by omega
      have htz : (0 : Int) ≤ (t : Int) := by omega
      have hge : us.getD t 0 = us[t] := by rw [List.getD_eq_getElem?_getD, List.getElem?_eq_getElem htl]; rfl
      rw [hge] at uc0
      obtain ⟨j, hj, hjl⟩ := HUN.out _ (List.getElem_mem htl)
      have hji : (j : Int) < (xs.length : Int) := by omega
      have hjz : (0 : Int) ≤ (j : Int) := by omega
      have hjp : j < ps.length := by rw [hpl.out]; exact hjl
      have HN := HNX.out t htl
      rw [hj] at HN uc0
      rw [← hpm.out] at HN
      have hstep := ((HRO.out t).step (i := j) hjl).1
      rw [← hpm.out] at hstep
      have hnd : nd (ps.map (·.1)) (j : Int) = ps[j].1 := by rw [nd_at (by rw [List.length_map]; exact hjp), List.getElem_map]
      clear hge hj
      have d0 := (hF.outer.cell (k := j) (j := 0) hpl.out.symm hjp (by decide)).trans rfl
      have d1 := (hF.outer.cell (k := j) (j := 1) hpl.out.symm hjp (by decide)).trans rfl
      have d2 := (hF.outer.cell (k := j) (j := 2) hpl.out.symm hjp (by decide)).trans rfl
      have d3 := (hF.outer.cell (k := j) (j := 3) hpl.out.symm hjp (by decide)).trans rfl
      replace d0 : wr.cell? ⟨G, j * 4, none⟩ = some (.int .i64 ps[j].1.kind) := d0
      replace d1 : wr.cell? ⟨G, j * 4 + 1, none⟩ = some (.string ps[j].1.text) := d1
      replace d2 : wr.cell? ⟨G, j * 4 + 2, none⟩ = some ps[j].2.v := d2
      replace d3 : wr.cell? ⟨G, j * 4 + 3, none⟩ = some (.bool ps[j].1.blank) := d3
      have HPT := Lib.hid (fun (w4 : World) (h4 : FOwn nodeF Node.kids 38 3 w.heap.size w1.heap.size w4 (.slice (some ⟨G, 0, none⟩) xs.length uc) ps) => h4.putText (by decide) hpl.out.symm hjp to)
      have HMP : Hid ((ps.set j (ps[j].1.put to, ps[j].2)).map (·.1) = (ps.map (·.1)).set (j : Int).toNat ((nd (ps.map (·.1)) (j : Int)).put to)) := by
        show _ = _
        rw [hnd, Int.toNat_natCast, List.map_set]
      have HPL2 : Hid ((ps.set j (ps[j].1.put to, ps[j].2)).length = xs.length) := by show _ = _; rw [List.length_set]; exact hpl.out
      clear hstep hnd d0 d2 d3
      obtain ⟨zb, zoff, za, zc, ez, _, _, q0, q1, q2, q3, _⟩ := rd_nodeAt (HR.out wr hb) hjl
      injection ez with ez
      injection ez with ez1 ez2
      subst ez1; subst ez2
      have HNM : Hid (hasNm (nd xs (j : Int)) frm = (isNamed xs[j].kind && (xs[j].text.toList == frm.toList))) := by show _ = _; rw [nd_at hjl]; rfl
      clear q2 q3
      generalize xs[j].kind = zk at *
      generalize xs[j].text = zt at *
      go_wp2_with fail
      refine (l22Named_any zk _).mono ?_
      rintro e w8 ⟨rfl, rfl⟩
      have hbr8 := hb
      have hsw8 := hsw
      have hF8 := hF
      have hU8 := hUr
      clear hF hUr hb hsw d1
      cases g : isNamed zk with
      | false =>
        have HNF : Hid (hasNm (nd xs (j : Int)) frm = false) := by show _ = _; rw [HNM.out, g]; rfl
        go_wp2
        go_roundw
        case rel => exact ⟨t + 1, ps, by omega, by go_num, hpl, (by show _ = _; rw [HN, renS_no HNF.out]), hbr8, hsw8, hF8, hU8⟩
        case measure => simp [intOf]; omega
      | true =>
        cases g2 : (zt.toList == frm.toList) with
        | false =>
          have HNF : Hid (hasNm (nd xs (j : Int)) frm = false) := by show _ = _; rw [HNM.out, g, g2]; rfl
          go_wp2
          go_roundw
          case rel => exact ⟨t + 1, ps, by omega, by go_num, hpl, (by show _ = _; rw [HN, renS_no HNF.out]), hbr8, hsw8, hF8, hU8⟩
          case measure => simp [intOf]; omega
        | true =>
          have HNF : Hid (hasNm (nd xs (j : Int)) frm = true) := by show _ = _; rw [HNM.out, g, g2]; rfl
          have f1 : wr.frozen? ⟨G, j * 4 + 1, none⟩ = false := hF8.outer.frozen hpl.out.symm _
          have e1 : wr.cell? ⟨G, j * 4 + 1, none⟩ = some (.string ps[j].1.text) := (hF8.outer.cell (k := j) (j := 1) hpl.out.symm hjp (by decide)).trans rfl
          have hFS := HPT.out wr hF8
          have hBS : Below w.heap.size w (wr.setCell ⟨G, j * 4 + 1, none⟩ (.string to)) := hbr8.setCell (p := ⟨G, j * 4 + 1, none⟩) hG1 _
          have hzS : (wr.setCell ⟨G, j * 4 + 1, none⟩ (.string to)).heap.size = wr.heap.size := by simp [World.setCell]
          have hUS : Rd intS w6.heap.size w7.heap.size (wr.setCell ⟨G, j * 4 + 1, none⟩ (.string to)) (.slice (some ⟨ub, uoff, none⟩) us.length oc) us := hU8.far (p := ⟨G, j * 4 + 1, none⟩) (.inr (by show G < w6.heap.size; omega)) _
          have hzS2 : w7.heap.size ≤ (wr.setCell ⟨G, j * 4 + 1, none⟩ (.string to)).heap.size := by rw [hzS]; omega
          clear hzS
          go_wp2
          go_roundw
          case rel => exact ⟨t + 1, _, by omega, by go_num, HPL2.out, (by show _ = _; rw [HMP.out, HN, renS_yes HNF.out]), hBS, hzS2, hFS, hUS⟩
          case measure => simp [intOf]; omega
    · have hti : ¬ (t : Int) < (us.length : Int) := by omega
      have hfin : ps.map (·.1) = rl := by rw [← hRL.out, hpm.out, List.take_of_length_le (by omega)]
      go_wp2
      refine bodyPost_ret (v := .tuple #[.slice (some ⟨G, 0, none⟩) xs.length uc, .bool true]) (by simp [results, Tryz.results10, go_sem]) rfl ?_
      exact ⟨_, rfl, hb, ps, hF.wide (Nat.le_refl _) (by omega), hfin⟩
theorem renamedL_kids (xs : List Node) (k : Int) (frm to : ByteArray) : (renamedL xs k frm to).length = xs.length ∧ (renamedL xs k frm to).map (fun x => x.kids.length) = xs.map (fun x => x.kids.length) := by
  have hset : ∀ (ys : List Node) (i : Int), (ys.set i.toNat ((nd ys i).put to)).map (fun x => x.kids.length) = ys.map (fun x => x.kids.length) := by
    intro ys i
    rw [List.map_set]
    by_cases h : i.toNat < ys.length
    · have e : ((nd ys i).put to).kids.length = (ys.map (fun x => x.kids.length))[i.toNat]'(by rw [List.length_map]; exact h) := by
        rw [List.getElem_map]
        show (nd ys i).kids.length = _
        unfold nd
        rw [List.getD_eq_getElem?_getD, List.getElem?_eq_getElem h]; rfl
      rw [e, List.set_getElem_self]
    · rw [List.set_eq_of_length_le (by rw [List.length_map]; omega)]
  have hfold : ∀ (us : List Int) (ys : List Node), (us.foldl (renS xs frm to) ys).length = ys.length ∧ (us.foldl (renS xs frm to) ys).map (fun x => x.kids.length) = ys.map (fun x => x.kids.length) := by
    intro us
    induction us with
    | nil => exact fun ys => ⟨rfl, rfl⟩
    | cons u us ih =>
      intro ys
      rw [List.foldl_cons]
      obtain ⟨h1, h2⟩ := ih (renS xs frm to ys u)
      rw [h1, h2, renS_len]
      refine ⟨rfl, ?_⟩
      unfold renS
      split
      · exact hset ys u
      · rfl
  unfold renamedL
  split
  · exact hfold _ xs
  · exact ⟨rfl, rfl⟩
end Go.Proofs.YtoloplpmjcgbdaaGreatDoor
