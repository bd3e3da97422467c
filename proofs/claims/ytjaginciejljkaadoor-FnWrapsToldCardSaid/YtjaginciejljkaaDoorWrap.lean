/- WrapNote of the program and of the reference. -/
import Derived.Test.YtjaginciejljkaaDoorWrapP
import Derived.Test.YtjaginciejljkaaDoorWordsOf
import Derived.Test.YtjaginciejljkaaDoorGreedy
import Derived.Test.YtjaginciejljkaaDoorNodeI
import Derived.Test.YtjaginciejljkaaDoorNodeS2
import Derived.Lib.Repeat
namespace Go.Proofs.YtjaginciejljkaaDoor
open Go.RowKit

theorem rep_one (c : Nat) : Lib.repeatL [32] c = List.replicate c 32 := by
  induction c with
  | zero => rfl
  | succ c ih => rw [Lib.repeatL, ih, List.replicate_succ]; rfl
set_option maxHeartbeats 1000000 in
set_option maxRecDepth 100000 in
theorem blanks_impl (q : Nat) (hq : q ≤ 60) (w : World) : Calls Tryd.prog 43 #[.int .i64 q] w fun e w' => e = .returned (.string (blankB q)) ∧ Below w.heap.size w w' := by
  have HR : Hid ((⟨(Lib.repeatL (⟨#[32]⟩ : ByteArray).data.toList q).toArray⟩ : ByteArray) = blankB q) := by
    show (⟨(Lib.repeatL [32] q).toArray⟩ : ByteArray) = _
    rw [rep_one]; rfl
  go_enter Tryd.func43, Tryd.ntmps43
  go_wp2_with fail
  refine (Tryd.strings_Repeat ⟨#[32]⟩ q w (by omega) (by show 1 * q ≤ _; omega)).mono ?_
  rintro e w' ⟨rfl, hb⟩
  rw [HR.out]
  go_wp2
  go_ret
  exact ⟨rfl, hb⟩
set_option maxHeartbeats 1000000 in
set_option maxRecDepth 100000 in
theorem l09Blanks_any (q : Nat) (hq : q ≤ 60) (w : World) : Calls Tryd.prog 46 #[.int .i64 q] w fun e w' => e = .returned (.string (blankB q)) ∧ w' = w := by
  go_enter Tryd.func46, Tryd.ntmps46
  go_wp2
  go_loop [3, 4] (fun s i => ∃ k : Nat, k ≤ q ∧ i = .int .i64 k ∧ s = .string (blankB k)) (fun _ i => q - (intOf i).toNat)
  case atStart => exact ⟨0, Nat.zero_le _, rfl, rfl⟩
  case round =>
    obtain ⟨k, hk, rfl, rfl⟩ := hrel
    have hz := blankB_size k
    have HS := Lib.hid (blankB_succ k)
    by_cases hlt : k < q
    · have hki : (k : Int) < (q : Int) := by omega
      go_wp2
      go_round
      case rel => exact ⟨k + 1, by omega, by go_num, by rw [HS.out]⟩
      case measure => simp [intOf]; omega
    · have hki : ¬ (k : Int) < (q : Int) := by omega
      obtain rfl : k = q := by omega
      go_wp2
      go_ret
      exact ⟨rfl, rfl⟩
theorem own_one {lo : Nat} {w : World} (T : TypeId) (x : ByteArray) (h : lo ≤ w.heap.size) : Own strF T lo (w.alloc (.cells #[.string x] T)).heap.size (w.alloc (.cells #[.string x] T)) (.slice (some ⟨w.heap.size, 0, none⟩) 1 1) [x] :=
  ⟨⟨rfl, .inr ⟨w.heap.size, 1, #[.string x], rfl, h, heap_alloc_new _ _, Nat.le_refl _, by unfold maxLen; omega, rfl, rfl⟩⟩, fun g hg => by
    obtain rfl : w.heap.size = g := by simpa [Value.ownBlock] using hg
    simp⟩
theorem note_no1 {t : ByteArray} {z width : Int} (h : isSg t 5 = false) : wrapL t z width = [] := wrapL_no (by rw [h]; rfl)
theorem note_no2 {t : ByteArray} {z width : Int} (h : (decide (0 ≤ z) && decide (z ≤ 60)) = false) : wrapL t z width = [] := wrapL_no (by rw [h]; simp)
theorem note_yes {t : ByteArray} {z width : Int} (h1 : isSg t 5 = true) (h2 : (decide (0 ≤ z) && decide (z ≤ 60)) = true) : wrapL t z width = noteL t z width := wrapL_yes (by rw [h1, h2]; rfl)
set_option maxHeartbeats 4000000 in
set_option maxRecDepth 100000 in
theorem wrapNote_impl (t : ByteArray) (z width : Int) (m : Int) (w : World) (hs : t.size ≤ 1048576) (hm : w.cell? ⟨0, 0, none⟩ = some (.int .i64 m)) :
    Calls Tryd.prog 23 #[.string t, .int .i64 z, .int .i64 width] w fun e w' => ∃ u, e = .returned u ∧ Below w.heap.size w w' ∧ Own strF 9 w.heap.size w'.heap.size w' u (wrapL t z width) := by
  obtain ⟨i0, hi0, hz0, hz1, hz2⟩ := info_parts Tryd.infoStr1
  obtain ⟨B, HB⟩ : ∃ B, Hid (B = w.heap.size) := ⟨_, rfl⟩
  have hBw : B ≤ w.heap.size := Nat.le_of_eq HB.out
  have hBw' : w.heap.size ≤ B := Nat.le_of_eq HB.out.symm
  have hmB : w.cell? ⟨0, 0, none⟩ = some (.int .i64 m) := hm
  have HM := Lib.hid hm
  clear hm hmB
  go_enter Tryd.func23, Tryd.ntmps23
  go_wp2_with fail
  refine (isSign_any t 5 _ (by omega)).mono ?_
  rintro e w1 ⟨rfl, hb1⟩
  have hs1 := hb1.size
  cases g1 : isSg t 5 with
  | false =>
    have HF := Lib.hid (note_no1 (z := z) (width := width) g1)
    go_wp2
    go_ret
    refine ⟨_, rfl, hb1, ?_⟩
    rw [HF.out]
    exact Own.nil _ _ _ _ _
  | true =>
    have h2 := note_two g1
    go_wp2_with fail
    refine (inRange_b z 0 60 _).mono ?_
    rintro e w' ⟨rfl, rfl⟩
    cases g2 : (decide (0 ≤ z) && decide (z ≤ 60)) with
    | false =>
      have HF := Lib.hid (note_no2 (t := t) (width := width) g2)
      go_wp2
      go_ret
      refine ⟨_, rfl, hb1, ?_⟩
      rw [HF.out]
      exact Own.nil _ _ _ _ _
    | true =>
      have HY := Lib.hid (note_yes (width := width) g1 g2)
      have hz : 0 ≤ z ∧ z ≤ 60 := by simpa using g2
      obtain ⟨q, rfl⟩ : ∃ q : Nat, z = (q : Int) := ⟨z.toNat, by omega⟩
      have hq : q ≤ 60 := by omega
      have f2 : (2 : Int) ≤ (t.size : Int) := by omega
      have HE1 := Lib.hid (fun h => noteL_none (text := t) (at_ := (q : Int)) (width := width) h)
      have HE2 := Lib.hid (fun h => noteL_some (text := t) (at_ := (q : Int)) (width := width) h)
      rw [Int.toNat_natCast] at HE1 HE2
      have hws := szSum_words (t.extract 2 t.size)
      have hsz : (t.extract 2 t.size).size ≤ 1048576 := by rw [ByteArray.size_extract]; omega
      clear g1 g2 hz
      generalize hx : t.extract 2 t.size = x at *
      go_wp2_with fail
      clear hx
      refine (wordsOf_impl x m _ (by omega) (keepm HM.out hb1)).mono ?_
      rintro e w2 ⟨u, rfl, hb2, hO⟩
      have hs2 := hb2.size
      have hb12 := hb1.trans (hb2.mono hs1)
      have hrd := hO.rd
      obtain ⟨a, c, rfl, h3, h4, h5⟩ := hO.form
      clear hO
      generalize wordsB x = ws at *
      by_cases h0 : ws = []
      · subst h0
        have HF := Lib.hid (HY.out.trans (HE1.out rfl))
        have hbz := blankB_size q
        go_wp2_with fail
        refine (blanks_impl q hq _).mono ?_
        rintro e w3 ⟨rfl, hb3⟩
        have hs3 := hb3.size
        go_wp2
        go_ret
        have e := HB.out
        subst e
        refine ⟨_, rfl, (hb12.trans (hb3.mono (by omega))).alloc (by omega) _, ?_⟩
        rw [HF.out]
        exact own_one _ _ (by omega)
      · have HF := Lib.hid (HY.out.trans (HE2.out h0))
        have hl0 : ((ws.length : Int) == 0) = false := beq_eq_false_iff_ne.2 (by have := List.length_pos_iff.2 h0; omega)
        have HZ := Lib.hid (greedyL_size (ahead := (q : Int) + 3) (width := width) (ws := ws))
        have hgl := greedyL_len ((q : Int) + 3) width ws
        clear h0 HE1 HE2
        go_wp2_with fail
        refine (greedy_impl ((q : Int) + 3) width hrd (Nat.le_refl _) (by omega) (by omega) (by omega)).mono ?_
        rintro e w3 ⟨u3, rfl, hb3, hO3⟩
        have hs3 := hb3.size
        have hb13 := hb12.trans (hb3.mono (by omega))
        obtain ⟨a3, c3, rfl, k2, k3, k4, k5⟩ := hO3.rd.strF
        unfold maxLen at k3
        clear hO3
        generalize greedyL ((q : Int) + 3) width ws = ls at *
        have hbz := blankB_size q
        go_wp2
        go_loopw [8, 35] (fun out i wr => ∃ k : Nat, k ≤ ls.length ∧ i = .int .i64 k ∧ Below w3.heap.size w3 wr ∧ Own strF 9 w3.heap.size wr.heap.size wr out ((ls.take k).map fun l => blankB q ++ ⟨#[47, 47, 32]⟩ ++ l)) (fun _ i _ => ls.length - (intOf i).toNat)
        case atStart => exact ⟨0, Nat.zero_le _, rfl, Below.refl _ _, Own.nil _ _ _ _ _⟩
        case round =>
          obtain ⟨k, hk, rfl, hb, hO⟩ := hrel
          have hsr := hb.size
          by_cases hlt : k < ls.length
          · have hki : (k : Int) < (ls.length : Int) := by omega
            have hkz : (0 : Int) ≤ (k : Int) := by omega
            obtain ⟨b, off, rfl, hlo, hhi, c0⟩ := k5 k hlt
            have d0 := (hb.cell (p := ⟨b, _, none⟩) (by show b < _; omega)).trans c0
            have HS := Lib.hid (map_take_succ (fun l => blankB q ++ ⟨#[47, 47, 32]⟩ ++ l) hlt)
            have hml : ((ls.take k).map fun l => blankB q ++ ⟨#[47, 47, 32]⟩ ++ l).length ≤ 2097152 := by rw [List.length_map]; exact Nat.le_trans (List.length_take_le _ _) (by omega)
            have hxs := HZ.out _ (List.getElem_mem hlt)
            clear c0
            generalize ls[k] = y at *
            go_wp2_with fail
            refine (blanks_impl q hq _).mono ?_
            rintro e w4 ⟨rfl, hb4⟩
            have hs4 := hb4.size
            have hO4 := (hO.below hb4 (Nat.le_refl _)).up
            go_wp2_with (at_builtin; refine wp_app1 (F := strF) (P := Tryd.prog) (y := blankB q ++ ⟨#[47, 47, 32]⟩ ++ y) rfl (.tmp 39) (.tmp 45) 24 rfl Tryd.underlying24 hi0 hz0 hz1 hz2 rfl (by decide) rfl (hO4.alloc _) w4.heap.size rfl (heap_alloc_new _ _) rfl (by omega) (by omega) (by simp; omega) ?_; intro v' w' hO' hb')
            go_roundw
            case rel => exact ⟨k + 1, by omega, by go_num, (hb.trans (hb4.mono hsr)).trans (blw_al1 hb' (by omega)), (by rw [HS.out]; exact hO')⟩
            case measure => simp [intOf]; omega
          · have hki : ¬ (k : Int) < (ls.length : Int) := by omega
            have HK := Lib.hid (show ls.take k = ls from List.take_of_length_le (by omega))
            go_wp2
            go_ret
            rw [HK.out, ← HF.out] at hO
            have e := HB.out
            subst e
            exact ⟨_, rfl, hb13.trans (hb.mono (by omega)), hO.wide (by omega) (Nat.le_refl _)⟩
def Qx (K : Act → World → Prop) (Q : Exit → Act → World → Prop) : Exit → Act → World → Prop
  | .normal, a, w => K a w
  | .panic c, a, w => Q (.panic c) a w
  | .outgrown, a, w => Q .outgrown a w
  | e, a, w => Q e a w
theorem upon_x {P : Program} {ops : Array Oper} {o : Oper} {a : Act} {K : Act → World → Prop} {Q : Exit → Act → World → Prop} {r : Result Next}
    (h : o.upon P a (wpList P ops (Qx K Q) []) (Qx K Q) r) : o.upon P a K Q r := by
  cases r with
  | ok n w' => cases n <;> exact h
  | halt x w' => cases x <;> exact h
/-- an operation of a drawn region that is carried out by a law on lists of operations -/
theorem ready_list {P : Program} {md : Region.Mode} {ops : Array Oper} {Q : Exit → Act → World → Prop} {S : World → Prop} {fuel : Nat} {listed : Array Bool} {a : Act} {w : World} {i : Nat} {o : Oper} (ho : ops[i]? = some o)
    (h : ∀ K : Act → World → Prop, Shut (∀ a w, S w → (S w → wpAnyH P md ops Q S fuel (listed.setIfInBounds i true) a w) → K a w) → wpList P ops (Qx K Q) [o] a w) : AllReadyH P md ops Q S fuel listed a w [i] := by
  intro j hj
  obtain rfl : j = i := by simpa using hj
  have h' := h (fun a' w' => S w' ∧ wpAnyH P md ops Q S fuel (listed.setIfInBounds j true) a' w') (fun a w hS hW => ⟨hS, hW hS⟩)
  unfold wpOp
  rw [ho]
  rw [wpList] at h'
  show if Region.wanted o (yielded ops a.tmps) = true then _ else _
  split
  · rename_i hw
    rw [if_pos hw] at h'
    rcases h' with h' | h'
    · exact .inl (upon_x h')
    · exact .inr h'
  · rename_i hw
    rw [if_neg hw] at h'
    exact h'
theorem OutE_dn {α : Type} {F : Flat α} {T B C : Nat} {w wd : World} {v : Value} {xs : List α} (h : OutE F T B C w v xs) (e : w.drew = wd) : OutE F T B C wd v xs := by subst e; exact h
theorem room_yes {a width : Int} {ws : List ByteArray} {q : Nat} (ha : a = (q : Int) + 3) (h : a < width) : greedyL a width ws = greedyL 0 (width - q - 3) ws := by
  rw [greedyL_room, if_pos h, show width - a = width - q - 3 by omega]
theorem room_no {a width : Int} {ws : List ByteArray} (h : ¬ a < width) : greedyL a width ws = greedyL 0 0 ws := by
  rw [greedyL_room, if_neg h]
set_option maxHeartbeats 8000000 in
set_option maxRecDepth 100000 in
theorem wrapNote_spec (t : ByteArray) (z width : Int) (w : World) (hs : t.size ≤ 1048576) (hI : I64 width) :
    Calls Tryd.prog 24 #[.string t, .int .i64 z, .int .i64 width] w fun e w' => ∃ u, e = .returned u ∧ Below w.heap.size w w' ∧ Own strF 9 w.heap.size w'.heap.size w' u (wrapL t z width) := by
  obtain ⟨i0, hi0, hz0, hz1, hz2⟩ := info_parts Tryd.infoStr1
  obtain ⟨B, HB⟩ : ∃ B, Hid (B = w.heap.size) := ⟨_, rfl⟩
  have hBw : B ≤ w.heap.size := Nat.le_of_eq HB.out
  have hBw' : w.heap.size ≤ B := Nat.le_of_eq HB.out.symm
  have hw1 : width ≤ 9223372036854775807 := by have := hI.2; omega
  clear hI
  have HE : Hid (Below B w (w.alloc (.cells #[] 9)) ∧ Own strF 9 B (w.alloc (.cells #[] 9)).heap.size (w.alloc (.cells #[] 9)) (.slice (some ⟨w.heap.size, 0, none⟩) 0 0) []) := ⟨(Below.refl _ _).alloc hBw _, Own.empty _ _ _ _ hBw⟩
  have hsz0 : (w.alloc (.cells #[] 9)).heap.size = w.heap.size + 1 := by simp
  go_enter Tryd.func24, Tryd.ntmps24
  go_wp2_with fail
  generalize w.alloc (.cells #[] 9) = w0 at *
  refine (l05Note_any t _ (by omega)).mono ?_
  rintro e w' ⟨rfl, rfl⟩
  cases g1 : isSg t 5 with
  | false =>
    have HF := Lib.hid (note_no1 (z := z) (width := width) g1)
    go_wp2
    go_ret
    have e := HB.out
    subst e
    refine ⟨_, rfl, HE.out.1, ?_⟩
    rw [HF.out]
    exact HE.out.2
  | true =>
    have h2 := note_two g1
    go_wp2_with fail
    refine (l01In_b z 0 60 _).mono ?_
    rintro e w' ⟨rfl, rfl⟩
    cases g2 : (decide (0 ≤ z) && decide (z ≤ 60)) with
    | false =>
      have HF := Lib.hid (note_no2 (t := t) (width := width) g2)
      go_wp2
      go_ret
      have e := HB.out
      subst e
      refine ⟨_, rfl, HE.out.1, ?_⟩
      rw [HF.out]
      exact HE.out.2
    | true =>
      have HY := Lib.hid (note_yes (width := width) g1 g2)
      have hz : 0 ≤ z ∧ z ≤ 60 := by simpa using g2
      obtain ⟨q, rfl⟩ : ∃ q : Nat, z = (q : Int) := ⟨z.toNat, by omega⟩
      have hq : q ≤ 60 := by omega
      have f2 : (2 : Int) ≤ (t.size : Int) := by omega
      have HE1 := Lib.hid (fun h => noteL_none (text := t) (at_ := (q : Int)) (width := width) h)
      have HE2 := Lib.hid (fun h => noteL_some (text := t) (at_ := (q : Int)) (width := width) h)
      rw [Int.toNat_natCast] at HE1 HE2
      have hws := szSum_words (t.extract 2 t.size)
      have hsz : (t.extract 2 t.size).size ≤ 1048576 := by rw [ByteArray.size_extract]; omega
      clear g1 g2 hz
      generalize hx : t.extract 2 t.size = x at *
      go_wp2_with fail
      clear hx
      refine (wordsOf_spec x _ (by omega)).mono ?_
      rintro e w2 ⟨u, rfl, hb2, hO⟩
      have hs2 := hb2.size
      have hb12 := HE.out.1.trans (hb2.mono (by omega))
      have hE2 := Lib.hid (HE.out.2.below hb2 (Nat.le_refl _))
      have hrd := hO.rd
      obtain ⟨a, c, rfl, h3, h4, h5⟩ := hO.form
      clear hO
      generalize wordsB x = ws at *
      have hbz := blankB_size q
      by_cases h0 : ws = []
      · subst h0
        have HF := Lib.hid (HY.out.trans (HE1.out rfl))
        have hO2 := hE2.out.up
        go_wp2_with fail
        refine (l09Blanks_any q hq _).mono ?_
        rintro e w3 ⟨rfl, rfl⟩
        go_wp2_with (at_builtin; refine wp_app1 (F := strF) (P := Tryd.prog) (y := blankB q ++ ⟨#[47, 47]⟩) rfl (.tmp 28) (.tmp 32) 24 rfl Tryd.underlying24 hi0 hz0 hz1 hz2 rfl (by decide) rfl (hO2.alloc _) w3.heap.size rfl (heap_alloc_new _ _) rfl (by simp) (by simp) (by simp; omega) ?_; intro v' w' hO' hb')
        go_ret
        have e := HB.out
        subst e
        refine ⟨_, rfl, hb12.trans (blw_al1 hb' (by omega)), ?_⟩
        rw [HF.out]
        exact hO'
      · have HF := Lib.hid (HY.out.trans (HE2.out h0))
        have hl0 : ((ws.length : Int) == 0) = false := beq_eq_false_iff_ne.2 (by have := List.length_pos_iff.2 h0; omega)
        have HZ := Lib.hid (greedyL_size (ahead := (q : Int) + 3) (width := width) (ws := ws))
        have hgl := greedyL_len ((q : Int) + 3) width ws
        clear h0 HE1 HE2
        have tail : ∀ (room : Int), greedyL ((q : Int) + 3) width ws = greedyL 0 room ws → Calls Tryd.prog 19 #[.slice a ws.length c, .int .i64 room] w2 fun e w3 => ∃ u, e = .returned u ∧ Below w2.heap.size w2 w3 ∧ Own strF 9 w2.heap.size w3.heap.size w3 u (greedyL ((q : Int) + 3) width ws) := fun room hroom => by
          rw [hroom]; exact greedy_spec room hrd (Nat.le_refl _) (by omega)
        have TAIL := Lib.hid tail
        clear tail
        by_cases hroom : (q : Int) + 3 < width
        · have HR := Lib.hid (room_yes (ws := ws) (q := q) rfl hroom)
          go_wp2_with fail
          refine (TAIL.out _ HR.out).mono ?_
          rintro e w3 ⟨u3, rfl, hb3, hO3⟩
          have hs3 := hb3.size
          have hb13 := hb12.trans (hb3.mono (by omega))
          have hE3 := Lib.hid (hE2.out.below hb3 (by omega))
          obtain ⟨a3, c3, rfl, k2, k3, k4, k5⟩ := hO3.rd.strF
          unfold maxLen at k3
          clear hO3 TAIL HR
          generalize greedyL ((q : Int) + 3) width ws = ls at *
          go_wp2
          go_loopw [7, 11] (fun out i wr => ∃ k : Nat, k ≤ ls.length ∧ i = .int .i64 k ∧ Below w3.heap.size w3 wr ∧ OutE strF 9 B w3.heap.size wr out ((ls.take k).map fun l => blankB q ++ ⟨#[47, 47, 32]⟩ ++ l)) (fun _ i _ => ls.length - (intOf i).toNat)
          case atStart => exact ⟨0, Nat.zero_le _, rfl, Below.refl _ _, .inr ⟨rfl, ⟨_, rfl⟩, hE3.out.wide (Nat.le_refl _) (by omega)⟩⟩
          case round =>
            obtain ⟨k, hk, rfl, hb, hO⟩ := hrel
            have hsr := hb.size
            by_cases hlt : k < ls.length
            · have hki : (k : Int) < (ls.length : Int) := by omega
              have hkz : (0 : Int) ≤ (k : Int) := by omega
              obtain ⟨b, off, rfl, hlo, hhi, c0⟩ := k5 k hlt
              have d0 := (hb.cell (p := ⟨b, _, none⟩) (by show b < _; omega)).trans c0
              have HS := Lib.hid (map_take_succ (fun l => blankB q ++ ⟨#[47, 47, 32]⟩ ++ l) hlt)
              have hml : ((ls.take k).map fun l => blankB q ++ ⟨#[47, 47, 32]⟩ ++ l).length ≤ 2097152 := by rw [List.length_map]; exact Nat.le_trans (List.length_take_le _ _) (by omega)
              have hxs := HZ.out _ (List.getElem_mem hlt)
              clear c0
              generalize ls[k] = y at *
              have hOd := OutE_dn hO (show wr.drew = wr.drew from rfl)
              have hbd := hb.drew
              have hsd : w3.heap.size ≤ wr.drew.heap.size := hbd.size
              have q3 : ¬ 9223372036854775807 < q + 3 := by omega
              have q4 : ¬ 9223372036854775807 < q + 3 + y.size := by omega
              go_wp2_with fail
              refine wp_region_held_drew (S := fun w' => w'.cell? ⟨b, off + k, none⟩ = some (.string y)) (by kernel_rfl) ?_ (fun hHeld => ?_)
              · exact d0
              generalize wr.drew = wd at *
              refine wpAnyH_take (i := 0) (v := ?v1) (at_op rfl) (by kernel_rfl) (by kernel_rfl) (by kernel_rfl) (fun _ _ _ h => h) (Or.inl ⟨by rfl, ?y1⟩) (by assumption) ?r1
              case y1 =>
                intro wx hSx
                go_simp
                try with_reducible rfl
              try simp only [Act.put, List.setIfInBounds_toArray, List.set_cons_zero, List.set_cons_succ]
              refine wpAnyH_take (i := 1) (v := ?v2) (at_op rfl) (by kernel_rfl) (by kernel_rfl) (by kernel_rfl) (fun _ _ _ h => h) (Or.inl ⟨by rfl, ?y2⟩) (by assumption) ?r2
              case y2 =>
                intro wx hSx
                go_simp
                try with_reducible rfl
              try simp only [Act.put, List.setIfInBounds_toArray, List.set_cons_zero, List.set_cons_succ]
              refine wpAnyH_take (i := 4) (v := ?v3) (at_op rfl) (by kernel_rfl) (by kernel_rfl) (by kernel_rfl) (fun _ _ _ h => h) (Or.inl ⟨by rfl, ?y3⟩) (by assumption) ?r3
              case y3 =>
                intro wx hSx
                go_simp
                try with_reducible rfl
              try simp only [Act.put, List.setIfInBounds_toArray, List.set_cons_zero, List.set_cons_succ]
              refine wpAnyH_take (i := 5) (v := ?v4) (at_op rfl) (by kernel_rfl) (by kernel_rfl) (by kernel_rfl) (fun _ _ _ h => h) (Or.inl ⟨by rfl, ?y4⟩) (by assumption) ?r4
              case y4 =>
                intro wx hSx
                go_simp
                try with_reducible rfl
              try simp only [Act.put, List.setIfInBounds_toArray, List.set_cons_zero, List.set_cons_succ]
              refine wpAnyH_take (i := 6) (v := ?v5) (at_op rfl) (by kernel_rfl) (by kernel_rfl) (by kernel_rfl) (fun _ _ _ h => h) (Or.inl ⟨by rfl, ?y5⟩) (by assumption) ?r5
              case y5 =>
                intro wx hSx
                go_simp
                try with_reducible rfl
              try simp only [Act.put, List.setIfInBounds_toArray, List.set_cons_zero, List.set_cons_succ]
              refine wpAnyH_take (i := 7) (v := ?v6) (at_op rfl) (by kernel_rfl) (by kernel_rfl) (by kernel_rfl) (fun _ _ _ h => h) (Or.inl ⟨by rfl, ?y6⟩) (by assumption) ?r6
              case y6 =>
                intro wx hSx
                go_simp
                try with_reducible rfl
              try simp only [Act.put, List.setIfInBounds_toArray, List.set_cons_zero, List.set_cons_succ]
              refine wpAnyH_ready (rs := [2]) (by kernel_rfl) (by simp) ?_
              refine AllReadyH.cons (at_op rfl) (fun K hK => ?_) AllReadyH.nil
              go_simp
              refine (l09Blanks_any q hq _).mono ?_
              rintro e w' ⟨rfl, rfl⟩
              go_wp2_with fail
              refine hK.out _ _ hHeld (fun _ => ?_)
              clear hK K
              try simp only [Act.put, List.setIfInBounds_toArray, List.set_cons_zero, List.set_cons_succ]
              refine wpAnyH_take (i := 3) (v := ?v7) (at_op rfl) (by kernel_rfl) (by kernel_rfl) (by kernel_rfl) (fun _ _ _ h => h) (Or.inl ⟨by rfl, ?y7⟩) (by assumption) ?r7
              case y7 =>
                intro wx hSx
                go_simp
                try with_reducible rfl
              try simp only [Act.put, List.setIfInBounds_toArray, List.set_cons_zero, List.set_cons_succ]
              refine wpAnyH_take (i := 8) (v := ?v8) (at_op rfl) (by kernel_rfl) (by kernel_rfl) (by kernel_rfl) (fun _ _ _ h => h) (Or.inl ⟨by rfl, ?y8⟩) (by assumption) ?r8
              case y8 =>
                intro wx hSx
                go_simp
                try with_reducible rfl
              try simp only [Act.put, List.setIfInBounds_toArray, List.set_cons_zero, List.set_cons_succ]
              refine wpAnyH_ready (rs := [9]) (by kernel_rfl) (by simp) ?_
              refine AllReadyH.cons (at_op rfl) (fun K hK => ?_) AllReadyH.nil
              go_simp
              refine hK.out _ _ ((((Below.refl w'.heap.size w').alloc (Nat.le_refl _) _).cell (p := ⟨b, off + k, none⟩) (by show b < _; omega)).trans hHeld) (fun _ => ?_)
              clear hK K
              try simp only [Act.put, List.setIfInBounds_toArray, List.set_cons_zero, List.set_cons_succ]
              refine wpAnyH_ready (rs := [10]) (by kernel_rfl) (by simp) ?_
              refine ready_list (at_op rfl) (fun K hK => ?_)
              refine wp_app1e (C := w3.heap.size) (F := strF) (P := Tryd.prog) (y := blankB q ++ ⟨#[47, 47, 32]⟩ ++ y) rfl (.tmp 51) (.tmp 60) 24 rfl Tryd.underlying24 hi0 hz0 hz1 hz2 rfl (by decide) rfl (hOd.keep ((Below.refl _ _).alloc (Nat.le_refl _) _) hsd) _ rfl (heap_alloc_new _ _) rfl (by omega) (by omega) (by simp; omega) ?_
              intro v' w9 hO' hb'
              refine hK.out _ _ ((hb'.cell (p := ⟨b, off + k, none⟩) (by show b < _; omega)).trans ((((Below.refl w'.heap.size w').alloc (Nat.le_refl _) _).cell (p := ⟨b, off + k, none⟩) (by show b < _; omega)).trans hHeld)) (fun _ => ?_)
              clear hK K
              try simp only [Act.put, List.setIfInBounds_toArray, List.set_cons_zero, List.set_cons_succ]
              refine wpAnyH_take (i := 11) (v := ?v9) (at_op rfl) (by kernel_rfl) (by kernel_rfl) (by kernel_rfl) (fun _ _ _ h => h) (Or.inl ⟨by rfl, ?y9⟩) (by assumption) ?r9
              case y9 =>
                intro wx hSx
                go_simp
                try with_reducible rfl
              try simp only [Act.put, List.setIfInBounds_toArray, List.set_cons_zero, List.set_cons_succ]
              refine wpAnyH_done (by kernel_rfl) ?_ _
              go_wp2
              go_roundw
              case rel => exact ⟨k + 1, by omega, by go_num, hbd.trans (blw_al1 hb' hsd), (by rw [HS.out]; exact hO')⟩
              case measure => simp [intOf]; omega
            · have hki : ¬ (k : Int) < (ls.length : Int) := by omega
              have HK := Lib.hid (show ls.take k = ls from List.take_of_length_le (by omega))
              go_wp2
              go_ret
              rw [HK.out, ← HF.out] at hO
              have hO2 := hO.own (by omega) hsr
              have e := HB.out
              subst e
              exact ⟨_, rfl, hb13.trans (hb.mono (by omega)), hO2⟩
        · have HR := Lib.hid (room_no (ws := ws) hroom)
          go_wp2_with fail
          refine (TAIL.out _ HR.out).mono ?_
          rintro e w3 ⟨u3, rfl, hb3, hO3⟩
          have hs3 := hb3.size
          have hb13 := hb12.trans (hb3.mono (by omega))
          have hE3 := Lib.hid (hE2.out.below hb3 (by omega))
          obtain ⟨a3, c3, rfl, k2, k3, k4, k5⟩ := hO3.rd.strF
          unfold maxLen at k3
          clear hO3 TAIL HR
          generalize greedyL ((q : Int) + 3) width ws = ls at *
          go_wp2
          go_loopw [7, 11] (fun out i wr => ∃ k : Nat, k ≤ ls.length ∧ i = .int .i64 k ∧ Below w3.heap.size w3 wr ∧ OutE strF 9 B w3.heap.size wr out ((ls.take k).map fun l => blankB q ++ ⟨#[47, 47, 32]⟩ ++ l)) (fun _ i _ => ls.length - (intOf i).toNat)
          case atStart => exact ⟨0, Nat.zero_le _, rfl, Below.refl _ _, .inr ⟨rfl, ⟨_, rfl⟩, hE3.out.wide (Nat.le_refl _) (by omega)⟩⟩
          case round =>
            obtain ⟨k, hk, rfl, hb, hO⟩ := hrel
            have hsr := hb.size
            by_cases hlt : k < ls.length
            · have hki : (k : Int) < (ls.length : Int) := by omega
              have hkz : (0 : Int) ≤ (k : Int) := by omega
              obtain ⟨b, off, rfl, hlo, hhi, c0⟩ := k5 k hlt
              have d0 := (hb.cell (p := ⟨b, _, none⟩) (by show b < _; omega)).trans c0
              have HS := Lib.hid (map_take_succ (fun l => blankB q ++ ⟨#[47, 47, 32]⟩ ++ l) hlt)
              have hml : ((ls.take k).map fun l => blankB q ++ ⟨#[47, 47, 32]⟩ ++ l).length ≤ 2097152 := by rw [List.length_map]; exact Nat.le_trans (List.length_take_le _ _) (by omega)
              have hxs := HZ.out _ (List.getElem_mem hlt)
              clear c0
              generalize ls[k] = y at *
              have hOd := OutE_dn hO (show wr.drew = wr.drew from rfl)
              have hbd := hb.drew
              have hsd : w3.heap.size ≤ wr.drew.heap.size := hbd.size
              have q3 : ¬ 9223372036854775807 < q + 3 := by omega
              have q4 : ¬ 9223372036854775807 < q + 3 + y.size := by omega
              go_wp2_with fail
              refine wp_region_held_drew (S := fun w' => w'.cell? ⟨b, off + k, none⟩ = some (.string y)) (by kernel_rfl) ?_ (fun hHeld => ?_)
              · exact d0
              generalize wr.drew = wd at *
              refine wpAnyH_take (i := 0) (v := ?v10) (at_op rfl) (by kernel_rfl) (by kernel_rfl) (by kernel_rfl) (fun _ _ _ h => h) (Or.inl ⟨by rfl, ?y10⟩) (by assumption) ?r10
              case y10 =>
                intro wx hSx
                go_simp
                try with_reducible rfl
              try simp only [Act.put, List.setIfInBounds_toArray, List.set_cons_zero, List.set_cons_succ]
              refine wpAnyH_take (i := 1) (v := ?v11) (at_op rfl) (by kernel_rfl) (by kernel_rfl) (by kernel_rfl) (fun _ _ _ h => h) (Or.inl ⟨by rfl, ?y11⟩) (by assumption) ?r11
              case y11 =>
                intro wx hSx
                go_simp
                try with_reducible rfl
              try simp only [Act.put, List.setIfInBounds_toArray, List.set_cons_zero, List.set_cons_succ]
              refine wpAnyH_take (i := 4) (v := ?v12) (at_op rfl) (by kernel_rfl) (by kernel_rfl) (by kernel_rfl) (fun _ _ _ h => h) (Or.inl ⟨by rfl, ?y12⟩) (by assumption) ?r12
              case y12 =>
                intro wx hSx
                go_simp
                try with_reducible rfl
              try simp only [Act.put, List.setIfInBounds_toArray, List.set_cons_zero, List.set_cons_succ]
              refine wpAnyH_take (i := 5) (v := ?v13) (at_op rfl) (by kernel_rfl) (by kernel_rfl) (by kernel_rfl) (fun _ _ _ h => h) (Or.inl ⟨by rfl, ?y13⟩) (by assumption) ?r13
              case y13 =>
                intro wx hSx
                go_simp
                try with_reducible rfl
              try simp only [Act.put, List.setIfInBounds_toArray, List.set_cons_zero, List.set_cons_succ]
              refine wpAnyH_take (i := 6) (v := ?v14) (at_op rfl) (by kernel_rfl) (by kernel_rfl) (by kernel_rfl) (fun _ _ _ h => h) (Or.inl ⟨by rfl, ?y14⟩) (by assumption) ?r14
              case y14 =>
                intro wx hSx
                go_simp
                try with_reducible rfl
              try simp only [Act.put, List.setIfInBounds_toArray, List.set_cons_zero, List.set_cons_succ]
              refine wpAnyH_take (i := 7) (v := ?v15) (at_op rfl) (by kernel_rfl) (by kernel_rfl) (by kernel_rfl) (fun _ _ _ h => h) (Or.inl ⟨by rfl, ?y15⟩) (by assumption) ?r15
              case y15 =>
                intro wx hSx
                go_simp
                try with_reducible rfl
              try simp only [Act.put, List.setIfInBounds_toArray, List.set_cons_zero, List.set_cons_succ]
              refine wpAnyH_ready (rs := [2]) (by kernel_rfl) (by simp) ?_
              refine AllReadyH.cons (at_op rfl) (fun K hK => ?_) AllReadyH.nil
              go_simp
              refine (l09Blanks_any q hq _).mono ?_
              rintro e w' ⟨rfl, rfl⟩
              go_wp2_with fail
              refine hK.out _ _ hHeld (fun _ => ?_)
              clear hK K
              try simp only [Act.put, List.setIfInBounds_toArray, List.set_cons_zero, List.set_cons_succ]
              refine wpAnyH_take (i := 3) (v := ?v16) (at_op rfl) (by kernel_rfl) (by kernel_rfl) (by kernel_rfl) (fun _ _ _ h => h) (Or.inl ⟨by rfl, ?y16⟩) (by assumption) ?r16
              case y16 =>
                intro wx hSx
                go_simp
                try with_reducible rfl
              try simp only [Act.put, List.setIfInBounds_toArray, List.set_cons_zero, List.set_cons_succ]
              refine wpAnyH_take (i := 8) (v := ?v17) (at_op rfl) (by kernel_rfl) (by kernel_rfl) (by kernel_rfl) (fun _ _ _ h => h) (Or.inl ⟨by rfl, ?y17⟩) (by assumption) ?r17
              case y17 =>
                intro wx hSx
                go_simp
                try with_reducible rfl
              try simp only [Act.put, List.setIfInBounds_toArray, List.set_cons_zero, List.set_cons_succ]
              refine wpAnyH_ready (rs := [9]) (by kernel_rfl) (by simp) ?_
              refine AllReadyH.cons (at_op rfl) (fun K hK => ?_) AllReadyH.nil
              go_simp
              refine hK.out _ _ ((((Below.refl w'.heap.size w').alloc (Nat.le_refl _) _).cell (p := ⟨b, off + k, none⟩) (by show b < _; omega)).trans hHeld) (fun _ => ?_)
              clear hK K
              try simp only [Act.put, List.setIfInBounds_toArray, List.set_cons_zero, List.set_cons_succ]
              refine wpAnyH_ready (rs := [10]) (by kernel_rfl) (by simp) ?_
              refine ready_list (at_op rfl) (fun K hK => ?_)
              refine wp_app1e (C := w3.heap.size) (F := strF) (P := Tryd.prog) (y := blankB q ++ ⟨#[47, 47, 32]⟩ ++ y) rfl (.tmp 51) (.tmp 60) 24 rfl Tryd.underlying24 hi0 hz0 hz1 hz2 rfl (by decide) rfl (hOd.keep ((Below.refl _ _).alloc (Nat.le_refl _) _) hsd) _ rfl (heap_alloc_new _ _) rfl (by omega) (by omega) (by simp; omega) ?_
              intro v' w9 hO' hb'
              refine hK.out _ _ ((hb'.cell (p := ⟨b, off + k, none⟩) (by show b < _; omega)).trans ((((Below.refl w'.heap.size w').alloc (Nat.le_refl _) _).cell (p := ⟨b, off + k, none⟩) (by show b < _; omega)).trans hHeld)) (fun _ => ?_)
              clear hK K
              try simp only [Act.put, List.setIfInBounds_toArray, List.set_cons_zero, List.set_cons_succ]
              refine wpAnyH_take (i := 11) (v := ?v18) (at_op rfl) (by kernel_rfl) (by kernel_rfl) (by kernel_rfl) (fun _ _ _ h => h) (Or.inl ⟨by rfl, ?y18⟩) (by assumption) ?r18
              case y18 =>
                intro wx hSx
                go_simp
                try with_reducible rfl
              try simp only [Act.put, List.setIfInBounds_toArray, List.set_cons_zero, List.set_cons_succ]
              refine wpAnyH_done (by kernel_rfl) ?_ _
              go_wp2
              go_roundw
              case rel => exact ⟨k + 1, by omega, by go_num, hbd.trans (blw_al1 hb' hsd), (by rw [HS.out]; exact hO')⟩
              case measure => simp [intOf]; omega
            · have hki : ¬ (k : Int) < (ls.length : Int) := by omega
              have HK := Lib.hid (show ls.take k = ls from List.take_of_length_le (by omega))
              go_wp2
              go_ret
              rw [HK.out, ← HF.out] at hO
              have hO2 := hO.own (by omega) hsr
              have e := HB.out
              subst e
              exact ⟨_, rfl, hb13.trans (hb.mono (by omega)), hO2⟩
end Go.Proofs.YtjaginciejljkaaDoor
