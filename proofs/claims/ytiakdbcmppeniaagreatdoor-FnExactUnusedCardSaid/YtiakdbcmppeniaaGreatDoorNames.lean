/- NamesIn of both. By mk_names.py. -/
import Derived.Test.YtiakdbcmppeniaaGreatDoorUnderS
import Derived.Test.YtiakdbcmppeniaaGreatDoorNamesD
import Derived.Test.YtiakdbcmppeniaaGreatDoorShelf
import Derived.Lib.SlicesS
namespace Go.Proofs.YtiakdbcmppeniaaGreatDoor
open Go.RowKit

theorem Tryz.infoStrN : (Tryz.prog.info? 9).map (fun i => (i.zero, i.size, i.bytes)) = some (some (.string ByteArray.empty), 1, 16) := by kernel_rfl
theorem rd_strAt {lo hi n c : Nat} {w : World} {a : Option Addr} {ss : List ByteArray} (h : Rd strF.shape lo hi w (.slice a n c) ss) {k : Nat} (hk : k < ss.length) : ∃ b off, a = some ⟨b, off, none⟩ ∧ lo ≤ b ∧ b < hi ∧ w.cell? ⟨b, off + k, none⟩ = some (.string (ss.getD k ByteArray.empty)) := by
  obtain ⟨a', c', e, h2, h3, h4, h5⟩ := h
  injection e with e1 e2 e3
  subst e1
  obtain ⟨b, off, cs, q1, q2, q3, rfl, q5⟩ := h5 k hk
  refine ⟨b, off, q1, q2, q3, ?_⟩
  have := q5 0 _ rfl
  rw [List.getD_eq_getElem?_getD, List.getElem?_eq_getElem hk]
  have e : off + k * strF.shape.size + 0 = off + k := by show off + k * 1 + 0 = off + k; omega
  rwa [e] at this
theorem containsS_eq (ss : List ByteArray) (s : ByteArray) : Lib.containsS ss s = ss.contains s := by
  rw [Bool.eq_iff_iff, Lib.containsS_iff, contains_str, List.any_eq_true]
  exact ⟨fun h => ⟨s, h, str_yes rfl⟩, fun ⟨x, hx, e⟩ => str_eq.1 e ▸ hx⟩
theorem contains_any (ss : List ByteArray) (v : Value) (s : ByteArray) (lo hi : Nat) (w : World) (hr : Rd strF.shape lo hi w v ss) :
    Calls Tryz.prog 33 #[v, .string s] w fun e w' => e = .returned (.bool (ss.contains s)) ∧ w' = w := by
  obtain ⟨a, c, rfl⟩ := hr.sl
  obtain ⟨_, h2, h3⟩ := hr.lenEq
  by_cases h0 : 0 < ss.length
  · obtain ⟨b, off, rfl, _, _, _⟩ := rd_strAt hr h0
    have h := Tryz.slices_Contains_string b off ss.length c ss s w (Nat.le_refl _) (by omega) (fun j hj => by
      obtain ⟨b', off', e, _, _, hc⟩ := rd_strAt hr hj
      injection e with e
      injection e with e1 e2
      subst e1; subst e2
      exact hc)
    rwa [List.take_length, containsS_eq] at h
  · obtain rfl : ss = [] := List.eq_nil_of_length_eq_zero (by omega)
    exact Tryz.slices_Contains_string_empty a c s w
set_option maxHeartbeats 4000000 in
set_option maxRecDepth 100000 in
theorem l22Has_any (ss : List ByteArray) (v : Value) (s : ByteArray) (lo hi : Nat) (w : World) (hr : Rd strF.shape lo hi w v ss) :
    Calls Tryz.prog 34 #[v, .string s] w fun e w' => e = .returned (.bool (ss.contains s)) ∧ w = w' := by
  obtain ⟨a, c, rfl⟩ := hr.sl
  obtain ⟨_, h2, h3⟩ := hr.lenEq
  have hl : (ss.length : Int) ≤ 9223372036854775807 := by omega
  have HC := Lib.hid (contains_str (xs := ss) (s := s))
  go_enter Tryz.func34, Tryz.ntmps34
  go_wp2
  go_loop [5] (fun i => ∃ t : Nat, t ≤ ss.length ∧ i = .int .i64 t ∧ Hid (∀ j, j < t → ((ss.getD j ByteArray.empty).toList == s.toList) = false)) (fun i => ss.length - (intOf i).toNat)
  case atStart => exact ⟨0, Nat.zero_le _, rfl, fun j hj => absurd hj (Nat.not_lt_zero _)⟩
  case round =>
    obtain ⟨t, ht, rfl, HA⟩ := hrel
    by_cases htl : t < ss.length
    · obtain ⟨b, off, rfl, _, _, c0⟩ := rd_strAt hr htl
      have hti : (t : Int) < (ss.length : Int) := by omega
      have htz : (0 : Int) ≤ (t : Int) := by omega
      have HM : Hid (((ss.getD t ByteArray.empty).toList == s.toList) = true → ss.contains s = true) := fun h => by
        rw [HC.out, List.any_eq_true]
        exact ⟨ss.getD t ByteArray.empty, by rw [List.getD_eq_getElem?_getD, List.getElem?_eq_getElem htl]; exact List.getElem_mem htl, h⟩
      have HN : Hid (((ss.getD t ByteArray.empty).toList == s.toList) = false → ∀ j, j < t + 1 → ((ss.getD j ByteArray.empty).toList == s.toList) = false) := fun h j hj => by
        by_cases e : j = t
        · subst e; exact h
        · exact HA.out j (by omega)
      generalize ss.getD t ByteArray.empty = x at *
      cases g : (x.toList == s.toList) with
      | true =>
        have HF := Lib.hid (HM.out g)
        go_wp2
        go_ret
        exact ⟨ret_bool HF.out.symm, rfl⟩
      | false =>
        have HF := Lib.hid (HN.out g)
        go_wp2
        go_round
        case rel => exact ⟨t + 1, by omega, by go_num, HF.out⟩
        case measure => simp [intOf]; omega
    · have hti : ¬ (t : Int) < (ss.length : Int) := by omega
      have HF : Hid (ss.contains s = false) := by
        show ss.contains s = false
        rw [HC.out, List.any_eq_false]
        intro x hx
        obtain ⟨j, hj, rfl⟩ := List.mem_iff_getElem.1 hx
        have h := HA.out j (by omega)
        rw [List.getD_eq_getElem?_getD, List.getElem?_eq_getElem hj] at h
        exact fun c => by rw [show (some ss[j]).getD ByteArray.empty = ss[j] from rfl, c] at h; cases h
      go_wp2
      go_ret
      exact ⟨ret_bool HF.out.symm, rfl⟩
set_option maxHeartbeats 4000000 in
set_option maxRecDepth 100000 in
theorem addOnce_impl (ss : List ByteArray) (v : Value) (s : ByteArray) (B C : Nat) (w : World) (hO : OutE strF 9 B C w v ss) (hBC : B ≤ C) (hC : C ≤ w.heap.size) (hl : ss.length ≤ 2097152) :
    Calls Tryz.prog 27 #[v, .string s] w fun e w' => ∃ u, e = .returned u ∧ Below C w w' ∧ OutE strF 9 B C w' u (addOnceL ss s) := by
  obtain ⟨i0, hi0, hz0, hz1, hz2⟩ := info_parts Tryz.infoStrN
  have hrd := (hO.own hBC hC).rd
  have HY := Lib.hid (fun h => addOnce_yes (out := ss) (s := s) h)
  have HN := Lib.hid (fun h => addOnce_no (out := ss) (s := s) h)
  obtain ⟨oa, oc, rfl⟩ := hrd.sl
  go_enter Tryz.func27, Tryz.ntmps27
  go_wp2_with fail
  refine (contains_any ss _ s _ _ _ hrd).mono ?_
  rintro e w' ⟨rfl, hw⟩
  replace hw := hw.symm
  subst hw
  cases g : ss.contains s with
  | true =>
    have HR := Lib.hid (HY.out g)
    go_wp2
    go_ret
    exact ⟨_, rfl, Below.refl _ _, by rw [HR.out]; exact hO⟩
  | false =>
    have HR := Lib.hid (HN.out g)
    clear g
    go_wp2_with (at_builtin; refine wp_app1e (C := C) (F := strF) (P := Tryz.prog) (y := s) rfl (.tmp 9) (.tmp 11) 24 rfl Tryz.underlying24 hi0 hz0 hz1 hz2 rfl (by decide) rfl (hO.keep ((Below.refl _ _).alloc (Nat.le_refl _) _) hC) w.heap.size rfl (heap_alloc_new _ _) rfl (by omega) (by omega) (by simp; omega) ?_; intro v' w' hO' hb')
    go_ret
    exact ⟨_, rfl, blw_al1 hb' hC, by rw [HR.out]; exact hO'⟩
set_option maxHeartbeats 4000000 in
set_option maxRecDepth 100000 in
theorem l22Add_any (ss : List ByteArray) (v : Value) (s : ByteArray) (B C : Nat) (w : World) (hO : OutE strF 9 B C w v ss) (hBC : B ≤ C) (hC : C ≤ w.heap.size) (hl : ss.length ≤ 2097152) :
    Calls Tryz.prog 24 #[v, .string s] w fun e w' => ∃ u, e = .returned u ∧ Below C w w' ∧ OutE strF 9 B C w' u (addOnceL ss s) := by
  obtain ⟨i0, hi0, hz0, hz1, hz2⟩ := info_parts Tryz.infoStrN
  have hrd := (hO.own hBC hC).rd
  have HY := Lib.hid (fun h => addOnce_yes (out := ss) (s := s) h)
  have HN := Lib.hid (fun h => addOnce_no (out := ss) (s := s) h)
  obtain ⟨oa, oc, rfl⟩ := hrd.sl
  go_enter Tryz.func24, Tryz.ntmps24
  go_wp2_with fail
  refine (l22Has_any ss _ s _ _ _ hrd).mono ?_
  rintro e w' ⟨rfl, hw⟩
  subst hw
  cases g : ss.contains s with
  | true =>
    have HR := Lib.hid (HY.out g)
    go_wp2
    go_ret
    exact ⟨_, rfl, Below.refl _ _, by rw [HR.out]; exact hO⟩
  | false =>
    have HR := Lib.hid (HN.out g)
    clear g
    go_wp2_with (at_builtin; refine wp_app1e (C := C) (F := strF) (P := Tryz.prog) (y := s) rfl (.tmp 9) (.tmp 11) 24 rfl Tryz.underlying24 hi0 hz0 hz1 hz2 rfl (by decide) rfl (hO.keep ((Below.refl _ _).alloc (Nat.le_refl _) _) hC) w.heap.size rfl (heap_alloc_new _ _) rfl (by omega) (by omega) (by simp; omega) ?_; intro v' w' hO' hb')
    go_ret
    exact ⟨_, rfl, blw_al1 hb' hC, by rw [HR.out]; exact hO'⟩
set_option maxHeartbeats 4000000 in
set_option maxRecDepth 100000 in
theorem namesIn_impl (xs : List Node) (v : Value) (lo hi : Nat) (k : Int) (w : World) (hr : Rd nodeS lo hi w v xs) (hh : hi ≤ w.heap.size) (hs : ∀ x ∈ xs, x.text.size ≤ 4611686018427387904) (hl : xs.length ≤ 1048576) :
    Calls Tryz.prog 10 #[v, .int .i64 k] w fun e w' => ∃ u, e = .returned u ∧ Below w.heap.size w w' ∧ Own strF 9 w.heap.size w'.heap.size w' u (namesIn xs k) := by
  obtain ⟨a, c, rfl⟩ := hr.sl
  obtain ⟨_, h2, h3⟩ := hr.lenEq
  obtain ⟨B, HB⟩ : ∃ B, Hid (B = w.heap.size) := ⟨_, rfl⟩
  have hBw : B ≤ w.heap.size := Nat.le_of_eq HB.out
  have HMM := Lib.hid (fun x (h : x ∈ underL xs k) => underL_mem h)
  have HLE := Lib.hid (underL_le xs k)
  have HDF : Hid (namesIn xs k = onceL (nameP xs) xs (underL xs k)) := rfl
  have HR := Lib.hid (fun w4 (h4 : Below w.heap.size w w4) => hr.below h4 hh)
  go_enter Tryz.func10, Tryz.ntmps10
  go_wp2_with fail
  refine (underOf_impl xs _ lo hi k _ hr hh hs hl).mono ?_
  rintro e w1 ⟨u, rfl, hb1, hOU⟩
  have hsW1 := hb1.size
  have hbW1 := hb1
  have hrd := hOU.rd
  have hu1 : w1.heap.size ≤ w1.heap.size := Nat.le_refl _
  have hBC : B ≤ w1.heap.size := by omega
  have hOE : OutE strF 9 B w1.heap.size w1 (.slice none 0 0) (onceL (nameP xs) xs ((underL xs k).take 0)) := .inl (Own.nil _ _ _ _ _)
  generalize underL xs k = us at *
  obtain ⟨oa, oc, rfl⟩ := hrd.sl
  have hul : (us.length : Int) ≤ 9223372036854775807 := by have := HLE.out; omega
  have HUR := Lib.hid (fun w4 (h4 : Below w1.heap.size w1 w4) => hrd.below h4 hu1)
  have HNR := Lib.hid (fun w4 (h4 : Below w1.heap.size w1 w4) => HR.out w4 (hbW1.trans (h4.mono hsW1)))
  go_wp2
  go_loopw [5, 12] (fun out i wr => ∃ t : Nat, t ≤ us.length ∧ i = .int .i64 t ∧ Below w1.heap.size w1 wr ∧ OutE strF 9 B w1.heap.size wr out (onceL (nameP xs) xs (us.take t))) (fun _ i _ => us.length - (intOf i).toNat)
  case atStart => exact ⟨0, Nat.zero_le _, rfl, Below.refl _ _, hOE⟩
  case round =>
    obtain ⟨t, ht, rfl, hb, hO⟩ := hrel
    have hsz := hb.size
    by_cases htl : t < us.length
    · obtain ⟨ub, uoff, rfl, _, _, uc0⟩ := (HUR.out wr hb).intAt htl
      have hti : (t : Int) < (us.length : Int) := by omega
      have htz : (0 : Int) ≤ (t : Int) := by omega
      have hm := HMM.out _ (List.getElem_mem htl)
      have hge : us.getD t 0 = us[t] := by rw [List.getD_eq_getElem?_getD, List.getElem?_eq_getElem htl]; rfl
      rw [hge] at uc0
      have HY := Lib.hid (fun h => onceL_yes (p := nameP xs) (xs := xs) htl h)
      have HN := Lib.hid (fun h => onceL_no (p := nameP xs) (xs := xs) htl h)
      have hol0 := onceL_len (nameP xs) xs us t ht
      have hlen := HLE.out
      obtain ⟨y, hy⟩ : ∃ y : Nat, us[t] = (y : Int) := ⟨us[t].toNat, by omega⟩
      rw [hy] at uc0 hm HY HN
      have hyl : y < xs.length := by omega
      have hyi : (y : Int) < (xs.length : Int) := by omega
      have hyz : (0 : Int) ≤ (y : Int) := by omega
      obtain ⟨b, off, ya, yc, eb, _, _, q0, q1, q2, q3, _⟩ := rd_nodeAt (HNR.out wr hb) hyl
      subst eb
      have HX : Hid (nd xs (y : Int) = xs[y]) := nd_at hyl
      have HP : Hid ((nameP xs) (y : Int) = (xs[y].kind == 1)) := by show nameP xs (y : Int) = _; unfold nameP; rw [HX.out]
      rw [HX.out] at HY
      clear hge hy hm
      generalize xs[y] = z at *
      obtain ⟨zk, zt, zs, zb⟩ := z
      simp only at q0 q1 q2 q3 HP HY
      obtain ⟨ol, hol⟩ : ∃ ol, Hid (onceL (nameP xs) xs (us.take t) = ol) := ⟨_, rfl⟩
      rw [hol.out] at HY HN hO hol0
      cases g : (zk == 1) with
      | true =>
        have HR1 := Lib.hid (HY.out (by rw [HP.out]; exact g))
        go_wp2_with fail
        refine (addOnce_impl ol _ zt B w1.heap.size _ hO hBC hsz (by omega)).mono ?_
        rintro e w2 ⟨u2, rfl, hb2, hO2⟩
        go_wp2
        go_roundw
        case rel => exact ⟨t + 1, by omega, by go_num, hb.trans hb2, by rw [HR1.out]; exact hO2⟩
        case measure => simp [intOf]; omega
      | false =>
        have HR1 := Lib.hid (HN.out (by rw [HP.out]; exact g))
        go_wp2
        go_roundw
        case rel => exact ⟨t + 1, by omega, by go_num, hb, by rw [HR1.out]; exact hO⟩
        case measure => simp [intOf]; omega
    · have hti : ¬ (t : Int) < (us.length : Int) := by omega
      have HF : Hid (namesIn xs k = onceL (nameP xs) xs (us.take t)) := by show _ = _; rw [HDF.out, List.take_of_length_le (by omega)]
      go_wp2
      go_ret
      have e := HB.out
      subst e
      exact ⟨_, rfl, hbW1.trans (hb.mono hsW1), by rw [HF.out]; exact hO.own hBC hsz⟩
set_option maxHeartbeats 4000000 in
set_option maxRecDepth 100000 in
theorem namesIn_spec (xs : List Node) (v : Value) (lo hi : Nat) (k : Int) (w : World) (hr : Rd nodeS lo hi w v xs) (hh : hi ≤ w.heap.size) (hs : ∀ x ∈ xs, x.text.size ≤ 4611686018427387904) (hl : xs.length ≤ 1048576) :
    Calls Tryz.prog 8 #[v, .int .i64 k] w fun e w' => ∃ u, e = .returned u ∧ Below w.heap.size w w' ∧ Own strF 9 w.heap.size w'.heap.size w' u (namesIn xs k) := by
  obtain ⟨a, c, rfl⟩ := hr.sl
  obtain ⟨_, h2, h3⟩ := hr.lenEq
  obtain ⟨B, HB⟩ : ∃ B, Hid (B = w.heap.size) := ⟨_, rfl⟩
  have hBw : B ≤ w.heap.size := Nat.le_of_eq HB.out
  have HMM := Lib.hid (fun x (h : x ∈ underL xs k) => underL_mem h)
  have HLE := Lib.hid (underL_le xs k)
  have HDF : Hid (namesIn xs k = onceL (nameP xs) xs (underL xs k)) := rfl
  have HR := Lib.hid (fun w4 (h4 : Below w.heap.size w w4) => hr.below h4 hh)
  go_enter Tryz.func8, Tryz.ntmps8
  go_wp2_with fail
  generalize hE : (.cells #[] 9 : Obj) = E
  have hO0 : Own strF 9 B (w.alloc E).heap.size (w.alloc E) (.slice (some ⟨w.heap.size, 0, none⟩) 0 0) [] := by rw [← hE]; exact Own.empty strF 9 B w hBw
  have hbE : Below w.heap.size w (w.alloc E) := (Below.refl _ _).alloc (Nat.le_refl _) E
  have hsE : (w.alloc E).heap.size = w.heap.size + 1 := by simp
  generalize w.alloc E = w0 at *
  clear hE
  refine (underOf_spec xs _ lo hi k _ (hr.below hbE hh) (by omega) hs hl).mono ?_
  rintro e w1 ⟨u, rfl, hb1, hOU⟩
  have hs1 := hb1.size
  have hbW1 : Below w.heap.size w w1 := hbE.trans (hb1.mono (by omega))
  have hsW1 := hbW1.size
  have hrd := hOU.rd
  have hu1 : w1.heap.size ≤ w1.heap.size := Nat.le_refl _
  have hBC : B ≤ w1.heap.size := by omega
  have hOE : OutE strF 9 B w1.heap.size w1 (.slice (some ⟨w.heap.size, 0, none⟩) 0 0) (onceL (nameP xs) xs ((underL xs k).take 0)) := .inr ⟨rfl, ⟨_, rfl⟩, (hO0.below hb1 (Nat.le_refl _)).wide (Nat.le_refl _) hs1⟩
  generalize underL xs k = us at *
  obtain ⟨oa, oc, rfl⟩ := hrd.sl
  have hul : (us.length : Int) ≤ 9223372036854775807 := by have := HLE.out; omega
  have HUR := Lib.hid (fun w4 (h4 : Below w1.heap.size w1 w4) => hrd.below h4 hu1)
  have HNR := Lib.hid (fun w4 (h4 : Below w1.heap.size w1 w4) => HR.out w4 (hbW1.trans (h4.mono hsW1)))
  go_wp2
  go_loopw [5, 7] (fun out i wr => ∃ t : Nat, t ≤ us.length ∧ i = .int .i64 t ∧ Below w1.heap.size w1 wr ∧ OutE strF 9 B w1.heap.size wr out (onceL (nameP xs) xs (us.take t))) (fun _ i _ => us.length - (intOf i).toNat)
  case atStart => exact ⟨0, Nat.zero_le _, rfl, Below.refl _ _, hOE⟩
  case round =>
    obtain ⟨t, ht, rfl, hb, hO⟩ := hrel
    have hsz := hb.size
    by_cases htl : t < us.length
    · obtain ⟨ub, uoff, rfl, _, _, uc0⟩ := (HUR.out wr hb).intAt htl
      have hti : (t : Int) < (us.length : Int) := by omega
      have htz : (0 : Int) ≤ (t : Int) := by omega
      have hm := HMM.out _ (List.getElem_mem htl)
      have hge : us.getD t 0 = us[t] := by rw [List.getD_eq_getElem?_getD, List.getElem?_eq_getElem htl]; rfl
      rw [hge] at uc0
      have HY := Lib.hid (fun h => onceL_yes (p := nameP xs) (xs := xs) htl h)
      have HN := Lib.hid (fun h => onceL_no (p := nameP xs) (xs := xs) htl h)
      have hol0 := onceL_len (nameP xs) xs us t ht
      have hlen := HLE.out
      obtain ⟨y, hy⟩ : ∃ y : Nat, us[t] = (y : Int) := ⟨us[t].toNat, by omega⟩
      rw [hy] at uc0 hm HY HN
      have hyl : y < xs.length := by omega
      have hyi : (y : Int) < (xs.length : Int) := by omega
      have hyz : (0 : Int) ≤ (y : Int) := by omega
      obtain ⟨b, off, ya, yc, eb, _, _, q0, q1, q2, q3, _⟩ := rd_nodeAt (HNR.out wr hb) hyl
      subst eb
      have HX : Hid (nd xs (y : Int) = xs[y]) := nd_at hyl
      have HP : Hid ((nameP xs) (y : Int) = (xs[y].kind == 1)) := by show nameP xs (y : Int) = _; unfold nameP; rw [HX.out]
      rw [HX.out] at HY
      clear hge hy hm
      generalize xs[y] = z at *
      obtain ⟨zk, zt, zs, zb⟩ := z
      simp only at q0 q1 q2 q3 HP HY
      obtain ⟨ol, hol⟩ : ∃ ol, Hid (onceL (nameP xs) xs (us.take t) = ol) := ⟨_, rfl⟩
      rw [hol.out] at HY HN hO hol0
      cases g : (zk == 1) with
      | true =>
        have HR1 := Lib.hid (HY.out (by rw [HP.out]; exact g))
        go_wp2_with fail
        refine (l22Add_any ol _ zt B w1.heap.size _ hO hBC hsz (by omega)).mono ?_
        rintro e w2 ⟨u2, rfl, hb2, hO2⟩
        go_wp2
        go_roundw
        case rel => exact ⟨t + 1, by omega, by go_num, hb.trans hb2, by rw [HR1.out]; exact hO2⟩
        case measure => simp [intOf]; omega
      | false =>
        have HR1 := Lib.hid (HN.out (by rw [HP.out]; exact g))
        go_wp2
        go_roundw
        case rel => exact ⟨t + 1, by omega, by go_num, hb, by rw [HR1.out]; exact hO⟩
        case measure => simp [intOf]; omega
    · have hti : ¬ (t : Int) < (us.length : Int) := by omega
      have HF : Hid (namesIn xs k = onceL (nameP xs) xs (us.take t)) := by show _ = _; rw [HDF.out, List.take_of_length_le (by omega)]
      go_wp2
      go_ret
      have e := HB.out
      subst e
      exact ⟨_, rfl, hbW1.trans (hb.mono hsW1), by rw [HF.out]; exact hO.own hBC hsz⟩
end Go.Proofs.YtiakdbcmppeniaaGreatDoor
