/- NodeOk of the program. -/
import Derived.Test.YtoloplpmjcgbdaaGreatDoorNodeI4
namespace Go.Proofs.YtoloplpmjcgbdaaGreatDoor
open Go.RowKit

theorem hiK_le (kind : Int) : hiK kind ≤ 12 := by
  unfold hiK
  split
  · exact Nat.le_refl _
  · split
    · decide
    · split
      · decide
      · split <;> decide
def kindsOf (xs : List Node) (x : Node) : List Int := x.kids.map fun kid => (nd xs kid).kind
theorem kindsOf_len (xs : List Node) (x : Node) : (kindsOf xs x).length = x.kids.length := List.length_map ..
theorem kindsOf_at {xs : List Node} {x : Node} {i : Nat} (h : i < x.kids.length) : (kindsOf xs x).getD i 0 = (nd xs (kd x i)).kind := by
  unfold kindsOf
  rw [kd_at h, List.getD_eq_getElem?_getD, List.getElem?_map, List.getElem?_eq_getElem h]; rfl
/-- the first m kids lie below k, no two alike -/
def KidsOk (k : Int) (x : Node) (m : Nat) : Prop := ∀ i, i < m → (0 ≤ kd x i ∧ kd x i < k) ∧ ∀ j, j < i → kd x j ≠ kd x i
theorem good_of {xs : List Node} {k : Int} {x : Node} (hx : nd xs k = x) (h0 : 0 ≤ k) (h1 : k < xs.length) (ht : textOk x.kind x.text = true) (hl : x.kids.length ≤ 12) (hk : KidsOk k x x.kids.length)
    (hf : kFit x.kind (kindsOf xs x) = true) (hc : CallsI xs x x.kids.length) (hb : (isStp x.kind || isMem x.kind || x.kind == 21) = true ∨ x.blank = false) : Good xs k := by
  rw [kFit_iff _ _ (by rw [kindsOf_len]; exact hl), kindsOf_len] at hf
  have hfit : ∀ i, i < x.kids.length → fit1 x.kind x.kids.length i (nd xs (kd x i)).kind = true := fun i hi => by rw [← kindsOf_at hi]; exact hf.2.2 i hi
  constructor
  · exact h0
  · exact h1
  · rw [hx]; exact hf.1
  · rw [hx]; exact ht
  · rw [hx]; exact hb
  · rw [hx]; exact hf.2.1
  · rw [hx]; exact fun i hi => (hk i hi).1
  · rw [hx]; exact fun i j hij hj => (hk j hj).2 i hij
  · rw [hx]; exact fun i hi h5 => (hc i hi h5).1
  · rw [hx]; exact hfit
  · rw [hx]
    intro h10 i hi hil
    have := hfit i hil
    rw [h10] at this
    have h5 : (nd xs (kd x i)).kind = 5 := by
      unfold fit1 at this
      rw [if_neg (by decide), if_neg (by decide), if_pos rfl, if_pos hi] at this
      simpa using this
    exact (hc i hil h5).2 h10 hi
theorem good_fit {xs : List Node} {k : Int} {x : Node} (hx : nd xs k = x) (g : Good xs k) : x.kids.length ≤ 12 ∧ kFit x.kind (kindsOf xs x) = true := by
  have h1 := g.count
  have h2 := g.kind
  have h3 := g.fits
  rw [hx] at h1 h2 h3
  have h4 := hiK_le x.kind
  refine ⟨by omega, ?_⟩
  rw [kFit_iff _ _ (by rw [kindsOf_len]; omega), kindsOf_len]
  exact ⟨h2, h1, fun i hi => by rw [kindsOf_at hi]; exact h3 i hi⟩
theorem good_kids {xs : List Node} {k : Int} {x : Node} (hx : nd xs k = x) (g : Good xs k) : KidsOk k x x.kids.length := by
  have h1 := g.below
  have h2 := g.apart
  rw [hx] at h1 h2
  exact fun i hi => ⟨h1 i hi, fun j hj => h2 j i hj hi⟩
theorem good_calls {xs : List Node} {k : Int} {x : Node} (hx : nd xs k = x) (g : Good xs k) : CallsI xs x x.kids.length := by
  have h1 := g.calls
  have h2 := g.names
  rw [hx] at h1 h2
  exact fun i hi h5 => ⟨h1 i hi h5, fun h10 h0 => h2 h10 i h0 hi⟩
theorem kidsOk_succ {k : Int} {x : Node} {m : Nat} (h : KidsOk k x m) (h0 : 0 ≤ kd x m ∧ kd x m < k) (h1 : ∀ j, j < m → kd x j ≠ kd x m) : KidsOk k x (m + 1) := by
  intro i hi
  by_cases e : i = m
  · subst e; exact ⟨h0, h1⟩
  · exact h i (by omega)
theorem contains_iff {x : Node} {m : Nat} (hm : m < x.kids.length) : (x.kids.take m).contains (kd x m) = true ↔ ∃ j, j < m ∧ kd x j = kd x m := by
  rw [List.contains_iff_mem, List.mem_iff_getElem?]
  constructor
  · rintro ⟨j, hj⟩
    have hjm : j < m := by
      rcases Nat.lt_or_ge j m with h | h
      · exact h
      · rw [List.getElem?_eq_none (by rw [List.length_take]; omega)] at hj; cases hj
    rw [List.getElem?_take_of_lt hjm, List.getElem?_eq_getElem (by omega)] at hj
    exact ⟨j, hjm, by rw [kd_at (by omega)]; exact Option.some.inj hj⟩
  · rintro ⟨j, hj, e⟩
    exact ⟨j, by rw [List.getElem?_take_of_lt hj, List.getElem?_eq_getElem (by omega), ← e, kd_at (by omega)]⟩
theorem kinds_succ {xs : List Node} {x : Node} {m : Nat} (hm : m < x.kids.length) : ((kindsOf xs x).take (m + 1)) = (kindsOf xs x).take m ++ [(nd xs (kd x m)).kind] := by
  have h := kindsOf_at (xs := xs) hm
  rw [List.getD_eq_getElem?_getD, List.getElem?_eq_getElem (by rw [kindsOf_len]; exact hm)] at h
  rw [List.take_succ_eq_append_getElem (by rw [kindsOf_len]; exact hm)]
  rw [← h]; rfl
/-- a slice of integers reads cell by cell -/
theorem Rd.cellsAt {lo hi n c : Nat} {w : World} {b off : Nat} {ks : List Int} (h : Rd intS lo hi w (.slice (some ⟨b, off, none⟩) n c) ks) : ∀ j, j < ks.length → w.cell? ⟨b, off + j, none⟩ = some (.int .i64 (ks.getD j 0)) := by
  intro j hj
  obtain ⟨b', off', e, _, _, hc⟩ := h.intAt hj
  injection e with e
  injection e with e1 e2
  subst e1; subst e2
  exact hc
theorem Tryz.infoInt1 : (Tryz.prog.info? 3).map (fun i => (i.zero, i.size, i.bytes)) = some (some (.int .i64 0), 1, 8) := by kernel_rfl
set_option maxHeartbeats 8000000 in
set_option maxRecDepth 100000 in
theorem nodeOk_impl (xs : List Node) (v : Value) (lo hi : Nat) (k : Int) (w : World) (hr : Rd nodeS lo hi w v xs) (hh : hi ≤ w.heap.size) (hs : ∀ x ∈ xs, x.text.size ≤ 4611686018427387904) :
    Calls Tryz.prog 69 #[v, .int .i64 k] w fun e w' => e = .returned (.bool (nodeOk xs k)) ∧ Below w.heap.size w w' := by
  obtain ⟨a, c, rfl, h2, h3, h4, h5⟩ := hr.nodeS
  unfold maxLen at h3
  obtain ⟨i0, hi0, hz0, hz1, hz2⟩ := info_parts Tryz.infoInt1
  by_cases hin : 0 ≤ k ∧ k < xs.length
  · have hN := Lib.hid (isNode_any k a xs.length c w (by omega))
    rw [decide_eq_true hin.1, decide_eq_true hin.2] at hN
    obtain ⟨m, rfl⟩ : ∃ m : Nat, k = (m : Int) := ⟨k.toNat, by omega⟩
    have hml : m < xs.length := by omega
    have hmi : (m : Int) < (xs.length : Int) := by omega
    have hmz : (0 : Int) ≤ (m : Int) := by omega
    obtain ⟨b, off, ka, kc, rfl, hlo, hhi, d0, d1, d2, d3, hk⟩ := h5 m hml
    have hsx := hs _ (List.getElem_mem hml)
    have HX : Hid (nd xs (m : Int) = xs[m]) := nd_at hml
    have HR := Lib.hid hr
    have H5 := Lib.hid h5
    clear h5 hr hin hs
    generalize xs[m] = x at *
    obtain ⟨_, hkl, hkc⟩ := hk.lenEq
    have hgt := Lib.hid (fun (g : Good xs m) => (by have := g.text; rw [HX.out] at this; exact this : textOk x.kind x.text = true))
    have hgf := Lib.hid (good_fit HX.out)
    have hgk := Lib.hid (good_kids HX.out)
    have hgc := Lib.hid (good_calls HX.out)
    have hgb := Lib.hid (fun (g : Good xs m) => (by have := g.blank; rw [HX.out] at this; exact this : (isStp x.kind || isMem x.kind || x.kind == 21) = true ∨ x.blank = false))
    have hgo := Lib.hid (good_of (x := x) HX.out hmz hmi)
    obtain ⟨kind, text, kids, blank⟩ := x
    simp only at d0 d1 d2 d3 hk hsx hkl hkc
    go_enter Tryz.func69, Tryz.ntmps69
    go_wp2_with fail
    refine hN.out.mono ?_
    rintro e w' ⟨rfl, hw⟩
    subst hw
    by_cases h12 : 12 < kids.length
    · have h12i : (12 : Int) < (kids.length : Int) := by omega
      have HF := Lib.hid (nodeOk_no (xs := xs) (k := m) (fun g => by have h : kids.length ≤ 12 := (hgf.out g).1; omega))
      go_wp2
      go_ret
      exact ⟨ret_bool HF.out.symm, (Below.refl _ _).alloc (Nat.le_refl _) _⟩
    · have h12i : ¬ (12 : Int) < (kids.length : Int) := by omega
      go_wp2_with fail
      generalize hX : Obj.cells #[Value.int IntKind.i64 kind, Value.string text, Value.slice ka kids.length kc, Value.bool blank] 38 = X
      have hbX : Below w.heap.size w (w.alloc X) := (Below.refl _ _).alloc (Nat.le_refl _) _
      have hsX : (w.alloc X).heap.size = w.heap.size + 1 := by simp
      have x0 : (w.alloc X).cell? ⟨w.heap.size, 0, none⟩ = some (.int .i64 kind) := by rw [← hX]; exact cell_heap (j := 0) (heap_alloc_new w _) rfl
      have x1 : (w.alloc X).cell? ⟨w.heap.size, 1, none⟩ = some (.string text) := by rw [← hX]; exact cell_heap (j := 1) (heap_alloc_new w _) rfl
      have x2 : (w.alloc X).cell? ⟨w.heap.size, 2, none⟩ = some (.slice ka kids.length kc) := by rw [← hX]; exact cell_heap (j := 2) (heap_alloc_new w _) rfl
      have x3 : (w.alloc X).cell? ⟨w.heap.size, 3, none⟩ = some (.bool blank) := by rw [← hX]; exact cell_heap (j := 3) (heap_alloc_new w _) rfl
      generalize w.alloc X = w0 at *
      clear hX
      refine (textFits_any kind text _ blank _ (by omega)).mono ?_
      rintro e w1 ⟨rfl, hb1⟩
      have hs1 := hb1.size
      have hbW1 : Below w.heap.size w w1 := hbX.trans (hb1.mono (by omega))
      replace x0 := (hb1.cell (p := ⟨w.heap.size, 0, none⟩) (by show w.heap.size < _; omega)).trans x0
      replace x1 := (hb1.cell (p := ⟨w.heap.size, 1, none⟩) (by show w.heap.size < _; omega)).trans x1
      replace x2 := (hb1.cell (p := ⟨w.heap.size, 2, none⟩) (by show w.heap.size < _; omega)).trans x2
      replace x3 := (hb1.cell (p := ⟨w.heap.size, 3, none⟩) (by show w.heap.size < _; omega)).trans x3
      cases ht : textOk kind text with
      | false =>
        have HF := Lib.hid (nodeOk_no (xs := xs) (k := m) (fun g => by have := hgt.out g; rw [ht] at this; cases this))
        go_wp2
        go_ret
        exact ⟨ret_bool HF.out.symm, hbW1⟩
      | true =>
        have HT := Lib.hid ht
        clear ht
        have hkd : ∀ i, kd (⟨kind, text, kids, blank⟩ : Node) i = kids.getD i 0 := fun i => rfl
        have HKD := Lib.hid hkd
        clear hkd
        generalize hB : w1.heap.size = B at *
        go_wp2
        go_loopw [6, 30] (fun kv i wr => ∃ j : Nat, j ≤ kids.length ∧ i = .int .i64 j ∧ Hid (KidsOk m ⟨kind, text, kids, blank⟩ j) ∧ Below B w1 wr ∧ Own intF 3 B wr.heap.size wr kv ((kindsOf xs ⟨kind, text, kids, blank⟩).take j)) (fun _ i _ => kids.length - (intOf i).toNat)
        case atStart => exact ⟨0, Nat.zero_le _, rfl, (fun i hi => absurd hi (Nat.not_lt_zero _)), Below.refl _ _, Own.nil _ _ _ _ _⟩
        case round =>
          obtain ⟨j, hj, rfl, HA, hbr, hO⟩ := hrel
          have hsr := hbr.size
          have hbW : Below w.heap.size w wr := hbW1.trans (hbr.mono (by omega))
          have y0 := (hbr.cell (p := ⟨w.heap.size, 0, none⟩) (by show w.heap.size < _; omega)).trans x0
          have y1 := (hbr.cell (p := ⟨w.heap.size, 1, none⟩) (by show w.heap.size < _; omega)).trans x1
          have y2 := (hbr.cell (p := ⟨w.heap.size, 2, none⟩) (by show w.heap.size < _; omega)).trans x2
          have y3 := (hbr.cell (p := ⟨w.heap.size, 3, none⟩) (by show w.heap.size < _; omega)).trans x3
          by_cases hlt : j < kids.length
          · obtain ⟨kb, koff, rfl, _, khi, kc0⟩ := hk.intAt hlt
            have hkr := hk.below hbW hh
            have kc1 := (hbW.cell (p := ⟨kb, koff + j, none⟩) (by show kb < _; omega)).trans kc0
            have hji : (j : Int) < (kids.length : Int) := by omega
            have hjz : (0 : Int) ≤ (j : Int) := by omega
            have hjc : (j : Int) ≤ (kc : Int) := by omega
            clear kc0
            have HNK := Lib.hid (fun (g : Good xs m) => hgk.out g j hlt)
            have HSK := Lib.hid (kidsOk_succ HA.out)
            have HCI := Lib.hid (contains_iff (x := ⟨kind, text, kids, blank⟩) hlt)
            have HKS := Lib.hid (kinds_succ (xs := xs) (x := ⟨kind, text, kids, blank⟩) hlt)
            rw [HKD.out j] at HNK HSK HCI HKS
            generalize kids.getD j 0 = kid at *
            by_cases hneg : kid < 0
            · have HF := Lib.hid (nodeOk_no (xs := xs) (k := m) (fun g => by have := (HNK.out g).1.1; omega))
              go_wp2
              go_ret
              exact ⟨ret_bool HF.out.symm, hbW⟩
            by_cases hbig : (m : Int) ≤ kid
            · have HF := Lib.hid (nodeOk_no (xs := xs) (k := m) (fun g => by have := (HNK.out g).1.2; omega))
              go_wp2
              go_ret
              exact ⟨ret_bool HF.out.symm, hbW⟩
            have hc := Lib.hid (Tryz.slices_Contains_int kb koff j kc kids kid wr (by omega) (by omega) hkr.cellsAt)
            go_wp2_with fail
            refine hc.out.mono ?_
            rintro e w' ⟨rfl, hw⟩
            replace hw := hw.symm
            subst hw
            clear hc
            cases hcon : (kids.take j).contains kid with
            | true =>
              have HF := Lib.hid (nodeOk_no (xs := xs) (k := m) (fun g => by
                obtain ⟨q, hq, e⟩ := HCI.out.1 hcon
                exact (HNK.out g).2 q hq e))
              go_wp2
              go_ret
              exact ⟨ret_bool HF.out.symm, hbW⟩
            | false =>
              have HKK := Lib.hid (HSK.out ⟨by omega, by omega⟩ (fun q hq e => by
                have := HCI.out.2 ⟨q, hq, e⟩
                rw [hcon] at this; cases this))
              clear hcon HCI HNK HSK
              obtain ⟨q, hq⟩ : ∃ q : Nat, kid = (q : Int) := ⟨kid.toNat, by omega⟩
              subst hq
              have hql : q < xs.length := by omega
              have hqi : (q : Int) < (xs.length : Int) := by omega
              have hqz : (0 : Int) ≤ (q : Int) := by omega
              obtain ⟨b', off', ya, yc, eb, _, _, q0, _⟩ := H5.out q hql
              injection eb with eb
              injection eb with e1 e2
              subst e1; subst e2
              have qc := (hbW.cell (p := ⟨b, _, none⟩) (by show b < _; omega)).trans q0
              rw [nd_at hql] at HKS
              clear q0
              have hkl9 : ((kindsOf xs ⟨kind, text, kids, blank⟩).take j).length = j := by rw [List.length_take, kindsOf_len]; show min j kids.length = j; omega
              generalize xs[q] = z at *
              go_wp2_with (at_builtin; refine wp_app1 (F := intF) (P := Tryz.prog) (y := z.kind) rfl (.tmp 50) (.tmp 56) 34 rfl Tryz.underlying34 hi0 hz0 hz1 hz2 rfl (by decide) rfl (hO.alloc _) wr.heap.size rfl (heap_alloc_new _ _) rfl (by rw [hkl9]; omega) (by rw [hkl9]; omega) (by simp; omega) ?_; intro v' w' hO' hb')
              go_roundw
              case rel => exact ⟨j + 1, by omega, by go_num, HKK.out, hbr.trans (blw_al1 hb' (by omega)), (by rw [HKS.out]; exact hO')⟩
              case measure => simp [intOf]; omega
          · have ej : j = kids.length := by omega
            have HK1 : Hid (KidsOk m ⟨kind, text, kids, blank⟩ kids.length) := by have e := HA.out; rwa [ej] at e
            rw [ej, List.take_of_length_le (show (kindsOf xs ⟨kind, text, kids, blank⟩).length ≤ kids.length from Nat.le_of_eq (kindsOf_len _ _))] at hO
            have hrd := hO.rd
            have hkr := hk.below hbW hh
            have hbk : Hid (∀ i, i < kids.length → 0 ≤ kd (⟨kind, text, kids, blank⟩ : Node) i ∧ kd (⟨kind, text, kids, blank⟩ : Node) i < xs.length) := fun i hi => by have := (HK1.out i hi).1; omega
            clear ej HA hO HKD
            obtain ⟨a2, c2, rfl⟩ := hrd.sl
            go_wp2_with fail
            refine (isStep_any kind _).mono ?_
            rintro e w' ⟨rfl, hw⟩
            subst hw
            cases hd1 : isStp kind with
            | true =>
              have hmb := Lib.hid (show (isStp kind || isMem kind || kind == 21) = true by rw [hd1]; rfl)
              clear hd1
              go_wp2_with fail
              refine (kindsFit_any kind _ _ _ _ _ hrd).mono ?_
              rintro e w' ⟨rfl, hw⟩
              subst hw
              cases hkf : kFit kind (kindsOf xs ⟨kind, text, kids, blank⟩) with
              | false =>
                have HF := Lib.hid (nodeOk_no (xs := xs) (k := m) (fun g => by have h : kFit kind (kindsOf xs ⟨kind, text, kids, blank⟩) = true := (hgf.out g).2; rw [hkf] at h; cases h))
                go_wp2
                go_ret
                exact ⟨ret_bool HF.out.symm, hbW⟩
              | true =>
                have HKF := Lib.hid hkf
                clear hkf
                go_wp2_with fail
                refine (callsFit_any xs _ lo hi ⟨kind, text, kids, blank⟩ ka kc lo hi wr (HR.out.below hbW hh) (by omega) hkr (by omega) hbk.out).mono ?_
                rintro e w2 ⟨⟨q, rfl, hq⟩, hb2⟩
                have z3 := (hb2.cell (p := ⟨w.heap.size, 3, none⟩) (by show w.heap.size < _; omega)).trans y3
                have HB2 : Below w.heap.size w w2 := hbW.trans (hb2.mono (by omega))
                have HQ := Lib.hid hq
                clear hq y0 y1 y2 y3
                cases q with
                | false =>
                  have HF := Lib.hid (nodeOk_no (xs := xs) (k := m) (fun g => by have := HQ.out.2 (hgc.out g); cases this))
                  go_wp2
                  go_ret
                  exact ⟨ret_bool HF.out.symm, HB2⟩
                | true =>
                  have HF := Lib.hid (nodeOk_iff.2 (hgo.out HT.out (by show kids.length ≤ 12; omega) HK1.out HKF.out (HQ.out.1 rfl) (.inl hmb.out)))
                  go_wp2
                  go_ret
                  exact ⟨ret_bool HF.out.symm, HB2⟩
            | false =>
            go_wp2_with fail
            refine (isMember_any kind _).mono ?_
            rintro e w' ⟨rfl, hw⟩
            subst hw
            cases hd2 : isMem kind with
            | true =>
              have hmb := Lib.hid (show (isStp kind || isMem kind || kind == 21) = true by rw [hd1, hd2]; rfl)
              clear hd1 hd2
              go_wp2_with fail
              refine (kindsFit_any kind _ _ _ _ _ hrd).mono ?_
              rintro e w' ⟨rfl, hw⟩
              subst hw
              cases hkf : kFit kind (kindsOf xs ⟨kind, text, kids, blank⟩) with
              | false =>
                have HF := Lib.hid (nodeOk_no (xs := xs) (k := m) (fun g => by have h : kFit kind (kindsOf xs ⟨kind, text, kids, blank⟩) = true := (hgf.out g).2; rw [hkf] at h; cases h))
                go_wp2
                go_ret
                exact ⟨ret_bool HF.out.symm, hbW⟩
              | true =>
                have HKF := Lib.hid hkf
                clear hkf
                go_wp2_with fail
                refine (callsFit_any xs _ lo hi ⟨kind, text, kids, blank⟩ ka kc lo hi wr (HR.out.below hbW hh) (by omega) hkr (by omega) hbk.out).mono ?_
                rintro e w2 ⟨⟨q, rfl, hq⟩, hb2⟩
                have z3 := (hb2.cell (p := ⟨w.heap.size, 3, none⟩) (by show w.heap.size < _; omega)).trans y3
                have HB2 : Below w.heap.size w w2 := hbW.trans (hb2.mono (by omega))
                have HQ := Lib.hid hq
                clear hq y0 y1 y2 y3
                cases q with
                | false =>
                  have HF := Lib.hid (nodeOk_no (xs := xs) (k := m) (fun g => by have := HQ.out.2 (hgc.out g); cases this))
                  go_wp2
                  go_ret
                  exact ⟨ret_bool HF.out.symm, HB2⟩
                | true =>
                  have HF := Lib.hid (nodeOk_iff.2 (hgo.out HT.out (by show kids.length ≤ 12; omega) HK1.out HKF.out (HQ.out.1 rfl) (.inl hmb.out)))
                  go_wp2
                  go_ret
                  exact ⟨ret_bool HF.out.symm, HB2⟩
            | false =>
            cases hd3 : (kind == 21) with
            | true =>
              have hmb := Lib.hid (show (isStp kind || isMem kind || kind == 21) = true by rw [hd1, hd2, hd3]; rfl)
              clear hd1 hd2
              go_wp2_with fail
              refine (kindsFit_any kind _ _ _ _ _ hrd).mono ?_
              rintro e w' ⟨rfl, hw⟩
              subst hw
              cases hkf : kFit kind (kindsOf xs ⟨kind, text, kids, blank⟩) with
              | false =>
                have HF := Lib.hid (nodeOk_no (xs := xs) (k := m) (fun g => by have h : kFit kind (kindsOf xs ⟨kind, text, kids, blank⟩) = true := (hgf.out g).2; rw [hkf] at h; cases h))
                go_wp2
                go_ret
                exact ⟨ret_bool HF.out.symm, hbW⟩
              | true =>
                have HKF := Lib.hid hkf
                clear hkf
                go_wp2_with fail
                refine (callsFit_any xs _ lo hi ⟨kind, text, kids, blank⟩ ka kc lo hi wr (HR.out.below hbW hh) (by omega) hkr (by omega) hbk.out).mono ?_
                rintro e w2 ⟨⟨q, rfl, hq⟩, hb2⟩
                have z3 := (hb2.cell (p := ⟨w.heap.size, 3, none⟩) (by show w.heap.size < _; omega)).trans y3
                have HB2 : Below w.heap.size w w2 := hbW.trans (hb2.mono (by omega))
                have HQ := Lib.hid hq
                clear hq y0 y1 y2 y3
                cases q with
                | false =>
                  have HF := Lib.hid (nodeOk_no (xs := xs) (k := m) (fun g => by have := HQ.out.2 (hgc.out g); cases this))
                  go_wp2
                  go_ret
                  exact ⟨ret_bool HF.out.symm, HB2⟩
                | true =>
                  have HF := Lib.hid (nodeOk_iff.2 (hgo.out HT.out (by show kids.length ≤ 12; omega) HK1.out HKF.out (HQ.out.1 rfl) (.inl hmb.out)))
                  go_wp2
                  go_ret
                  exact ⟨ret_bool HF.out.symm, HB2⟩
            | false =>
              have hmb := Lib.hid (show (isStp kind || isMem kind || kind == 21) = false by rw [hd1, hd2, hd3]; rfl)
              clear hd1 hd2
              go_wp2_with fail
              refine (kindsFit_any kind _ _ _ _ _ hrd).mono ?_
              rintro e w' ⟨rfl, hw⟩
              subst hw
              cases hkf : kFit kind (kindsOf xs ⟨kind, text, kids, blank⟩) with
              | false =>
                have HF := Lib.hid (nodeOk_no (xs := xs) (k := m) (fun g => by have h : kFit kind (kindsOf xs ⟨kind, text, kids, blank⟩) = true := (hgf.out g).2; rw [hkf] at h; cases h))
                go_wp2
                go_ret
                exact ⟨ret_bool HF.out.symm, hbW⟩
              | true =>
                have HKF := Lib.hid hkf
                clear hkf
                go_wp2_with fail
                refine (callsFit_any xs _ lo hi ⟨kind, text, kids, blank⟩ ka kc lo hi wr (HR.out.below hbW hh) (by omega) hkr (by omega) hbk.out).mono ?_
                rintro e w2 ⟨⟨q, rfl, hq⟩, hb2⟩
                have z3 := (hb2.cell (p := ⟨w.heap.size, 3, none⟩) (by show w.heap.size < _; omega)).trans y3
                have HB2 : Below w.heap.size w w2 := hbW.trans (hb2.mono (by omega))
                have HQ := Lib.hid hq
                clear hq y0 y1 y2 y3
                cases q with
                | false =>
                  have HF := Lib.hid (nodeOk_no (xs := xs) (k := m) (fun g => by have := HQ.out.2 (hgc.out g); cases this))
                  go_wp2
                  go_ret
                  exact ⟨ret_bool HF.out.symm, HB2⟩
                | true =>
                  cases blank with
                  | false =>
                    have HF := Lib.hid (nodeOk_iff.2 (hgo.out HT.out (by show kids.length ≤ 12; omega) HK1.out HKF.out (HQ.out.1 rfl) (.inr rfl)))
                    go_wp2
                    go_ret
                    exact ⟨ret_bool HF.out.symm, HB2⟩
                  | true =>
                    have HF := Lib.hid (nodeOk_no (xs := xs) (k := m) (fun g => by
                      have h : (isStp kind || isMem kind || kind == 21) = true ∨ true = false := hgb.out g
                      rw [hmb.out] at h; simp at h))
                    go_wp2
                    go_ret
                    exact ⟨ret_bool HF.out.symm, HB2⟩
  · have hN := Lib.hid (isNode_any k a xs.length c w (by omega))
    rw [show (decide (0 ≤ k) && decide (k < (xs.length : Int))) = false by
      rw [Bool.eq_false_iff]; intro h; rw [Bool.and_eq_true, decide_eq_true_iff, decide_eq_true_iff] at h; exact hin h] at hN
    have HF := Lib.hid (nodeOk_no (xs := xs) (k := k) (fun g => hin ⟨g.low, g.high⟩))
    go_enter Tryz.func69, Tryz.ntmps69
    go_wp2_with fail
    refine hN.out.mono ?_
    rintro e w' ⟨rfl, rfl⟩
    go_wp2
    go_ret
    exact ⟨ret_bool HF.out.symm, Below.refl _ _⟩
end Go.Proofs.YtoloplpmjcgbdaaGreatDoor
