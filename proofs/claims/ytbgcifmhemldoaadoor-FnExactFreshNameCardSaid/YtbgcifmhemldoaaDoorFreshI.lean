/- FreshName of the program: a closure in a closure, and the library's decimal. -/
import Derived.Test.YtbgcifmhemldoaaDoorFresh
namespace Go.Proofs.YtbgcifmhemldoaaDoor
open Go.RowKit

theorem below_grow (w : World) (k : Nat) (os : Array Obj) : Below w.heap.size w (Sort.grow (w.drewN k) os) := by
  refine ⟨rfl, rfl, rfl, ?_, fun j hj => ?_⟩
  · show w.heap.size ≤ (w.heap ++ os).size
    rw [Array.size_append]; omega
  · exact Sort.heap_grow_old (w.drewN k) os hj
theorem tab_below {P : Program} {w w' : World} {name : String} {k : IntKind} {zs : List Int} (h : Lib.TabIs P w name k zs) (hb : Below w.heap.size w w') : Lib.TabIs P w' name k zs := by
  unfold Lib.TabIs World.var? at *
  cases hg : P.globalNamed name with
  | none => rw [hg] at h; cases h
  | some g =>
    rw [hg] at h
    have h' : (match w.heap[g]? with | some (.cells cs _ _) => some cs | _ => none) = some (zs.map fun z => Value.int k z).toArray := h
    have hlt : g < w.heap.size := by
      by_cases e : g < w.heap.size
      · exact e
      · rw [Array.getElem?_eq_none (by omega)] at h'
        cases h'
    show (match w'.heap[g]? with | some (.cells cs _ _) => some cs | _ => none) = _
    rw [hb.block g hlt]
    exact h'
set_option maxHeartbeats 400000 in
set_option maxRecDepth 100000 in
theorem decimal_impl (n : Nat) (w : World) (h2 : n ≤ 4194304) (ht : Lib.TabIs Tryd.prog w "internal/strconv.uint64pow10" .u64 Lib.pow10Tab) :
    Calls Tryd.prog 23 #[.int .i64 n] w fun e w' => e = .returned (.string (decB n)) ∧ Below w.heap.size w w' := by
  have HT := Lib.hid ht
  clear ht
  go_enter Tryd.func23, Tryd.ntmps23
  go_wp2_with fail
  refine (Tryd.strconv_Itoa n (by omega) (by omega) w HT.out).mono ?_
  rintro e w' ⟨rfl, k, os, rfl⟩
  have HB := Lib.hid (below_grow w k os)
  rw [Lib.itoa_nonneg]
  generalize Sort.grow (w.drewN k) os = w1 at *
  go_wp2
  go_ret
  exact ⟨rfl, HB.out⟩
/-- the innermost function: whether a node has the text that lies at h -/
theorem same1_any (k : Int) (t s : ByteArray) (a : Option Addr) (n c : Nat) (bl : Bool) (h : Nat) (w : World) (hc : w.cell? ⟨h, 0, none⟩ = some (.string s)) :
    Calls Tryd.prog 22 #[.agg #[.int .i64 k, .string t, .slice a n c, .bool bl], .pointer (some ⟨h, 0, none⟩)] w fun e w' => e = .returned (.bool (t.toList == s.toList)) ∧ Below w.heap.size w w' := by
  have hd := ((Below.refl w.heap.size w).alloc (Nat.le_refl _) (.cells #[.int .i64 k, .string t, .slice a n c, .bool bl] 40))
  have hc2 := (hd.cell (p := ⟨h, 0, none⟩) (World.block_lt_of_cell? w _ hc)).trans hc
  go_enter Tryd.func22, Tryd.ntmps22
  go_wp2
  go_ret
  exact ⟨rfl, hd⟩
theorem enter_same (args : Array Value) (w : World) : Sem.run Tryd.prog (callFunc 22 args) w = .ok (.enter 22 args) w :=
  enter_go Tryd.func22 (by kernel_rfl) (by rfl) args w
theorem enter_has (args : Array Value) (w : World) : Sem.run Tryd.prog (callFunc 20 args) w = .ok (.enter 20 args) w :=
  enter_go Tryd.func20 (by kernel_rfl) (by rfl) args w
def IdxRet (xs : List Node) (s : ByteArray) (B : Nat) (w : World) (e : Ending) (w' : World) : Prop := ∃ n : Int, e = .returned (.int .i64 n) ∧ decide (n ≥ 0) = hasText xs s ∧ Below B w w'
set_option maxHeartbeats 1000000 in
set_option maxRecDepth 100000 in
theorem indexFunc_any (xs : List Node) (v : Value) (lo hi h : Nat) (s : ByteArray) (w : World) (hr : Rd nodeS lo hi w v xs) (hh : hi ≤ w.heap.size) (hc : w.cell? ⟨h, 0, none⟩ = some (.string s)) (hl : xs.length ≤ 1048576) :
    Calls Tryd.prog 43 #[v, .func (.func 22) #[] #[.pointer (some ⟨h, 0, none⟩)]] w (IdxRet xs s w.heap.size w) := by
  obtain ⟨a, c, rfl⟩ := hr.sl
  obtain ⟨_, h2, h3⟩ := hr.lenEq
  have hxl : (xs.length : Int) ≤ 9223372036854775807 := by omega
  have HR := Lib.hid (fun w4 (h4 : Below w.heap.size w w4) => hr.below h4 hh)
  have HC := Lib.hid (fun w4 (h4 : Below w.heap.size w w4) => (h4.cell (p := ⟨h, 0, none⟩) (World.block_lt_of_cell? w _ hc)).trans hc)
  clear hc
  have hen := enter_same
  go_enter Tryd.func43, Tryd.ntmps43
  go_wp2
  go_loopw [8] (fun i wr => ∃ k : Nat, k ≤ xs.length ∧ i = .int .i64 k ∧ Hid (hasText (xs.take k) s = false) ∧ Below w.heap.size w wr) (fun i _ => xs.length - (intOf i).toNat)
  case atStart => exact ⟨0, Nat.zero_le _, rfl, rfl, Below.refl _ _⟩
  case round =>
    obtain ⟨k, hk, rfl, HA, hb⟩ := hrel
    have hsz := hb.size
    by_cases hlt : k < xs.length
    · have hki : (k : Int) < (xs.length : Int) := by omega
      have hkz : (0 : Int) ≤ (k : Int) := by omega
      obtain ⟨b, off, xa, xc, eb, _, hbb, p0, p1, p2, p3, _⟩ := rd_nodeAt (HR.out wr hb) hlt
      subst eb
      have hst : hasText (xs.take (k + 1)) s = (hasText (xs.take k) s || xs[k].text.toList == s.toList) := anyT_succ hlt
      have hso : (xs[k].text.toList == s.toList) = true → hasText xs s = true := fun h => hasText_some hlt (by rw [nd_at hlt]; exact h)
      have HST := Lib.hid hst
      have HSO := Lib.hid hso
      have HC2 := Lib.hid (HC.out wr hb)
      clear hst hso
      generalize xs[k].text = tx at *
      generalize xs[k].kind = kx at *
      generalize xs[k].kids.length = nx at *
      generalize xs[k].blank = bx at *
      obtain ⟨be, hbe⟩ : ∃ be, Hid ((tx.toList == s.toList) = be) := ⟨_, rfl⟩
      have HG := Lib.hid (same1_any kx tx s xa nx xc bx h wr HC2.out)
      rw [hbe.out] at HST HSO HG
      go_wp2_with fail
      refine HG.out.mono ?_
      rintro e w5 ⟨rfl, hb5⟩
      cases be with
      | true =>
        have HF := Lib.hid (HSO.out rfl)
        go_wp2
        go_ret
        exact ⟨_, rfl, by rw [HF.out]; exact decide_eq_true (by omega), hb.trans (hb5.mono hsz)⟩
      | false =>
        have HF : Hid (hasText (xs.take (k + 1)) s = false) := by show _ = _; rw [HST.out, HA.out]; rfl
        go_wp2
        go_roundw
        case rel => exact ⟨k + 1, by omega, by go_num, HF.out, hb.trans (hb5.mono hsz)⟩
        case measure => simp [intOf]; omega
    · have hki : ¬ (k : Int) < (xs.length : Int) := by omega
      have HF : Hid (hasText xs s = false) := by have e := HA.out; rwa [List.take_of_length_le (by omega)] at e
      go_wp2
      go_ret
      exact ⟨_, rfl, by rw [HF.out]; rfl, hb⟩
set_option maxHeartbeats 1000000 in
set_option maxRecDepth 100000 in
theorem containsFunc_any (xs : List Node) (v : Value) (lo hi h : Nat) (s : ByteArray) (w : World) (hr : Rd nodeS lo hi w v xs) (hh : hi ≤ w.heap.size) (hc : w.cell? ⟨h, 0, none⟩ = some (.string s)) (hl : xs.length ≤ 1048576) :
    Calls Tryd.prog 21 #[v, .func (.func 22) #[] #[.pointer (some ⟨h, 0, none⟩)]] w fun e w' => e = .returned (.bool (hasText xs s)) ∧ Below w.heap.size w w' := by
  have HC := Lib.hid hc
  clear hc
  go_enter Tryd.func21, Tryd.ntmps21
  go_wp2_with fail
  refine (indexFunc_any xs v lo hi h s w hr hh HC.out hl).mono ?_
  rintro e w' ⟨n, rfl, hn, hb⟩
  have HN := Lib.hid hn
  clear hn
  go_wp2
  go_ret
  exact ⟨ret_bool HN.out, hb⟩
set_option maxHeartbeats 1000000 in
set_option maxRecDepth 100000 in
theorem has_any (xs : List Node) (v : Value) (lo hi g : Nat) (s : ByteArray) (w : World) (hr : Rd nodeS lo hi w v xs) (hh : hi ≤ w.heap.size) (hc : w.cell? ⟨g, 0, none⟩ = some v) (hl : xs.length ≤ 1048576) :
    Calls Tryd.prog 20 #[.string s, .pointer (some ⟨g, 0, none⟩)] w fun e w' => e = .returned (.bool (hasText xs s)) ∧ Below w.heap.size w w' := by
  have hd := ((Below.refl w.heap.size w).alloc (Nat.le_refl _) (.cells #[.string s] 9))
  have hc2 := (hd.cell (p := ⟨g, 0, none⟩) (World.block_lt_of_cell? w _ hc)).trans hc
  have HN := Lib.hid (hr.below hd hh)
  have HS : Hid ((w.alloc (.cells #[.string s] 9)).cell? ⟨w.heap.size, 0, none⟩ = some (.string s)) := World.cell?_alloc_at _ _ _ _ rfl
  have HD := Lib.hid hd
  obtain ⟨a, c, rfl⟩ := hr.sl
  go_enter Tryd.func20, Tryd.ntmps20
  go_wp2_with fail
  have hsz : (w.alloc (.cells #[.string s] 9)).heap.size = w.heap.size + 1 := by simp
  generalize w.alloc (.cells #[.string s] 9) = w1 at *
  refine (containsFunc_any xs _ lo hi w.heap.size s w1 HN.out (by omega) HS.out hl).mono ?_
  rintro e w' ⟨rfl, hb⟩
  go_wp2
  go_ret
  exact ⟨rfl, HD.out.trans (hb.mono (by omega))⟩
set_option maxHeartbeats 2000000 in
set_option maxRecDepth 100000 in
theorem freshName_impl (xs : List Node) (v : Value) (lo hi : Nat) (base : ByteArray) (w : World) (hr : Rd nodeS lo hi w v xs) (hh : hi ≤ w.heap.size) (hb0 : base.size ≤ 1048576) (hl : xs.length ≤ 1048576)
    (ht : Lib.TabIs Tryd.prog w "internal/strconv.uint64pow10" .u64 Lib.pow10Tab) :
    Calls Tryd.prog 8 #[v, .string base] w fun e w' => e = .returned (.string (freshB xs base)) ∧ Below w.heap.size w w' := by
  have HNO := Lib.hid (freshB_no (xs := xs) (base := base))
  have HAT := Lib.hid (fun j h => freshB_at (xs := xs) (base := base) (j := j) h)
  have HRM := Lib.hid (fun j => cand_room (xs := xs) (base := base) (j := j))
  have HSZ := Lib.hid (candB_size base)
  have hd := ((Below.refl w.heap.size w).alloc (Nat.le_refl _) (.cells #[v] 25))
  have HS : Hid ((w.alloc (.cells #[v] 25)).cell? ⟨w.heap.size, 0, none⟩ = some v) := World.cell?_alloc_at _ _ _ _ rfl
  have HTB := Lib.hid (fun w4 (h4 : Below w.heap.size w w4) => tab_below ht h4)
  have HRB := Lib.hid (fun w4 (h4 : Below w.heap.size w w4) => hr.below h4 hh)
  have HD := Lib.hid hd
  have hsz : (w.alloc (.cells #[v] 25)).heap.size = w.heap.size + 1 := by simp
  have hen := enter_has
  obtain ⟨a, c, rfl⟩ := hr.sl
  clear ht hd
  go_enter Tryd.func8, Tryd.ntmps8
  go_wp2_with fail
  generalize w.alloc (.cells #[.slice a xs.length c] 25) = w0 at *
  refine (isName_any base _ (by omega)).mono ?_
  rintro e w1 ⟨rfl, hb1⟩
  have hs1 := hb1.size
  have HD1 := Lib.hid (HD.out.trans (hb1.mono (by omega)))
  have HC1 := Lib.hid ((hb1.cell (p := ⟨w.heap.size, 0, none⟩) (by show w.heap.size < _; omega)).trans HS.out)
  cases g1 : isNm base with
  | false =>
    have HF := Lib.hid (HNO.out (by rw [g1]; rfl))
    go_wp2
    go_ret
    exact ⟨by rw [HF.out]; rfl, HD1.out⟩
  | true =>
    by_cases g2 : base.size ≤ 20
    · have hgt : ¬ (base.size : Int) > 20 := by omega
      have HY : Hid ((isNm base && decide (base.size ≤ 20)) = true) := by show _ = true; rw [g1, decide_eq_true g2]; rfl
      clear g1 g2
      go_wp2
      go_loopw [6, 7] (fun s n wr => ∃ j : Nat, 1 ≤ j ∧ j ≤ xs.length + 1 ∧ n = .int .i64 ((j : Int) + 1) ∧ s = .string (candB base j) ∧ Below w1.heap.size w1 wr ∧ Hid (∀ i, 1 ≤ i → i < j → hasText xs (candB base i) = true)) (fun _ n _ => xs.length + 3 - (intOf n).toNat)
      case atStart => exact ⟨1, Nat.le_refl _, by omega, rfl, rfl, Below.refl _ _, fun i h1 h2 => by omega⟩
      case round =>
        obtain ⟨j, hj1, hj2, rfl, rfl, hb, HA⟩ := hrel
        have hsz1 := hb.size
        have HB := Lib.hid (HD1.out.trans (hb.mono (by omega)))
        have HC2 := Lib.hid ((hb.cell (p := ⟨w.heap.size, 0, none⟩) (by show w.heap.size < _; omega)).trans HC1.out)
        have HFJ := Lib.hid (HAT.out j HY.out hj1 HA.out)
        have HUP : Hid (hasText xs (candB base j) = true → Hid (∀ i, 1 ≤ i → i < j + 1 → hasText xs (candB base i) = true) ∧ j + 1 ≤ xs.length + 1) := fun h => by
          have h2 : ∀ i, 1 ≤ i → i < j + 1 → hasText xs (candB base i) = true := fun i a b => by
            by_cases e : i = j
            · subst e; exact h
            · exact HA.out i a (by omega)
          exact ⟨h2, HRM.out (j + 1) h2⟩
        have HN : Hid (candB base (j + 1) = base ++ decB (j + 1)) := candB_more (by omega)
        have HH := Lib.hid (has_any xs _ lo hi w.heap.size (candB base j) wr (HRB.out wr HB.out) (by omega) HC2.out hl)
        obtain ⟨bq, hbq⟩ : ∃ bq, Hid (hasText xs (candB base j) = bq) := ⟨_, rfl⟩
        rw [hbq.out] at HFJ HUP HH
        have hcs := HSZ.out (j + 1) (by omega)
        rw [HN.out] at hcs
        rw [ByteArray.size_append] at hcs
        generalize candB base j = nm at *
        go_wp2_with fail
        refine HH.out.mono ?_
        rintro e w5 ⟨rfl, hb5⟩
        have hs5 := hb5.size
        have HB5 := Lib.hid (hb.trans (hb5.mono hsz1))
        cases bq with
        | false =>
          have HU := Lib.hid (HFJ.out rfl)
          go_wp2
          go_ret
          exact ⟨by rw [HU.out]; rfl, HB.out.trans (hb5.mono (by omega))⟩
        | true =>
          have HU := Lib.hid (HUP.out rfl)
          have HDC := Lib.hid (decimal_impl (j + 1) w5 (by omega) (HTB.out w5 (HB.out.trans (hb5.mono (by omega)))))
          rw [show ((j + 1 : Nat) : Int) = (j : Int) + 1 from rfl] at HDC
          go_wp2_with fail
          refine HDC.out.mono ?_
          rintro e w6 ⟨rfl, hb6⟩
          have HB6 := Lib.hid (HB5.out.trans (hb6.mono (by omega)))
          go_wp2
          go_roundw
          case rel => exact ⟨j + 1, by omega, HU.out.2, by go_num, by rw [HN.out], HB6.out, HU.out.1.out⟩
          case measure => have := HU.out.2; simp [intOf]; omega
    · have hgt : (base.size : Int) > 20 := by omega
      have HF := Lib.hid (HNO.out (by rw [decide_eq_false g2, Bool.and_false]))
      clear g1
      go_wp2
      go_ret
      exact ⟨by rw [HF.out]; rfl, HD1.out⟩
end Go.Proofs.YtbgcifmhemldoaaDoor
