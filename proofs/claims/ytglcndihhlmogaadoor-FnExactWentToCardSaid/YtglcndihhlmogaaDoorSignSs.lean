/- The sign at a place, of the reference: l04Sign. -/
import Derived.Test.YtglcndihhlmogaaDoorSignSp
namespace Go.Proofs.YtglcndihhlmogaaDoor
open Go.RowKit

theorem note_slash {t : ByteArray} {a : Nat} (h : isNote t a = true) (ha : a < t.size) : t[a] = 47 := by
  have hs := isNote_size h
  have := congrArg (fun b : ByteArray => b.data.toList[0]?) (str_eq.1 h)
  simp only [Lib.extract_data] at this
  rw [List.getElem?_take_of_lt (by omega), List.getElem?_drop, List.getElem?_eq_getElem (by rw [lsize]; omega)] at this
  exact Option.some.inj this
theorem notIn2 : inMarks marks2 slashes = false := by
  cases g : inMarks marks2 slashes with
  | false => rfl
  | true =>
    obtain ⟨i, hi, e⟩ := inMarks_get g
    exact absurd e ((by decide : ∀ i (h : i < marks2.length), slashes ≠ marks2[i]) i hi)
theorem notIn1 : inMarks marks1 ⟨#[47]⟩ = false := by
  cases g : inMarks marks1 ⟨#[47]⟩ with
  | false => rfl
  | true =>
    obtain ⟨i, hi, e⟩ := inMarks_get g
    exact absurd e ((by decide : ∀ i (h : i < marks1.length), (⟨#[47]⟩ : ByteArray) ≠ marks1[i]) i hi)
theorem note_noMark {t : ByteArray} {a : Nat} (h : isNote t a = true) : markAt t a = none := by
  have e := str_eq.1 h
  have hs := isNote_size h
  have e1 : t.extract a (a + 1) = ⟨#[47]⟩ := by
    apply ba_ext
    have := congrArg (fun b : ByteArray => b.data.toList.take 1) e
    simp only [Lib.extract_data, List.take_take] at this
    rw [Lib.extract_data, show a + 1 - a = min 1 (a + 2 - a) by omega, this]; rfl
  unfold markAt markLen
  rw [e, e1, notIn2, notIn1]; rfl
theorem sgn_isNote {t : ByteArray} {a : Nat} (ha : a < t.size) (h : 0 < noteLen t a) : sgn t a = some (5, trimT (t.extract a (a + noteLen t a)), noteLen t a) ∧ a + noteLen t a ≤ t.size := by
  have hg := runTo_ge notNl t a
  have hle := runTo_le (p := notNl) (Nat.le_of_lt ha)
  unfold noteLen at h ⊢
  split at h
  · rename_i hc
    rw [if_pos hc]
    have e1 := note_slash hc.1 ha
    refine ⟨?_, by omega⟩
    unfold sgn
    rw [dif_pos ha, e1]
    show (if isNote t a = true then noteAt t a else markAt t a) = _
    rw [if_pos hc.1, noteAt, if_pos hc.2, show a + (runTo notNl t a - a) = runTo notNl t a by omega]
  · omega
theorem sgn_notNote {t : ByteArray} {a : Nat} (ha : a < t.size) (h : noteLen t a = 0) : sgn t a = if firstN (t[a].toNat : Int) then nameAt t a else if figN (t[a].toNat : Int) then numAt t a else if (t[a].toNat : Int) == 39 then textAt t a else markAt t a := by
  unfold sgn
  rw [dif_pos ha]
  cases g : isNote t a with
  | false => rfl
  | true =>
    rw [note_noMark g]
    have e1 := note_slash g ha
    have hn : noteAt t a = none := by
      have := runTo_more (p := notNl) ha (by rw [e1]; rfl)
      unfold noteAt
      unfold noteLen at h
      by_cases hc : runTo notNl t a ≤ runTo plainN t a
      · rw [if_pos ⟨g, hc⟩] at h; omega
      · rw [if_neg hc]
    rw [hn, e1]; rfl
theorem textAt_quote {t : ByteArray} {a : Nat} : (quoteLen t a = 0 → textAt t a = none) ∧ (0 < quoteLen t a → textAt t a = some (3, t.extract a (a + quoteLen t a), quoteLen t a) ∧ a + quoteLen t a ≤ t.size) := by
  have hg := runTo_ge notQ t (a + 1)
  unfold quoteLen textAt
  by_cases hc : runTo notQ t (a + 1) < t.size ∧ runTo notQ t (a + 1) ≤ runTo plainN t (a + 1)
  · rw [if_pos hc, if_pos hc]
    exact ⟨fun h => by omega, fun _ => ⟨by rw [show a + (runTo notQ t (a + 1) + 1 - a) = runTo notQ t (a + 1) + 1 by omega], by omega⟩⟩
  · rw [if_neg hc, if_neg hc]
    exact ⟨fun _ => rfl, fun h => by omega⟩
/-- what l04Sign answers -/
def SgnRet (t : ByteArray) (a : Nat) (e : Ending) : Prop := ∃ (k : Int) (x : ByteArray) (p : Int) (n : Nat), e = .returned (.tuple #[.agg #[.int .i64 k, .string x, .int .i64 p, .bool false], .int .i64 n]) ∧ n ≤ t.size ∧ (n = 0 → sgn t a = none) ∧ (0 < n → sgn t a = some (k, x, n) ∧ p = a)
theorem SgnRet.no {t : ByteArray} {a : Nat} {e : Ending} {k p : Int} {x : ByteArray} (he : e = .returned (.tuple #[.agg #[.int .i64 k, .string x, .int .i64 p, .bool false], .int .i64 0])) (h : sgn t a = none) : SgnRet t a e := ⟨k, x, p, 0, he, Nat.zero_le _, fun _ => h, fun c => absurd c (Nat.lt_irrefl _)⟩
theorem SgnRet.yes {t : ByteArray} {a n : Nat} {e : Ending} {k m : Int} {x : ByteArray} (he : e = .returned (.tuple #[.agg #[.int .i64 k, .string x, .int .i64 a, .bool false], .int .i64 m])) (hm : m = n) (h : sgn t a = some (k, x, n)) : SgnRet t a e := by
  have := sgn_pos h
  subst hm
  exact ⟨k, x, a, n, he, by omega, fun c => by omega, fun _ => ⟨h, rfl⟩⟩
theorem run_exit {p : Int → Bool} {t : ByteArray} {a k : Nat} (h : runTo p t a = runTo p t k) (hk : ¬ k < t.size) (hl : k ≤ t.size) : runTo p t a = k := by rw [h, runTo_end (by omega)]
theorem run_exit2 {p : Int → Bool} {t : ByteArray} {a k : Nat} (h : runTo p t a = runTo p t k) (hk : k < t.size) (hp : p (t[k].toNat : Int) = false) : runTo p t a = k := by rw [h, runTo_stop hk hp]
set_option maxHeartbeats 4000000 in
set_option maxRecDepth 100000 in
theorem l04Sign_any (t : ByteArray) (a : Nat) (w : World) (hs : t.size ≤ 4611686018427387904) (ha : a < t.size) :
    Calls Tryd.prog 16 #[.string t, .int .i64 a] w fun e w' => SgnRet t a e ∧ Below w.heap.size w w' := by
  obtain ⟨L, hL⟩ : ∃ L, Hid (noteLen t a = L) := ⟨_, rfl⟩
  have HN := Lib.hid (sgn_isNote ha)
  have HO := Lib.hid (sgn_notNote ha)
  rw [hL.out] at HN HO
  have f0 : (0 : Int) ≤ (a : Int) := by omega
  have fa : (a : Int) < (t.size : Int) := by omega
  go_enter Tryd.func16, Tryd.ntmps16
  go_wp2_with fail
  refine (l04Note_any t a _ hs (Nat.le_of_lt ha)).mono ?_
  rintro e w1 ⟨rfl, rfl⟩
  rw [hL.out]
  by_cases h0 : 0 < L
  · obtain ⟨e1, e2⟩ := HN.out h0
    have e1' := Lib.hid e1
    clear e1
    have f1 : (a : Int) + (L : Int) ≤ (t.size : Int) := by omega
    have f2 : (a : Int) ≤ (a : Int) + (L : Int) := by omega
    have f3 : ((a : Int) + (L : Int)).toNat = a + L := by omega
    have f4 : (t.extract a (a + L)).size ≤ 9223372036854775807 := by rw [ByteArray.size_extract]; omega
    go_wp2_with fail
    refine (trimmed_spec _ _ f4).mono ?_
    rintro e w2 ⟨rfl, rfl⟩
    go_wp2
    refine bodyPost_ret (v := .tuple #[.agg #[.int .i64 5, .string (trimT (t.extract a (a + L))), .int .i64 a, .bool false], .int .i64 L]) (by simp [results, Tryd.results16, go_sem]) rfl ?_
    exact ⟨.yes rfl rfl e1'.out, (Below.refl _ _).alloc (Nat.le_refl _) _⟩
  · obtain rfl : L = 0 := by omega
    have HO' := Lib.hid (HO.out rfl)
    clear HN HO h0
    go_wp2_with fail
    refine (l04First_any _ _).mono ?_
    rintro e w2 ⟨rfl, rfl⟩
    cases g1 : firstN (t[a].toNat : Int) with
    | true =>
      rw [g1] at HO'
      have HS := Lib.hid (show sgn t a = nameAt t a from HO'.out)
      clear HO'
      go_wp2
      go_loop [6] (fun i => ∃ k : Nat, a ≤ k ∧ k ≤ t.size ∧ i = .int .i64 k ∧ Hid (runTo innerN t a = runTo innerN t k)) (fun i => t.size - (intOf i).toNat)
      case atStart => exact ⟨a, Nat.le_refl _, Nat.le_of_lt ha, rfl, rfl⟩
      case round =>
        obtain ⟨k, hak, hk, rfl, HA⟩ := hrel
        by_cases hlt : k < t.size
        · have hki : (k : Int) < (t.size : Int) := by omega
          have hkz : (0 : Int) ≤ (k : Int) := by omega
          have HNY := Lib.hid (fun h : innerN (t[k].toNat : Int) = true => runTo_step hlt h)
          have HNN := Lib.hid (fun h : innerN (t[k].toNat : Int) = false => run_exit2 HA.out hlt h)
          go_wp2_with fail
          refine (l04First_any _ _).mono ?_
          rintro e w' ⟨rfl, rfl⟩
          cases g2 : firstN (t[k].toNat : Int) with
          | true =>
            have HM := Lib.hid (HNY.out (by simp [innerN, g2]))
            go_wp2
            go_round
            case rel => exact ⟨k + 1, by omega, by omega, by go_num, HA.out.trans HM.out⟩
            case measure => simp [intOf]; omega
          | false =>
            go_wp2_with fail
            refine (l04Figure_any _ _).mono ?_
            rintro e w' ⟨rfl, rfl⟩
            cases g3 : figN (t[k].toNat : Int) with
            | true =>
              have HM := Lib.hid (HNY.out (by simp [innerN, g3]))
              go_wp2
              go_round
              case rel => exact ⟨k + 1, by omega, by omega, by go_num, HA.out.trans HM.out⟩
              case measure => simp [intOf]; omega
            | false =>
              have HR := Lib.hid (HNN.out (by simp [innerN, g2, g3]))
              clear HA HNY HNN
              by_cases hl : k - a ≤ 30
              · have hli : ¬ (k : Int) - (a : Int) > 30 := by omega
                have hae : (a : Int) ≤ (k : Int) := by omega
                have hke : (k : Int) ≤ (t.size : Int) := by omega
                have HF := Lib.hid (show sgn t a = some (1, t.extract a k, k - a) by rw [HS.out, nameAt, HR.out, if_pos hl])
                go_wp2
                refine bodyPost_ret (v := .tuple #[.agg #[.int .i64 1, .string (t.extract a k), .int .i64 a, .bool false], .int .i64 ((k : Int) - (a : Int))]) (by simp [results, Tryd.results16, go_sem]) rfl ?_
                exact ⟨.yes rfl (by omega) HF.out, (Below.refl _ _).alloc (Nat.le_refl _) _⟩
              · have hli : (k : Int) - (a : Int) > 30 := by omega
                have HF := Lib.hid (show sgn t a = none by rw [HS.out, nameAt, HR.out, if_neg hl])
                go_wp2
                refine bodyPost_ret (v := .tuple #[.agg #[.int .i64 0, .string ⟨#[]⟩, .int .i64 0, .bool false], .int .i64 0]) (by simp [results, Tryd.results16, go_sem]) rfl ?_
                exact ⟨.no rfl HF.out, (Below.refl _ _).alloc (Nat.le_refl _) _⟩
        · have hki : ¬ (k : Int) < (t.size : Int) := by omega
          have HR := Lib.hid (run_exit HA.out hlt hk)
          clear HA
          by_cases hl : k - a ≤ 30
          · have hli : ¬ (k : Int) - (a : Int) > 30 := by omega
            have hae : (a : Int) ≤ (k : Int) := by omega
            have hke : (k : Int) ≤ (t.size : Int) := by omega
            have HF := Lib.hid (show sgn t a = some (1, t.extract a k, k - a) by rw [HS.out, nameAt, HR.out, if_pos hl])
            go_wp2
            refine bodyPost_ret (v := .tuple #[.agg #[.int .i64 1, .string (t.extract a k), .int .i64 a, .bool false], .int .i64 ((k : Int) - (a : Int))]) (by simp [results, Tryd.results16, go_sem]) rfl ?_
            exact ⟨.yes rfl (by omega) HF.out, (Below.refl _ _).alloc (Nat.le_refl _) _⟩
          · have hli : (k : Int) - (a : Int) > 30 := by omega
            have HF := Lib.hid (show sgn t a = none by rw [HS.out, nameAt, HR.out, if_neg hl])
            go_wp2
            refine bodyPost_ret (v := .tuple #[.agg #[.int .i64 0, .string ⟨#[]⟩, .int .i64 0, .bool false], .int .i64 0]) (by simp [results, Tryd.results16, go_sem]) rfl ?_
            exact ⟨.no rfl HF.out, (Below.refl _ _).alloc (Nat.le_refl _) _⟩
    | false =>
      rw [g1] at HO'
      have HO2 := Lib.hid (show sgn t a = if figN (t[a].toNat : Int) then numAt t a else if (t[a].toNat : Int) == 39 then textAt t a else markAt t a from HO'.out)
      clear HO' g1
      go_wp2_with fail
      refine (l04Figure_any _ _).mono ?_
      rintro e w2 ⟨rfl, rfl⟩
      cases g2 : figN (t[a].toNat : Int) with
      | true =>
        rw [g2] at HO2
        have HS := Lib.hid (show sgn t a = numAt t a from HO2.out)
        clear HO2 g2
        go_wp2
        go_loop [6] (fun i => ∃ k : Nat, a ≤ k ∧ k ≤ t.size ∧ i = .int .i64 k ∧ Hid (runTo figN t a = runTo figN t k)) (fun i => t.size - (intOf i).toNat)
        case atStart => exact ⟨a, Nat.le_refl _, Nat.le_of_lt ha, rfl, rfl⟩
        case round =>
          obtain ⟨k, hak, hk, rfl, HA⟩ := hrel
          by_cases hlt : k < t.size
          · have hki : (k : Int) < (t.size : Int) := by omega
            have hkz : (0 : Int) ≤ (k : Int) := by omega
            have HNY := Lib.hid (fun h : figN (t[k].toNat : Int) = true => runTo_step hlt h)
            have HNN := Lib.hid (fun h : figN (t[k].toNat : Int) = false => run_exit2 HA.out hlt h)
            go_wp2_with fail
            refine (l04Figure_any _ _).mono ?_
            rintro e w' ⟨rfl, rfl⟩
            cases g3 : figN (t[k].toNat : Int) with
            | true =>
              have HM := Lib.hid (HNY.out g3)
              go_wp2
              go_round
              case rel => exact ⟨k + 1, by omega, by omega, by go_num, HA.out.trans HM.out⟩
              case measure => simp [intOf]; omega
            | false =>
              have HR := Lib.hid (HNN.out g3)
              clear HA HNY HNN
              by_cases hl : k - a ≤ 12
              · have hli : ¬ (k : Int) - (a : Int) > 12 := by omega
                have hae : (a : Int) ≤ (k : Int) := by omega
                have hke : (k : Int) ≤ (t.size : Int) := by omega
                have HF := Lib.hid (show sgn t a = some (2, t.extract a k, k - a) by rw [HS.out, numAt, HR.out, if_pos hl])
                go_wp2
                refine bodyPost_ret (v := .tuple #[.agg #[.int .i64 2, .string (t.extract a k), .int .i64 a, .bool false], .int .i64 ((k : Int) - (a : Int))]) (by simp [results, Tryd.results16, go_sem]) rfl ?_
                exact ⟨.yes rfl (by omega) HF.out, (Below.refl _ _).alloc (Nat.le_refl _) _⟩
              · have hli : (k : Int) - (a : Int) > 12 := by omega
                have HF := Lib.hid (show sgn t a = none by rw [HS.out, numAt, HR.out, if_neg hl])
                go_wp2
                refine bodyPost_ret (v := .tuple #[.agg #[.int .i64 0, .string ⟨#[]⟩, .int .i64 0, .bool false], .int .i64 0]) (by simp [results, Tryd.results16, go_sem]) rfl ?_
                exact ⟨.no rfl HF.out, (Below.refl _ _).alloc (Nat.le_refl _) _⟩
          · have hki : ¬ (k : Int) < (t.size : Int) := by omega
            have HR := Lib.hid (run_exit HA.out hlt hk)
            clear HA
            by_cases hl : k - a ≤ 12
            · have hli : ¬ (k : Int) - (a : Int) > 12 := by omega
              have hae : (a : Int) ≤ (k : Int) := by omega
              have hke : (k : Int) ≤ (t.size : Int) := by omega
              have HF := Lib.hid (show sgn t a = some (2, t.extract a k, k - a) by rw [HS.out, numAt, HR.out, if_pos hl])
              go_wp2
              refine bodyPost_ret (v := .tuple #[.agg #[.int .i64 2, .string (t.extract a k), .int .i64 a, .bool false], .int .i64 ((k : Int) - (a : Int))]) (by simp [results, Tryd.results16, go_sem]) rfl ?_
              exact ⟨.yes rfl (by omega) HF.out, (Below.refl _ _).alloc (Nat.le_refl _) _⟩
            · have hli : (k : Int) - (a : Int) > 12 := by omega
              have HF := Lib.hid (show sgn t a = none by rw [HS.out, numAt, HR.out, if_neg hl])
              go_wp2
              refine bodyPost_ret (v := .tuple #[.agg #[.int .i64 0, .string ⟨#[]⟩, .int .i64 0, .bool false], .int .i64 0]) (by simp [results, Tryd.results16, go_sem]) rfl ?_
              exact ⟨.no rfl HF.out, (Below.refl _ _).alloc (Nat.le_refl _) _⟩
      | false =>
        rw [g2] at HO2
        have HO3 := Lib.hid (show sgn t a = if (t[a].toNat : Int) == 39 then textAt t a else markAt t a from HO2.out)
        clear HO2 g2
        cases g3 : ((t[a].toNat : Int) == 39) with
        | true =>
          rw [g3] at HO3
          have HS := Lib.hid (show sgn t a = textAt t a from HO3.out)
          clear HO3
          obtain ⟨q, hq⟩ : ∃ q, Hid (quoteLen t a = q) := ⟨_, rfl⟩
          have HQ := Lib.hid (textAt_quote (t := t) (a := a))
          rw [hq.out] at HQ
          go_wp2_with fail
          refine (l04Quoted_any t a _ hs ha).mono ?_
          rintro e w2 ⟨rfl, rfl⟩
          rw [hq.out]
          by_cases hq0 : 0 < q
          · have HT := Lib.hid (HQ.out.2 hq0)
            have f1 : (a : Int) + (q : Int) ≤ (t.size : Int) := by have := HT.out.2; omega
            have f2 : (a : Int) ≤ (a : Int) + (q : Int) := by omega
            have f3 : ((a : Int) + (q : Int)).toNat = a + q := by omega
            go_wp2
            refine bodyPost_ret (v := .tuple #[.agg #[.int .i64 3, .string (t.extract a (a + q)), .int .i64 a, .bool false], .int .i64 q]) (by simp [results, Tryd.results16, go_sem]) rfl ?_
            exact ⟨.yes rfl rfl (HS.out.trans HT.out.1), (Below.refl _ _).alloc (Nat.le_refl _) _⟩
          · obtain rfl : q = 0 := by omega
            have HT := Lib.hid (HQ.out.1 rfl)
            have f1 : (a : Int) + 0 ≤ (t.size : Int) := by omega
            have f2 : (a : Int) ≤ (a : Int) + 0 := by omega
            have f3 : ((a : Int) + 0).toNat = a := by omega
            go_wp2
            refine bodyPost_ret (v := .tuple #[.agg #[.int .i64 3, .string (t.extract a a), .int .i64 a, .bool false], .int .i64 0]) (by simp [results, Tryd.results16, go_sem]) rfl ?_
            exact ⟨.no rfl (HS.out.trans HT.out), (Below.refl _ _).alloc (Nat.le_refl _) _⟩
        | false =>
          rw [g3] at HO3
          have HS := Lib.hid (show sgn t a = markAt t a from HO3.out)
          clear HO3
          go_wp2_with fail
          refine (l04Mark_any t a _ hs (Nat.le_of_lt ha)).mono ?_
          rintro e w2 ⟨⟨x, rfl, hx2, HX0, HX1⟩, hb⟩
          have h0' := Lib.hid HX0
          have h1' := Lib.hid HX1
          clear HX0 HX1
          have hh : w2.heap[w.heap.size]? = some (.cells #[.int .i64 0, .string ⟨#[]⟩, .int .i64 0, .bool false] 34) := (hb.block w.heap.size (by simp)).trans (heap_alloc_new w _)
          have HB := Lib.hid (blw_al1 (hb.mono (by simp) : Below w.heap.size _ w2) (Nat.le_refl _))
          have c0 : w2.cell? ⟨w.heap.size, 0, none⟩ = some (.int .i64 0) := cell_heap hh rfl
          have c1 : w2.cell? ⟨w.heap.size, 1, none⟩ = some (.string ⟨#[]⟩) := cell_heap hh rfl
          have c2 : w2.cell? ⟨w.heap.size, 2, none⟩ = some (.int .i64 0) := cell_heap hh rfl
          have c3 : w2.cell? ⟨w.heap.size, 3, none⟩ = some (.bool false) := cell_heap hh rfl
          have z0 : w2.frozen? ⟨w.heap.size, 0, none⟩ = false := frozen_heap hh
          have z1 : w2.frozen? ⟨w.heap.size, 1, none⟩ = false := frozen_heap hh
          have z2 : w2.frozen? ⟨w.heap.size, 2, none⟩ = false := frozen_heap hh
          have z3 : w2.frozen? ⟨w.heap.size, 3, none⟩ = false := frozen_heap hh
          clear hh hb
          go_wp2
          refine bodyPost_ret (v := .tuple #[.agg #[.int .i64 4, .string x, .int .i64 a, .bool false], .int .i64 x.size]) (by simp [results, Tryd.results16, go_sem, c0, c1, c2, c3]) rfl ?_
          refine ⟨⟨4, x, a, x.size, rfl, ?_, fun h => HS.out.trans (h0'.out h), fun h => ⟨HS.out.trans (h1'.out h), rfl⟩⟩, (((HB.out.setCell (Nat.le_refl _) _).setCell (Nat.le_refl _) _).setCell (Nat.le_refl _) _).setCell (Nat.le_refl _) _⟩
          by_cases hx : 0 < x.size
          · have := sgn_pos (HS.out.trans (h1'.out hx)); omega
          · omega
end Go.Proofs.YtglcndihhlmogaaDoor
