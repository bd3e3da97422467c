/- Rule: how it lies in memory; the law's helpers for it. By gen.py. -/
import Derived.Test.YtllpgomloblfjaaMark
namespace Go.Proofs.Ytllpgomloblfjaa
open Go.RowKit
structure Rule where
  values : Int
  cost : Int
def ruleF : Flat Rule := ⟨2, fun x => [.int .i64 x.values, .int .i64 x.cost], fun _ => rfl, fun x u h => by
  simp only [List.mem_cons, List.not_mem_nil, or_false] at h
  rcases h with h | h <;> subst h <;> rfl⟩
def Rule.v (x : Rule) : Value := .agg #[.int .i64 x.values, .int .i64 x.cost]
def Rule.zero : Rule := ⟨0, 0⟩
theorem Rd.ruleF {lo hi : Nat} {w : World} {v : Value} {xs : List Rule} (h : Rd ruleF.shape lo hi w v xs) :
    ∃ a c, v = .slice a xs.length c ∧ xs.length ≤ c ∧ c ≤ maxLen ∧ (a = none → c = 0) ∧
      ∀ k (h : k < xs.length), ∃ b off, a = some ⟨b, off, none⟩ ∧ lo ≤ b ∧ b < hi ∧ w.cell? ⟨b, off + k * 2, none⟩ = some (.int .i64 xs[k].values) ∧ w.cell? ⟨b, off + k * 2 + 1, none⟩ = some (.int .i64 xs[k].cost) := by
  obtain ⟨a, c, h1, h2, h3, h4, h5⟩ := h
  refine ⟨a, c, h1, h2, h3, h4, fun k hk => ?_⟩
  obtain ⟨b, off, cs, e1, e2, e3, rfl, e5⟩ := h5 k hk
  exact ⟨b, off, e1, e2, e3, e5 0 _ rfl, e5 1 _ rfl⟩
theorem Try.cells143 : Try.prog.cellsOf 143 = 2 := by kernel_rfl
def Rule.Ok (x : Rule) : Prop := I64 x.values ∧ I64 x.cost
theorem opens_Rule : Opens Try.prog ruleF.shape 143 Rule.Ok := by
  intro H enc w base spare held fuel cs x hx
  obtain ⟨ys, m, _, _, hlen, hl, hf⟩ := DataW.trod_struct Try.underlying143 hx
  rw [Try.cells143] at hlen
  obtain ⟨c0, r0, rfl, hn0⟩ := list_cons hlen
  obtain ⟨c1, r1, rfl, hn1⟩ := list_cons hn0
  obtain rfl := list_nil hn1
  have h0 : DataW.trod enc Try.prog w base spare held m 3 ((([c0, c1] : List Value).drop 0).take (Try.prog.cellsOf 3)) = ys[0]? := hf 0 _ rfl
  rw [Try.cellsInt, List.getElem?_eq_getElem (show 0 < ys.length by rw [hl]; exact of_decide_eq_true rfl)] at h0
  obtain ⟨a0, e0, k0⟩ := opens_int Try.underlying3 H enc w base spare held m _ _ h0
  have h1 : DataW.trod enc Try.prog w base spare held m 3 ((([c0, c1] : List Value).drop 1).take (Try.prog.cellsOf 3)) = ys[1]? := hf 1 _ rfl
  rw [Try.cellsInt, List.getElem?_eq_getElem (show 1 < ys.length by rw [hl]; exact of_decide_eq_true rfl)] at h1
  obtain ⟨a1, e1, k1⟩ := opens_int Try.underlying3 H enc w base spare held m _ _ h1
  obtain rfl : c0 = .int .i64 a0 := (List.cons.inj e0).1
  obtain rfl : c1 = .int .i64 a1 := (List.cons.inj e1).1
  exact ⟨⟨a0, a1⟩, rfl, k0, k1⟩

set_option maxHeartbeats 400000 in
theorem szRuleS_any (xs : List Rule) (v : Value) (lo hi : Nat) (left : Int) (w : World) (hr : Rd ruleF.shape lo hi w v xs) (_hh : hi ≤ w.heap.size) (h0 : 0 ≤ left) (h1 : left ≤ 1048576) :
    Calls Try.prog 80 #[v, .int .i64 left] w fun e w' => e = .returned (.int .i64 (szR left xs.length)) ∧ Below w.heap.size w w' := by
  have hl := hr.len_le
  obtain ⟨a, c, rfl, h2, h3, h4, h5⟩ := hr.ruleF
  unfold maxLen at h3
  by_cases hc : left - (xs.length : Int) < 0
  · go_enter Try.func80, Try.ntmps80
    go_wp2
    go_ret
    exact ⟨ret_int (szR_no hc), (Below.refl _ _)⟩
  · go_enter Try.func80, Try.ntmps80
    go_wp2
    go_ret
    exact ⟨ret_int (szR_yes (by omega)), (Below.refl _ _)⟩

set_option maxHeartbeats 400000 in
theorem toRule_any (x : Rule) (w : World) :
    Calls Try.prog 118 #[x.v] w fun e w' => e = .returned x.v ∧ Below w.heap.size w w' := by
  obtain ⟨values, cost⟩ := x
  unfold Rule.v
  simp only
  go_enter Try.func118, Try.ntmps118
  go_wp2
  exact bodyPost_ret (v := .agg #[.int .i64 values, .int .i64 cost]) (by simp [results, Try.results118, go_sem]) rfl ⟨rfl, (((Below.refl _ _).alloc (Nat.le_refl _) _).alloc (by simp) _).alloc (by simp; omega) _⟩

theorem Try.infoRule : (Try.prog.info? 92).map (fun i => (i.zero, i.size, i.bytes)) = some (some (.agg #[.int .i64 0, .int .i64 0]), 2, 16) := by kernel_rfl
set_option maxHeartbeats 400000 in
set_option maxRecDepth 100000 in
theorem toRuleS_any (xs : List Rule) (v : Value) (lo hi : Nat) (w : World) (hr : Rd ruleF.shape lo hi w v xs) (hh : hi ≤ w.heap.size) (hl : xs.length ≤ 1048576) :
    Calls Try.prog 84 #[v] w fun e w' => ∃ u, e = .returned u ∧ Below w.heap.size w w' ∧ Own ruleF 92 w.heap.size w'.heap.size w' u xs := by
  obtain ⟨a, c, rfl, h2, h3, h4, h5⟩ := hr.ruleF
  unfold maxLen at h3
  obtain ⟨i0, hi0, hz0, hz1, hz2⟩ := info_parts Try.infoRule
  go_enter Try.func84, Try.ntmps84
  go_wp2_with (at_make; refine wpList_make_full _ rfl _ _ 24 rfl w.heap.size 92 i0 _ 2 Try.underlying24 hi0 hz0 hz1 _ _ _ _ xs.length rfl rfl rfl rfl ?b1 ?b2 ?b3 ?_)
  case b1 => rw [hz2]; omega
  case b2 => unfold maxLen; omega
  case b3 => exact Nat.le_refl _
  intro w1 hown hg
  have hb1 : Below w.heap.size w w1 := (Below.refl _ _).grown hg (Nat.le_refl _) (fun k hk => by cases hk)
  have hO : Own ruleF 92 w.heap.size w1.heap.size w1 (.slice (some ⟨w.heap.size, 0, none⟩) xs.length xs.length) (List.replicate xs.length Rule.zero) :=
    Own.of_row hown (by simp) (made_cells ruleF (by decide) Rule.zero _ rfl _) (Nat.le_refl _)
  clear hown hg
  generalize hB : w.heap.size = B at *
  go_wp2
  go_loopw [4] (fun i wr => ∃ (k : Nat) (ys : List Rule), k ≤ xs.length ∧ i = .int .i64 k ∧ ys.length = xs.length ∧ ys.take k = xs.take k ∧ Below B w wr ∧ Own ruleF 92 B wr.heap.size wr (.slice (some ⟨B, 0, none⟩) xs.length xs.length) ys) (fun i _ => xs.length - (intOf i).toNat)
  case atStart => exact ⟨0, List.replicate xs.length Rule.zero, Nat.zero_le _, rfl, by simp, by simp, hb1, hO⟩
  case round =>
    obtain ⟨k, ys, hk, rfl, hyl, hyt, hb, hO⟩ := hrel
    by_cases hlt : k < xs.length
    · obtain ⟨b, off, rfl, hlo, hhi, c0, c1⟩ := h5 k hlt
      have d0 := (hb.cell (p := ⟨b, _, none⟩) (by show b < _; omega)).trans c0
      have d1 := (hb.cell (p := ⟨b, _, none⟩) (by show b < _; omega)).trans c1
      have hy := Lib.hid (take_set_self hlt hyl hyt)
      have hyl' := Lib.hid hyl
      clear c0 c1 hyt
      generalize xs[k] = x at *
      obtain ⟨values, cost⟩ := x
      simp only at d0 d1
      go_wp2_with fail
      refine (toRule_any ⟨values, cost⟩ _).mono ?_
      rintro e w2 ⟨he, hb2⟩
      obtain rfl : e = .returned (.agg #[.int .i64 values, .int .i64 cost]) := he
      have hO2 := hO.below hb2 (Nat.le_refl _)
      obtain ⟨u0, f0⟩ : ∃ u, w2.cell? ⟨B, k * 2, none⟩ = some u := ⟨_, (hO2.cell (j := 0) hyl.symm (by omega) (by decide)).trans rfl⟩
      have g0 : w2.frozen? ⟨B, k * 2, none⟩ = false := hO2.frozen hyl.symm _
      obtain ⟨u1, f1⟩ : ∃ u, w2.cell? ⟨B, k * 2 + 1, none⟩ = some u := ⟨_, (hO2.cell (j := 1) hyl.symm (by omega) (by decide)).trans rfl⟩
      have g1 : w2.frozen? ⟨B, k * 2 + 1, none⟩ = false := hO2.frozen hyl.symm _
      clear hyl d0 d1
      have hsz' : w.heap.size ≤ wr.heap.size := hb.size
      go_wp2
      have hb3 : Below B w (storeAll B (ruleF.enc ⟨values, cost⟩) (k * 2) w2) := blw_storeAll (hb.trans (hb2.mono (by omega))) (Nat.le_refl _) _ _
      have hO3 := ((hO2.storeAll (k := k) ⟨values, cost⟩ hyl'.out.symm (by rw [hyl'.out]; omega)).wide (Nat.le_refl _) hb2.size).wide (Nat.le_refl _) (Nat.le_of_eq (size_storeAll B (ruleF.enc ⟨values, cost⟩) (k * 2) w2).symm)
      go_roundw
      case rel => exact ⟨k + 1, _, by omega, by go_num, by simpa using hyl'.out, hy.out, hb3, hO3⟩
      case measure => simp [intOf]; omega
    · have hkk : k = xs.length := by omega
      have HK := Lib.hid hkk
      clear hkk
      go_wp2
      go_ret
      have e := HK.out
      subst e
      rw [List.take_length, List.take_of_length_le (by omega)] at hyt
      subst hyt
      subst hB
      exact ⟨_, rfl, hb, hO⟩

set_option maxHeartbeats 400000 in
theorem eqRule_any (x : Rule) (w : World) :
    Calls Try.prog 122 #[x.v, x.v] w fun e w' => e = .returned (.bool true) ∧ Below w.heap.size w w' := by
  obtain ⟨values, cost⟩ := x
  unfold Rule.v
  simp only
  go_enter Try.func122, Try.ntmps122
  go_wp2
  go_ret
  exact ⟨rfl, ((Below.refl _ _).alloc (Nat.le_refl _) _).alloc (by simp) _⟩

set_option maxHeartbeats 400000 in
set_option maxRecDepth 100000 in
theorem eqRuleS_any (xs : List Rule) (v u : Value) (lo hi lo' hi' : Nat) (w : World) (hr : Rd ruleF.shape lo hi w v xs) (hh : hi ≤ w.heap.size) (hr' : Rd ruleF.shape lo' hi' w u xs) (hh' : hi' ≤ w.heap.size) :
    Calls Try.prog 88 #[v, u] w fun e w' => e = .returned (.bool true) ∧ Below w.heap.size w w' := by
  have hl := hr.len_le
  obtain ⟨a, c, rfl, h2, h3, h4, h5⟩ := hr.ruleF
  obtain ⟨a', c', rfl, h2', h3', h4', h5'⟩ := hr'.ruleF
  unfold maxLen at h3 h3'
  go_enter Try.func88, Try.ntmps88
  go_wp2
  go_loopw [5] (fun i wr => ∃ k : Nat, k ≤ xs.length ∧ i = .int .i64 k ∧ Below w.heap.size w wr) (fun i _ => xs.length - (intOf i).toNat)
  case atStart => exact ⟨0, Nat.zero_le _, rfl, Below.refl _ _⟩
  case round =>
    obtain ⟨k, hk, rfl, hb⟩ := hrel
    by_cases hlt : k < xs.length
    · obtain ⟨b, off, rfl, hlo, hhi, c0, c1⟩ := h5 k hlt
      obtain ⟨b', off', rfl, hlo', hhi', q0, q1⟩ := h5' k hlt
      have d0 := (hb.cell (p := ⟨b, _, none⟩) (by show b < _; omega)).trans c0
      have r0 := (hb.cell (p := ⟨b', _, none⟩) (by show b' < _; omega)).trans q0
      have d1 := (hb.cell (p := ⟨b, _, none⟩) (by show b < _; omega)).trans c1
      have r1 := (hb.cell (p := ⟨b', _, none⟩) (by show b' < _; omega)).trans q1
      clear c0 q0 c1 q1
      generalize xs[k] = x at *
      obtain ⟨values, cost⟩ := x
      simp only at d0 r0 d1 r1
      go_wp2_with fail
      go_still_tail 8, (by kernel_rfl)
      change wpList _ _ _ _ _ wr.drew
      generalize hw : wr.drew = w2
      have hb2 : Below w.heap.size w w2 := by rw [← hw]; exact hb.drew
      clear hw
      go_wp2_with fail
      refine (eqRule_any ⟨values, cost⟩ _).mono ?_
      rintro e w1 ⟨rfl, hb1⟩
      go_wp2
      go_roundw
      case rel => exact ⟨k + 1, by omega, by go_num, hb2.trans (hb1.mono hb2.size)⟩
      case measure => simp [intOf]; omega
    · go_wp2
      go_ret
      exact ⟨rfl, hb⟩

/-- the element that mark m leaves -/
def Rule.mark (m : Nat) : Rule := ⟨((m : Nat) : Int), ((m + 1 : Nat) : Int)⟩
def Rule.marks (k n : Nat) : List Rule := (List.range n).map fun i => Rule.mark (k + 2 * i)
theorem Rule.marks_len (k n : Nat) : (Rule.marks k n).length = n := by simp [Rule.marks]
theorem Rule.marks_at (k n i : Nat) (h : i < (Rule.marks k n).length) : (Rule.marks k n)[i] = Rule.mark (k + 2 * i) := by simp [Rule.marks]

set_option maxHeartbeats 1000000 in
set_option maxRecDepth 100000 in
theorem markRuleS_any (xs : List Rule) (v : Value) (lo hi k : Nat) (w : World) (h : Own ruleF 92 lo hi w v xs) (hh : hi ≤ w.heap.size) (hl : xs.length ≤ 2097152) (h1 : 1 ≤ k) (h2 : k ≤ 4294967296) :
    Calls Try.prog 92 #[v, .int .i64 k] w fun e w' => e = .returned (.int .i64 ((k + 2 * xs.length : Nat) : Int)) ∧ Out lo hi w w' ∧ Own ruleF 92 lo hi w' v (Rule.marks k xs.length) := by
  obtain ⟨a, c, rfl, h3, h4, h5⟩ := h.form
  unfold maxLen at h4
  go_enter Try.func92, Try.ntmps92
  go_wp2
  go_loopw [1, 5] (fun z i wr => ∃ (q m : Nat) (ys : List Rule), q ≤ xs.length ∧ i = .int .i64 q ∧ z = .int .i64 m ∧ m ≤ k + 2 * q ∧ k ≤ m ∧ Hid (m = k + 2 * q) ∧ Hid (ys.length = xs.length) ∧ Hid (ys.take q = (Rule.marks k xs.length).take q) ∧ Out lo hi w wr ∧ Own ruleF 92 lo hi wr (.slice a xs.length c) ys) (fun _ i _ => xs.length - (intOf i).toNat)
  case atStart => exact ⟨0, k, xs, Nat.zero_le _, rfl, rfl, by omega, by omega, rfl, rfl, rfl, Out.refl _ _ _, h⟩
  case round =>
    obtain ⟨q, m, ys, hq, rfl, rfl, hm1, hm2, HM, HL, HT, ho, hO⟩ := hrel
    by_cases hlt : q < xs.length
    · obtain ⟨g, rfl, hlo, hhi⟩ := h5 (by omega)
      have HY := Lib.hid (take_set_self (k := q) (xs := Rule.marks k xs.length) (ys := ys) (by rw [Rule.marks_len]; exact hlt) (by rw [Rule.marks_len]; exact HL.out) HT.out)
      have HA := Lib.hid (Rule.marks_at k xs.length q (by rw [Rule.marks_len]; exact hlt))
      have hqy : q < ys.length := by have := HL.out; omega
      have HO := hO.self q hqy
      have hsz := ho.size
      obtain ⟨u0_wr, f0_wr⟩ : ∃ u, wr.cell? ⟨g, q * 2, none⟩ = some u := ⟨_, (HO.cell (k := q) (j := 0) (by rw [List.length_set]; exact HL.out.symm) (by rw [List.length_set]; exact hqy) (by decide)).trans (by rw [List.getElem_set_self]; rfl)⟩
      have g0_wr : wr.frozen? ⟨g, q * 2, none⟩ = false := HO.frozen (by rw [List.length_set]; exact HL.out.symm) _
      obtain ⟨u1_wr, f1_wr⟩ : ∃ u, wr.cell? ⟨g, q * 2 + 1, none⟩ = some u := ⟨_, (HO.cell (k := q) (j := 1) (by rw [List.length_set]; exact HL.out.symm) (by rw [List.length_set]; exact hqy) (by decide)).trans (by rw [List.getElem_set_self]; rfl)⟩
      have g1_wr : wr.frozen? ⟨g, q * 2 + 1, none⟩ = false := HO.frozen (by rw [List.length_set]; exact HL.out.symm) _
      go_wp2
      have OF := ((((HO).put (j := 0) (u := .int .i64 ((m : Nat) : Int)) (x := ⟨((m : Nat) : Int), ys[q].cost⟩) HL.out.symm hqy (by decide) rfl)).put (j := 1) (u := .int .i64 ((m + 1 : Nat) : Int)) (x := ⟨((m : Nat) : Int), ((m + 1 : Nat) : Int)⟩) HL.out.symm hqy (by decide) rfl)
      have EF := ((ho.setCell (p := ⟨g, q * 2, none⟩) hlo hhi (.int .i64 ((m : Nat) : Int))).setCell (p := ⟨g, q * 2 + 1, none⟩) hlo hhi (.int .i64 ((m + 1 : Nat) : Int)))
      go_roundw
      case rel => exact ⟨q + 1, m + 2, _, by omega, by go_num, by go_num, by omega, by omega, (by have := HM.out; unfold Hid; omega), (by rw [List.length_set]; exact HL.out), (by rw [← HY.out, HA.out, ← HM.out]; rfl), EF, OF⟩
      case measure => simp [intOf]; omega
    · have HK := Lib.hid (show q = xs.length by omega)
      go_wp2
      go_ret
      have e1 := HT.out
      rw [HK.out, List.take_of_length_le (by rw [HL.out]; exact Nat.le_refl _), List.take_of_length_le (by rw [Rule.marks_len]; exact Nat.le_refl _)] at e1
      subst e1
      exact ⟨ret_int (by rw [HM.out, HK.out]), ho, hO⟩
theorem markRuleS_z {xs : List Rule} {v : Value} {lo hi : Nat} (k : Nat) {z : Int} {w : World} (hz : z = (k : Nat)) (h : Own ruleF 92 lo hi w v xs) (hh : hi ≤ w.heap.size) (hl : xs.length ≤ 2097152) (h1 : 1 ≤ k) (h2 : k ≤ 4294967296) :
    Calls Try.prog 92 #[v, .int .i64 z] w fun e w' => e = .returned (.int .i64 ((k + 2 * xs.length : Nat) : Int)) ∧ Out lo hi w w' ∧ Own ruleF 92 lo hi w' v (Rule.marks k xs.length) := by
  subst hz
  exact markRuleS_any xs v lo hi k w h hh hl h1 h2
end Go.Proofs.Ytllpgomloblfjaa
