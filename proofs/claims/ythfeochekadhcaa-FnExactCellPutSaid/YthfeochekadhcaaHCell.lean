/- Cell: how it lies in memory; the law's helpers for it. By gen.py. -/
import Derived.Test.YthfeochekadhcaaMark
namespace Go.Proofs.Ythfeochekadhcaa
open Go.RowKit
structure Cell where
  name : ByteArray
  num : Int
def cellF : Flat Cell := ⟨2, fun x => [.string x.name, .int .i64 x.num], fun _ => rfl, fun x u h => by
  simp only [List.mem_cons, List.not_mem_nil, or_false] at h
  rcases h with h | h <;> subst h <;> rfl⟩
def Cell.v (x : Cell) : Value := .agg #[.string x.name, .int .i64 x.num]
def Cell.zero : Cell := ⟨ByteArray.empty, 0⟩
theorem Rd.cellF {lo hi : Nat} {w : World} {v : Value} {xs : List Cell} (h : Rd cellF.shape lo hi w v xs) :
    ∃ a c, v = .slice a xs.length c ∧ xs.length ≤ c ∧ c ≤ maxLen ∧ (a = none → c = 0) ∧
      ∀ k (h : k < xs.length), ∃ b off, a = some ⟨b, off, none⟩ ∧ lo ≤ b ∧ b < hi ∧ w.cell? ⟨b, off + k * 2, none⟩ = some (.string xs[k].name) ∧ w.cell? ⟨b, off + k * 2 + 1, none⟩ = some (.int .i64 xs[k].num) := by
  obtain ⟨a, c, h1, h2, h3, h4, h5⟩ := h
  refine ⟨a, c, h1, h2, h3, h4, fun k hk => ?_⟩
  obtain ⟨b, off, cs, e1, e2, e3, rfl, e5⟩ := h5 k hk
  exact ⟨b, off, e1, e2, e3, e5 0 _ rfl, e5 1 _ rfl⟩
theorem Try.cells84 : Try.prog.cellsOf 84 = 2 := by kernel_rfl
def Cell.Ok (x : Cell) : Prop := SzOk x.name ∧ I64 x.num
theorem opens_Cell : Opens Try.prog cellF.shape 84 Cell.Ok := by
  intro H enc w base spare held fuel cs x hx
  obtain ⟨ys, m, _, _, hlen, hl, hf⟩ := DataW.trod_struct Try.underlying84 hx
  rw [Try.cells84] at hlen
  obtain ⟨c0, r0, rfl, hn0⟩ := list_cons hlen
  obtain ⟨c1, r1, rfl, hn1⟩ := list_cons hn0
  obtain rfl := list_nil hn1
  have h0 : DataW.trod enc Try.prog w base spare held m 9 ((([c0, c1] : List Value).drop 0).take (Try.prog.cellsOf 9)) = ys[0]? := hf 0 _ rfl
  rw [Try.cellsStr, List.getElem?_eq_getElem (show 0 < ys.length by rw [hl]; exact of_decide_eq_true rfl)] at h0
  obtain ⟨a0, e0, k0⟩ := opens_str Try.underlying9 H enc w base spare held m _ _ h0
  have h1 : DataW.trod enc Try.prog w base spare held m 3 ((([c0, c1] : List Value).drop 1).take (Try.prog.cellsOf 3)) = ys[1]? := hf 1 _ rfl
  rw [Try.cellsInt, List.getElem?_eq_getElem (show 1 < ys.length by rw [hl]; exact of_decide_eq_true rfl)] at h1
  obtain ⟨a1, e1, k1⟩ := opens_int Try.underlying3 H enc w base spare held m _ _ h1
  obtain rfl : c0 = .string a0 := (List.cons.inj e0).1
  obtain rfl : c1 = .int .i64 a1 := (List.cons.inj e1).1
  exact ⟨⟨a0, a1⟩, rfl, k0, k1⟩

set_option maxHeartbeats 400000 in
theorem szCell_any (x : Cell) (left : Int) (w : World) (h0 : 0 ≤ left) (h1 : left ≤ 1048576) (hs : x.name.size ≤ maxLen) :
    Calls Try.prog 68 #[x.v, .int .i64 left] w fun e w' => e = .returned (.int .i64 (szR left x.name.size)) ∧ Below w.heap.size w w' := by
  unfold maxLen at hs
  obtain ⟨name, num⟩ := x
  unfold Cell.v
  simp only at hs ⊢
  by_cases hc : left - (name.size : Int) < 0
  · go_enter Try.func68, Try.ntmps68
    go_wp2
    go_ret
    exact ⟨ret_int (szR_no hc), (Below.refl _ _).alloc (Nat.le_refl _) _⟩
  · go_enter Try.func68, Try.ntmps68
    go_wp2
    go_ret
    exact ⟨ret_int (szR_yes (by omega)), (Below.refl _ _).alloc (Nat.le_refl _) _⟩

/-- what a list of them weighs -/
def Cell.wts (xs : List Cell) : Nat := xs.length + sumOf (fun x : Cell => x.name.size) xs
theorem Cell.wts_ge (xs : List Cell) : xs.length ≤ Cell.wts xs := Nat.le_add_right _ _
set_option maxHeartbeats 400000 in
theorem szCellS_any (xs : List Cell) (v : Value) (lo hi : Nat) (left : Int) (w : World) (hr : Rd cellF.shape lo hi w v xs) (hh : hi ≤ w.heap.size) (h0 : 0 ≤ left) (h1 : left ≤ 1048576) (hs : ∀ x ∈ xs, x.name.size ≤ maxLen) :
    Calls Try.prog 17 #[v, .int .i64 left] w fun e w' => e = .returned (.int .i64 (szR left (Cell.wts xs))) ∧ Below w.heap.size w w' := by
  have hl := hr.len_le
  obtain ⟨a, c, rfl, h2, h3, h4, h5⟩ := hr.cellF
  unfold maxLen at h3
  unfold Cell.wts
  by_cases hc : left - (xs.length : Int) < 0
  · go_enter Try.func17, Try.ntmps17
    go_wp2
    go_ret
    exact ⟨ret_int (szR_no (by omega)), (Below.refl _ _)⟩
  · go_enter Try.func17, Try.ntmps17
    go_wp2
    go_loopw [1, 5] (fun l i wr => ∃ k : Nat, k ≤ xs.length ∧ i = .int .i64 k ∧ 0 ≤ left - (xs.length + sumOf (fun x : Cell => x.name.size) (xs.take k) : Nat) ∧ l = .int .i64 (left - (xs.length + sumOf (fun x : Cell => x.name.size) (xs.take k) : Nat)) ∧ Below w.heap.size w wr) (fun _ i _ => xs.length - (intOf i).toNat)
    case atStart => exact ⟨0, Nat.zero_le _, rfl, by simp [sumOf]; omega, by simp [sumOf], Below.refl _ _⟩
    case round =>
      obtain ⟨k, hk, rfl, hp, rfl, hb⟩ := hrel
      by_cases hlt : k < xs.length
      · obtain ⟨b, off, rfl, hlo, hhi, c0, c1⟩ := h5 k hlt
        have d0 := (hb.cell (p := ⟨b, _, none⟩) (by show b < _; omega)).trans c0
        have d1 := (hb.cell (p := ⟨b, _, none⟩) (by show b < _; omega)).trans c1
        have hx := hs _ (List.getElem_mem hlt)
        have HS := Lib.hid (sumOf_succ (fun x : Cell => x.name.size) xs k hlt)
        have HL := Lib.hid (sumOf_le (fun x : Cell => x.name.size) xs (k + 1))
        have hle : (xs.length + sumOf (fun x : Cell => x.name.size) (xs.take k) : Nat) + xs[k].name.size = (xs.length + sumOf (fun x : Cell => x.name.size) (xs.take (k + 1)) : Nat) := by rw [HS.out]; omega
        have HE := Lib.hid hle
        clear hle
        have hge : (xs.length + sumOf (fun x : Cell => x.name.size) (xs.take (k + 1)) : Nat) ≤ xs.length + sumOf (fun x : Cell => x.name.size) xs := by have := HL.out; omega
        go_wp2_with fail
        refine (szCell_any xs[k] _ _ hp (by omega) hx).mono ?_
        rintro e w1 ⟨rfl, hb1⟩
        rw [szR_add, HE.out]
        by_cases hz : left - (xs.length + sumOf (fun x : Cell => x.name.size) (xs.take (k + 1)) : Nat) < 0
        · have hz' := Lib.hid (szR_no hz)
          rw [← hz'.out]
          go_wp2
          go_ret
          exact ⟨ret_int (szR_no (by omega)), hb.trans (hb1.mono hb.size)⟩
        · have hz' := Lib.hid (szR_yes (Int.not_lt.1 hz))
          rw [← hz'.out]
          go_wp2
          go_roundw
          case rel => exact ⟨k + 1, by omega, by go_num, by omega, rfl, hb.trans (hb1.mono hb.size)⟩
          case measure => simp [intOf]; omega
      · have hkk : k = xs.length := by omega
        have HS := Lib.hid (sumOf_all (fun x : Cell => x.name.size) xs)
        have HK := Lib.hid hkk
        clear hkk
        go_wp2
        go_ret
        have e := HK.out
        subst e
        rw [HS.out] at hp
        exact ⟨ret_int (by rw [HS.out]; exact szR_yes hp), hb⟩

set_option maxHeartbeats 400000 in
theorem toCell_any (x : Cell) (w : World) :
    Calls Try.prog 69 #[x.v] w fun e w' => e = .returned x.v ∧ Below w.heap.size w w' := by
  obtain ⟨name, num⟩ := x
  unfold Cell.v
  simp only
  go_enter Try.func69, Try.ntmps69
  go_wp2
  exact bodyPost_ret (v := .agg #[.string name, .int .i64 num]) (by simp [results, Try.results69, go_sem]) rfl ⟨rfl, (((Below.refl _ _).alloc (Nat.le_refl _) _).alloc (by simp) _).alloc (by simp; omega) _⟩

theorem Try.infoCell : (Try.prog.info? 85).map (fun i => (i.zero, i.size, i.bytes)) = some (some (.agg #[.string ByteArray.empty, .int .i64 0]), 2, 24) := by kernel_rfl
set_option maxHeartbeats 400000 in
set_option maxRecDepth 100000 in
theorem toCellS_any (xs : List Cell) (v : Value) (lo hi : Nat) (w : World) (hr : Rd cellF.shape lo hi w v xs) (hh : hi ≤ w.heap.size) (hl : xs.length ≤ 1048576) :
    Calls Try.prog 19 #[v] w fun e w' => ∃ u, e = .returned u ∧ Below w.heap.size w w' ∧ Own cellF 85 w.heap.size w'.heap.size w' u xs := by
  obtain ⟨a, c, rfl, h2, h3, h4, h5⟩ := hr.cellF
  unfold maxLen at h3
  obtain ⟨i0, hi0, hz0, hz1, hz2⟩ := info_parts Try.infoCell
  go_enter Try.func19, Try.ntmps19
  go_wp2_with (at_make; refine wpList_make_full _ rfl _ _ 28 rfl w.heap.size 85 i0 _ 2 Try.underlying28 hi0 hz0 hz1 _ _ _ _ xs.length rfl rfl rfl rfl ?b1 ?b2 ?b3 ?_)
  case b1 => rw [hz2]; omega
  case b2 => unfold maxLen; omega
  case b3 => exact Nat.le_refl _
  intro w1 hown hg
  have hb1 : Below w.heap.size w w1 := (Below.refl _ _).grown hg (Nat.le_refl _) (fun k hk => by cases hk)
  have hO : Own cellF 85 w.heap.size w1.heap.size w1 (.slice (some ⟨w.heap.size, 0, none⟩) xs.length xs.length) (List.replicate xs.length Cell.zero) :=
    Own.of_row hown (by simp) (made_cells cellF (by decide) Cell.zero _ rfl _) (Nat.le_refl _)
  clear hown hg
  generalize hB : w.heap.size = B at *
  go_wp2
  go_loopw [4] (fun i wr => ∃ (k : Nat) (ys : List Cell), k ≤ xs.length ∧ i = .int .i64 k ∧ ys.length = xs.length ∧ ys.take k = xs.take k ∧ Below B w wr ∧ Own cellF 85 B wr.heap.size wr (.slice (some ⟨B, 0, none⟩) xs.length xs.length) ys) (fun i _ => xs.length - (intOf i).toNat)
  case atStart => exact ⟨0, List.replicate xs.length Cell.zero, Nat.zero_le _, rfl, by simp, by simp, hb1, hO⟩
  case round =>
    obtain ⟨k, ys, hk, rfl, hyl, hyt, hb, hO⟩ := hrel
    by_cases hlt : k < xs.length
    · obtain ⟨b, off, rfl, hlo, hhi, c0, c1⟩ := h5 k hlt
      have d0 := (hb.cell (p := ⟨b, _, none⟩) (by show b < _; omega)).trans c0
      have d1 := (hb.cell (p := ⟨b, _, none⟩) (by show b < _; omega)).trans c1
      have hy := Lib.hid (take_set_self hlt hyl hyt)
      have hyl' := Lib.hid hyl
      clear c0 c1 hyt
      generalize xs[k] = x at *
      obtain ⟨name, num⟩ := x
      simp only at d0 d1
      go_wp2_with fail
      refine (toCell_any ⟨name, num⟩ _).mono ?_
      rintro e w2 ⟨he, hb2⟩
      obtain rfl : e = .returned (.agg #[.string name, .int .i64 num]) := he
      have hO2 := hO.below hb2 (Nat.le_refl _)
      obtain ⟨u0, f0⟩ : ∃ u, w2.cell? ⟨B, k * 2, none⟩ = some u := ⟨_, (hO2.cell (j := 0) hyl.symm (by omega) (by decide)).trans rfl⟩
      have g0 : w2.frozen? ⟨B, k * 2, none⟩ = false := hO2.frozen hyl.symm _
      obtain ⟨u1, f1⟩ : ∃ u, w2.cell? ⟨B, k * 2 + 1, none⟩ = some u := ⟨_, (hO2.cell (j := 1) hyl.symm (by omega) (by decide)).trans rfl⟩
      have g1 : w2.frozen? ⟨B, k * 2 + 1, none⟩ = false := hO2.frozen hyl.symm _
      clear hyl d0 d1
      have hsz' : w.heap.size ≤ wr.heap.size := hb.size
      go_wp2
      have hb3 : Below B w (storeAll B (cellF.enc ⟨name, num⟩) (k * 2) w2) := blw_storeAll (hb.trans (hb2.mono (by omega))) (Nat.le_refl _) _ _
      have hO3 := ((hO2.storeAll (k := k) ⟨name, num⟩ hyl'.out.symm (by rw [hyl'.out]; omega)).wide (Nat.le_refl _) hb2.size).wide (Nat.le_refl _) (Nat.le_of_eq (size_storeAll B (cellF.enc ⟨name, num⟩) (k * 2) w2).symm)
      go_roundw
      case rel => exact ⟨k + 1, _, by omega, by go_num, by simpa using hyl'.out, hy.out, hb3, hO3⟩
      case measure => simp [intOf]; omega
    · have hkk : k = xs.length := by omega
      have HK := Lib.hid hkk
      clear hkk
      go_wp2
      go_ret
      have e := HK.out
      subst e
      rw [List.take_length, List.take_of_length_le (by omega)] at hyt
      subst hyt
      subst hB
      exact ⟨_, rfl, hb, hO⟩

set_option maxHeartbeats 400000 in
theorem eqCell_any (x : Cell) (w : World) :
    Calls Try.prog 70 #[x.v, x.v] w fun e w' => e = .returned (.bool true) ∧ Below w.heap.size w w' := by
  obtain ⟨name, num⟩ := x
  unfold Cell.v
  simp only
  go_enter Try.func70, Try.ntmps70
  go_wp2
  go_ret
  exact ⟨rfl, ((Below.refl _ _).alloc (Nat.le_refl _) _).alloc (by simp) _⟩

set_option maxHeartbeats 400000 in
set_option maxRecDepth 100000 in
theorem eqCellS_any (xs : List Cell) (v u : Value) (lo hi lo' hi' : Nat) (w : World) (hr : Rd cellF.shape lo hi w v xs) (hh : hi ≤ w.heap.size) (hr' : Rd cellF.shape lo' hi' w u xs) (hh' : hi' ≤ w.heap.size) :
    Calls Try.prog 21 #[v, u] w fun e w' => e = .returned (.bool true) ∧ Below w.heap.size w w' := by
  have hl := hr.len_le
  obtain ⟨a, c, rfl, h2, h3, h4, h5⟩ := hr.cellF
  obtain ⟨a', c', rfl, h2', h3', h4', h5'⟩ := hr'.cellF
  unfold maxLen at h3 h3'
  go_enter Try.func21, Try.ntmps21
  go_wp2
  go_loopw [5] (fun i wr => ∃ k : Nat, k ≤ xs.length ∧ i = .int .i64 k ∧ Below w.heap.size w wr) (fun i _ => xs.length - (intOf i).toNat)
  case atStart => exact ⟨0, Nat.zero_le _, rfl, Below.refl _ _⟩
  case round =>
    obtain ⟨k, hk, rfl, hb⟩ := hrel
    by_cases hlt : k < xs.length
    · obtain ⟨b, off, rfl, hlo, hhi, c0, c1⟩ := h5 k hlt
      obtain ⟨b', off', rfl, hlo', hhi', q0, q1⟩ := h5' k hlt
      have d0 := (hb.cell (p := ⟨b, _, none⟩) (by show b < _; omega)).trans c0
      have r0 := (hb.cell (p := ⟨b', _, none⟩) (by show b' < _; omega)).trans q0
      have d1 := (hb.cell (p := ⟨b, _, none⟩) (by show b < _; omega)).trans c1
      have r1 := (hb.cell (p := ⟨b', _, none⟩) (by show b' < _; omega)).trans q1
      clear c0 q0 c1 q1
      generalize xs[k] = x at *
      obtain ⟨name, num⟩ := x
      simp only at d0 r0 d1 r1
      go_wp2_with fail
      go_still_tail 8, (by kernel_rfl)
      change wpList _ _ _ _ _ wr.drew
      generalize hw : wr.drew = w2
      have hb2 : Below w.heap.size w w2 := by rw [← hw]; exact hb.drew
      clear hw
      go_wp2_with fail
      refine (eqCell_any ⟨name, num⟩ _).mono ?_
      rintro e w1 ⟨rfl, hb1⟩
      go_wp2
      go_roundw
      case rel => exact ⟨k + 1, by omega, by go_num, hb2.trans (hb1.mono hb2.size)⟩
      case measure => simp [intOf]; omega
    · go_wp2
      go_ret
      exact ⟨rfl, hb⟩

/-- the element that mark m leaves -/
def Cell.mark (m : Nat) : Cell := ⟨mt (m), ((m + 1 : Nat) : Int)⟩
def Cell.marks (k n : Nat) : List Cell := (List.range n).map fun i => Cell.mark (k + 2 * i)
theorem Cell.marks_len (k n : Nat) : (Cell.marks k n).length = n := by simp [Cell.marks]
theorem Cell.marks_at (k n i : Nat) (h : i < (Cell.marks k n).length) : (Cell.marks k n)[i] = Cell.mark (k + 2 * i) := by simp [Cell.marks]

set_option maxHeartbeats 1000000 in
set_option maxRecDepth 100000 in
theorem markCellS_any (xs : List Cell) (v : Value) (lo hi k : Nat) (w : World) (h : Own cellF 85 lo hi w v xs) (hh : hi ≤ w.heap.size) (hl : xs.length ≤ 2097152) (h1 : 1 ≤ k) (h2 : k ≤ 4294967296) :
    Calls Try.prog 64 #[v, .int .i64 k] w fun e w' => e = .returned (.int .i64 ((k + 2 * xs.length : Nat) : Int)) ∧ Out lo hi w w' ∧ Own cellF 85 lo hi w' v (Cell.marks k xs.length) := by
  obtain ⟨a, c, rfl, h3, h4, h5⟩ := h.form
  unfold maxLen at h4
  go_enter Try.func64, Try.ntmps64
  go_wp2
  go_loopw [1, 5] (fun z i wr => ∃ (q m : Nat) (ys : List Cell), q ≤ xs.length ∧ i = .int .i64 q ∧ z = .int .i64 m ∧ m ≤ k + 2 * q ∧ k ≤ m ∧ Hid (m = k + 2 * q) ∧ Hid (ys.length = xs.length) ∧ Hid (ys.take q = (Cell.marks k xs.length).take q) ∧ Out lo hi w wr ∧ Own cellF 85 lo hi wr (.slice a xs.length c) ys) (fun _ i _ => xs.length - (intOf i).toNat)
  case atStart => exact ⟨0, k, xs, Nat.zero_le _, rfl, rfl, by omega, by omega, rfl, rfl, rfl, Out.refl _ _ _, h⟩
  case round =>
    obtain ⟨q, m, ys, hq, rfl, rfl, hm1, hm2, HM, HL, HT, ho, hO⟩ := hrel
    by_cases hlt : q < xs.length
    · obtain ⟨g, rfl, hlo, hhi⟩ := h5 (by omega)
      have HY := Lib.hid (take_set_self (k := q) (xs := Cell.marks k xs.length) (ys := ys) (by rw [Cell.marks_len]; exact hlt) (by rw [Cell.marks_len]; exact HL.out) HT.out)
      have HA := Lib.hid (Cell.marks_at k xs.length q (by rw [Cell.marks_len]; exact hlt))
      have hqy : q < ys.length := by have := HL.out; omega
      have HO := hO.self q hqy
      have hsz := ho.size
      go_wp2_with fail
      refine (markText_z _ (m) (by omega) _ (by omega) (by omega)).mono ?_
      rintro e w1 ⟨rfl, hb1⟩
      have Z1 := hb1.size
      have Q1 := (HO).below hb1 (Nat.le_trans hh (ho).size)
      have R1 := (ho).trans (Out.of_below hb1)
      obtain ⟨u0_w1, f0_w1⟩ : ∃ u, w1.cell? ⟨g, q * 2, none⟩ = some u := ⟨_, (Q1.cell (k := q) (j := 0) (by rw [List.length_set]; exact HL.out.symm) (by rw [List.length_set]; exact hqy) (by decide)).trans (by rw [List.getElem_set_self]; rfl)⟩
      have g0_w1 : w1.frozen? ⟨g, q * 2, none⟩ = false := Q1.frozen (by rw [List.length_set]; exact HL.out.symm) _
      obtain ⟨u1_w1, f1_w1⟩ : ∃ u, w1.cell? ⟨g, q * 2 + 1, none⟩ = some u := ⟨_, (Q1.cell (k := q) (j := 1) (by rw [List.length_set]; exact HL.out.symm) (by rw [List.length_set]; exact hqy) (by decide)).trans (by rw [List.getElem_set_self]; rfl)⟩
      have g1_w1 : w1.frozen? ⟨g, q * 2 + 1, none⟩ = false := Q1.frozen (by rw [List.length_set]; exact HL.out.symm) _
      go_wp2
      have OF := ((((Q1).put (j := 0) (u := .string (mt (m))) (x := ⟨mt (m), ys[q].num⟩) HL.out.symm hqy (by decide) rfl)).put (j := 1) (u := .int .i64 ((m + 1 : Nat) : Int)) (x := ⟨mt (m), ((m + 1 : Nat) : Int)⟩) HL.out.symm hqy (by decide) rfl)
      have EF := ((R1.setCell (p := ⟨g, q * 2, none⟩) hlo hhi (.string (mt (m)))).setCell (p := ⟨g, q * 2 + 1, none⟩) hlo hhi (.int .i64 ((m + 1 : Nat) : Int)))
      go_roundw
      case rel => exact ⟨q + 1, m + 2, _, by omega, by go_num, by go_num, by omega, by omega, (by have := HM.out; unfold Hid; omega), (by rw [List.length_set]; exact HL.out), (by rw [← HY.out, HA.out, ← HM.out]; rfl), EF, OF⟩
      case measure => simp [intOf]; omega
    · have HK := Lib.hid (show q = xs.length by omega)
      go_wp2
      go_ret
      have e1 := HT.out
      rw [HK.out, List.take_of_length_le (by rw [HL.out]; exact Nat.le_refl _), List.take_of_length_le (by rw [Cell.marks_len]; exact Nat.le_refl _)] at e1
      subst e1
      exact ⟨ret_int (by rw [HM.out, HK.out]), ho, hO⟩
theorem markCellS_z {xs : List Cell} {v : Value} {lo hi : Nat} (k : Nat) {z : Int} {w : World} (hz : z = (k : Nat)) (h : Own cellF 85 lo hi w v xs) (hh : hi ≤ w.heap.size) (hl : xs.length ≤ 2097152) (h1 : 1 ≤ k) (h2 : k ≤ 4294967296) :
    Calls Try.prog 64 #[v, .int .i64 z] w fun e w' => e = .returned (.int .i64 ((k + 2 * xs.length : Nat) : Int)) ∧ Out lo hi w w' ∧ Own cellF 85 lo hi w' v (Cell.marks k xs.length) := by
  subst hz
  exact markCellS_any xs v lo hi k w h hh hl h1 h2

set_option maxHeartbeats 1000000 in
set_option maxRecDepth 100000 in
theorem heldCellS_any (v : Value) (lo hi k n : Nat) (w : World) (hr : Rd cellF.shape lo hi w v (Cell.marks k n)) (hh : hi ≤ w.heap.size) (hl : n ≤ 2097152) (h1 : 1 ≤ k) (h2 : k ≤ 4294967296) :
    Calls Try.prog 65 #[v, .int .i64 k] w fun e w' => e = .returned (.int .i64 ((k + 2 * n : Nat) : Int)) ∧ Below w.heap.size w w' := by
  have HX := Lib.hid (Cell.marks_len k n)
  obtain ⟨a, c, rfl, h3, h4, _, h5⟩ := hr.cellF
  rw [HX.out] at h3 ⊢
  unfold maxLen at h4
  go_enter Try.func65, Try.ntmps65
  go_wp2
  go_loopw [1, 5] (fun z i wr => ∃ (q m : Nat), q ≤ n ∧ i = .int .i64 q ∧ z = .int .i64 m ∧ m ≤ k + 2 * q ∧ k ≤ m ∧ Hid (m = k + 2 * q) ∧ Below w.heap.size w wr) (fun _ i _ => n - (intOf i).toNat)
  case atStart => exact ⟨0, k, Nat.zero_le _, rfl, rfl, by omega, by omega, rfl, Below.refl _ _⟩
  case round =>
    obtain ⟨q, m, hq, rfl, rfl, hm1, hm2, HM, hb⟩ := hrel
    by_cases hlt : q < n
    · obtain ⟨b, off, rfl, hlo, hhi, c0, c1⟩ := h5 q (by rw [HX.out]; exact hlt)
      rw [Cell.marks_at, ← HM.out] at c0 c1
      have hqi : (q : Int) < (n : Int) := by omega
      have d0 : wr.cell? ⟨b, off + q * 2, none⟩ = some (.string (mt (m))) := (hb.cell (p := ⟨b, _, none⟩) (by show b < _; omega)).trans c0
      have d1 : wr.cell? ⟨b, off + q * 2 + 1, none⟩ = some (.int .i64 (((m + 1 : Nat) : Int))) := (hb.cell (p := ⟨b, _, none⟩) (by show b < _; omega)).trans c1
      go_wp2_with fail
      go_region_held3 (fun w' => w'.cell? ⟨b, off + q * 2, none⟩ = some (.string (mt (m))) ∧ Below w.heap.size w w')
        (first | exact ⟨d0, hb⟩ | exact ⟨d0, hb.drew⟩ | exact keep1 (by assumption) hb' | go_keep)
        ((go_at_call 94; refine (markText_z _ (m) (by omega) _ (by omega) (by omega)).mono ?_; rintro e w' ⟨rfl, hb'⟩))
      clear d0 d1
      rename_i hG1
      have d1 : w'.cell? ⟨b, off + q * 2 + 1, none⟩ = some (.int .i64 (((m + 1 : Nat) : Int))) := (hG1.2.cell (p := ⟨b, _, none⟩) (by show b < _; omega)).trans c1
      go_wp2
      go_roundw
      case rel => exact ⟨q + 1, m + 2, by omega, by go_num, by go_num, by omega, by omega, (by have := HM.out; unfold Hid; omega), hG1.2⟩
      case measure => simp [intOf]; omega
    · have HK := Lib.hid (show q = n by omega)
      go_wp2
      go_ret
      exact ⟨ret_int (by rw [HM.out, HK.out]), hb⟩
theorem heldCellS_z {v : Value} {lo hi : Nat} (k n : Nat) {z : Int} {w : World} (hz : z = (k : Nat)) (hr : Rd cellF.shape lo hi w v (Cell.marks k n)) (hh : hi ≤ w.heap.size) (hl : n ≤ 2097152) (h1 : 1 ≤ k) (h2 : k ≤ 4294967296) :
    Calls Try.prog 65 #[v, .int .i64 z] w fun e w' => e = .returned (.int .i64 ((k + 2 * n : Nat) : Int)) ∧ Below w.heap.size w w' := by
  subst hz
  exact heldCellS_any v lo hi k n w hr hh hl h1 h2
end Go.Proofs.Ythfeochekadhcaa
