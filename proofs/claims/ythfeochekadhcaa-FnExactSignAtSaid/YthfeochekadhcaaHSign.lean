/- Sign: how it lies in memory; the law's helpers for it. By gen.py. -/
import Derived.Test.YthfeochekadhcaaBase
namespace Go.Proofs.Ythfeochekadhcaa
open Go.RowKit
structure Sign where
  kind : Int
  text : ByteArray
  pos : Int
  blank : Bool
def signF : Flat Sign := ⟨4, fun x => [.int .i64 x.kind, .string x.text, .int .i64 x.pos, .bool x.blank], fun _ => rfl, fun x u h => by
  simp only [List.mem_cons, List.not_mem_nil, or_false] at h
  rcases h with h | h | h | h <;> subst h <;> rfl⟩
def Sign.v (x : Sign) : Value := .agg #[.int .i64 x.kind, .string x.text, .int .i64 x.pos, .bool x.blank]
def Sign.zero : Sign := ⟨0, ByteArray.empty, 0, false⟩
theorem Rd.signF {lo hi : Nat} {w : World} {v : Value} {xs : List Sign} (h : Rd signF.shape lo hi w v xs) :
    ∃ a c, v = .slice a xs.length c ∧ xs.length ≤ c ∧ c ≤ maxLen ∧ (a = none → c = 0) ∧
      ∀ k (h : k < xs.length), ∃ b off, a = some ⟨b, off, none⟩ ∧ lo ≤ b ∧ b < hi ∧ w.cell? ⟨b, off + k * 4, none⟩ = some (.int .i64 xs[k].kind) ∧ w.cell? ⟨b, off + k * 4 + 1, none⟩ = some (.string xs[k].text) ∧ w.cell? ⟨b, off + k * 4 + 1 + 1, none⟩ = some (.int .i64 xs[k].pos) ∧ w.cell? ⟨b, off + k * 4 + 1 + 1 + 1, none⟩ = some (.bool xs[k].blank) := by
  obtain ⟨a, c, h1, h2, h3, h4, h5⟩ := h
  refine ⟨a, c, h1, h2, h3, h4, fun k hk => ?_⟩
  obtain ⟨b, off, cs, e1, e2, e3, rfl, e5⟩ := h5 k hk
  exact ⟨b, off, e1, e2, e3, e5 0 _ rfl, e5 1 _ rfl, e5 2 _ rfl, e5 3 _ rfl⟩
theorem Try.cells96 : Try.prog.cellsOf 96 = 4 := by kernel_rfl
def Sign.Ok (x : Sign) : Prop := I64 x.kind ∧ SzOk x.text ∧ I64 x.pos ∧ True
theorem opens_Sign : Opens Try.prog signF.shape 96 Sign.Ok := by
  intro H enc w base spare held fuel cs x hx
  obtain ⟨ys, m, _, _, hlen, hl, hf⟩ := DataW.trod_struct Try.underlying96 hx
  rw [Try.cells96] at hlen
  obtain ⟨c0, r0, rfl, hn0⟩ := list_cons hlen
  obtain ⟨c1, r1, rfl, hn1⟩ := list_cons hn0
  obtain ⟨c2, r2, rfl, hn2⟩ := list_cons hn1
  obtain ⟨c3, r3, rfl, hn3⟩ := list_cons hn2
  obtain rfl := list_nil hn3
  have h0 : DataW.trod enc Try.prog w base spare held m 3 ((([c0, c1, c2, c3] : List Value).drop 0).take (Try.prog.cellsOf 3)) = ys[0]? := hf 0 _ rfl
  rw [Try.cellsInt, List.getElem?_eq_getElem (show 0 < ys.length by rw [hl]; exact of_decide_eq_true rfl)] at h0
  obtain ⟨a0, e0, k0⟩ := opens_int Try.underlying3 H enc w base spare held m _ _ h0
  have h1 : DataW.trod enc Try.prog w base spare held m 9 ((([c0, c1, c2, c3] : List Value).drop 1).take (Try.prog.cellsOf 9)) = ys[1]? := hf 1 _ rfl
  rw [Try.cellsStr, List.getElem?_eq_getElem (show 1 < ys.length by rw [hl]; exact of_decide_eq_true rfl)] at h1
  obtain ⟨a1, e1, k1⟩ := opens_str Try.underlying9 H enc w base spare held m _ _ h1
  have h2 : DataW.trod enc Try.prog w base spare held m 3 ((([c0, c1, c2, c3] : List Value).drop 2).take (Try.prog.cellsOf 3)) = ys[2]? := hf 2 _ rfl
  rw [Try.cellsInt, List.getElem?_eq_getElem (show 2 < ys.length by rw [hl]; exact of_decide_eq_true rfl)] at h2
  obtain ⟨a2, e2, k2⟩ := opens_int Try.underlying3 H enc w base spare held m _ _ h2
  have h3 : DataW.trod enc Try.prog w base spare held m 4 ((([c0, c1, c2, c3] : List Value).drop 3).take (Try.prog.cellsOf 4)) = ys[3]? := hf 3 _ rfl
  rw [Try.cellsBool, List.getElem?_eq_getElem (show 3 < ys.length by rw [hl]; exact of_decide_eq_true rfl)] at h3
  obtain ⟨a3, e3, k3⟩ := opens_bool Try.underlying4 H enc w base spare held m _ _ h3
  obtain rfl : c0 = .int .i64 a0 := (List.cons.inj e0).1
  obtain rfl : c1 = .string a1 := (List.cons.inj e1).1
  obtain rfl : c2 = .int .i64 a2 := (List.cons.inj e2).1
  obtain rfl : c3 = .bool a3 := (List.cons.inj e3).1
  exact ⟨⟨a0, a1, a2, a3⟩, rfl, k0, k1, k2, k3⟩

set_option maxHeartbeats 400000 in
theorem szSign_any (x : Sign) (left : Int) (w : World) (h0 : 0 ≤ left) (h1 : left ≤ 1048576) (hs : x.text.size ≤ maxLen) :
    Calls Try.prog 74 #[x.v, .int .i64 left] w fun e w' => e = .returned (.int .i64 (szR left x.text.size)) ∧ Below w.heap.size w w' := by
  unfold maxLen at hs
  obtain ⟨kind, text, pos, blank⟩ := x
  unfold Sign.v
  simp only at hs ⊢
  by_cases hc : left - (text.size : Int) < 0
  · go_enter Try.func74, Try.ntmps74
    go_wp2
    go_ret
    exact ⟨ret_int (szR_no hc), (Below.refl _ _).alloc (Nat.le_refl _) _⟩
  · go_enter Try.func74, Try.ntmps74
    go_wp2
    go_ret
    exact ⟨ret_int (szR_yes (by omega)), (Below.refl _ _).alloc (Nat.le_refl _) _⟩

/-- what a list of them weighs -/
def Sign.wts (xs : List Sign) : Nat := xs.length + sumOf (fun x : Sign => x.text.size) xs
theorem Sign.wts_ge (xs : List Sign) : xs.length ≤ Sign.wts xs := Nat.le_add_right _ _
set_option maxHeartbeats 400000 in
theorem szSignS_any (xs : List Sign) (v : Value) (lo hi : Nat) (left : Int) (w : World) (hr : Rd signF.shape lo hi w v xs) (hh : hi ≤ w.heap.size) (h0 : 0 ≤ left) (h1 : left ≤ 1048576) (hs : ∀ x ∈ xs, x.text.size ≤ maxLen) :
    Calls Try.prog 27 #[v, .int .i64 left] w fun e w' => e = .returned (.int .i64 (szR left (Sign.wts xs))) ∧ Below w.heap.size w w' := by
  have hl := hr.len_le
  obtain ⟨a, c, rfl, h2, h3, h4, h5⟩ := hr.signF
  unfold maxLen at h3
  unfold Sign.wts
  by_cases hc : left - (xs.length : Int) < 0
  · go_enter Try.func27, Try.ntmps27
    go_wp2
    go_ret
    exact ⟨ret_int (szR_no (by omega)), (Below.refl _ _)⟩
  · go_enter Try.func27, Try.ntmps27
    go_wp2
    go_loopw [1, 5] (fun l i wr => ∃ k : Nat, k ≤ xs.length ∧ i = .int .i64 k ∧ 0 ≤ left - (xs.length + sumOf (fun x : Sign => x.text.size) (xs.take k) : Nat) ∧ l = .int .i64 (left - (xs.length + sumOf (fun x : Sign => x.text.size) (xs.take k) : Nat)) ∧ Below w.heap.size w wr) (fun _ i _ => xs.length - (intOf i).toNat)
    case atStart => exact ⟨0, Nat.zero_le _, rfl, by simp [sumOf]; omega, by simp [sumOf], Below.refl _ _⟩
    case round =>
      obtain ⟨k, hk, rfl, hp, rfl, hb⟩ := hrel
      by_cases hlt : k < xs.length
      · obtain ⟨b, off, rfl, hlo, hhi, c0, c1, c2, c3⟩ := h5 k hlt
        have d0 := (hb.cell (p := ⟨b, _, none⟩) (by show b < _; omega)).trans c0
        have d1 := (hb.cell (p := ⟨b, _, none⟩) (by show b < _; omega)).trans c1
        have d2 := (hb.cell (p := ⟨b, _, none⟩) (by show b < _; omega)).trans c2
        have d3 := (hb.cell (p := ⟨b, _, none⟩) (by show b < _; omega)).trans c3
        have hx := hs _ (List.getElem_mem hlt)
        have HS := Lib.hid (sumOf_succ (fun x : Sign => x.text.size) xs k hlt)
        have HL := Lib.hid (sumOf_le (fun x : Sign => x.text.size) xs (k + 1))
        have hle : (xs.length + sumOf (fun x : Sign => x.text.size) (xs.take k) : Nat) + xs[k].text.size = (xs.length + sumOf (fun x : Sign => x.text.size) (xs.take (k + 1)) : Nat) := by rw [HS.out]; omega
        have HE := Lib.hid hle
        clear hle
        have hge : (xs.length + sumOf (fun x : Sign => x.text.size) (xs.take (k + 1)) : Nat) ≤ xs.length + sumOf (fun x : Sign => x.text.size) xs := by have := HL.out; omega
        go_wp2_with fail
        refine (szSign_any xs[k] _ _ hp (by omega) hx).mono ?_
        rintro e w1 ⟨rfl, hb1⟩
        rw [szR_add, HE.out]
        by_cases hz : left - (xs.length + sumOf (fun x : Sign => x.text.size) (xs.take (k + 1)) : Nat) < 0
        · have hz' := Lib.hid (szR_no hz)
          rw [← hz'.out]
          go_wp2
          go_ret
          exact ⟨ret_int (szR_no (by omega)), hb.trans (hb1.mono hb.size)⟩
        · have hz' := Lib.hid (szR_yes (Int.not_lt.1 hz))
          rw [← hz'.out]
          go_wp2
          go_roundw
          case rel => exact ⟨k + 1, by omega, by go_num, by omega, rfl, hb.trans (hb1.mono hb.size)⟩
          case measure => simp [intOf]; omega
      · have hkk : k = xs.length := by omega
        have HS := Lib.hid (sumOf_all (fun x : Sign => x.text.size) xs)
        have HK := Lib.hid hkk
        clear hkk
        go_wp2
        go_ret
        have e := HK.out
        subst e
        rw [HS.out] at hp
        exact ⟨ret_int (by rw [HS.out]; exact szR_yes hp), hb⟩

set_option maxHeartbeats 400000 in
theorem toSign_any (x : Sign) (w : World) :
    Calls Try.prog 75 #[x.v] w fun e w' => e = .returned x.v ∧ Below w.heap.size w w' := by
  obtain ⟨kind, text, pos, blank⟩ := x
  unfold Sign.v
  simp only
  go_enter Try.func75, Try.ntmps75
  go_wp2
  exact bodyPost_ret (v := .agg #[.int .i64 kind, .string text, .int .i64 pos, .bool blank]) (by simp [results, Try.results75, go_sem]) rfl ⟨rfl, (((Below.refl _ _).alloc (Nat.le_refl _) _).alloc (by simp) _).alloc (by simp; omega) _⟩

theorem Try.infoSign : (Try.prog.info? 97).map (fun i => (i.zero, i.size, i.bytes)) = some (some (.agg #[.int .i64 0, .string ByteArray.empty, .int .i64 0, .bool false]), 4, 40) := by kernel_rfl
set_option maxHeartbeats 400000 in
set_option maxRecDepth 100000 in
theorem toSignS_any (xs : List Sign) (v : Value) (lo hi : Nat) (w : World) (hr : Rd signF.shape lo hi w v xs) (hh : hi ≤ w.heap.size) (hl : xs.length ≤ 1048576) :
    Calls Try.prog 29 #[v] w fun e w' => ∃ u, e = .returned u ∧ Below w.heap.size w w' ∧ Own signF 97 w.heap.size w'.heap.size w' u xs := by
  obtain ⟨a, c, rfl, h2, h3, h4, h5⟩ := hr.signF
  unfold maxLen at h3
  obtain ⟨i0, hi0, hz0, hz1, hz2⟩ := info_parts Try.infoSign
  go_enter Try.func29, Try.ntmps29
  go_wp2_with (at_make; refine wpList_make_full _ rfl _ _ 42 rfl w.heap.size 97 i0 _ 4 Try.underlying42 hi0 hz0 hz1 _ _ _ _ xs.length rfl rfl rfl rfl ?b1 ?b2 ?b3 ?_)
  case b1 => rw [hz2]; omega
  case b2 => unfold maxLen; omega
  case b3 => exact Nat.le_refl _
  intro w1 hown hg
  have hb1 : Below w.heap.size w w1 := (Below.refl _ _).grown hg (Nat.le_refl _) (fun k hk => by cases hk)
  have hO : Own signF 97 w.heap.size w1.heap.size w1 (.slice (some ⟨w.heap.size, 0, none⟩) xs.length xs.length) (List.replicate xs.length Sign.zero) :=
    Own.of_row hown (by simp) (made_cells signF (by decide) Sign.zero _ rfl _) (Nat.le_refl _)
  clear hown hg
  generalize hB : w.heap.size = B at *
  go_wp2
  go_loopw [4] (fun i wr => ∃ (k : Nat) (ys : List Sign), k ≤ xs.length ∧ i = .int .i64 k ∧ ys.length = xs.length ∧ ys.take k = xs.take k ∧ Below B w wr ∧ Own signF 97 B wr.heap.size wr (.slice (some ⟨B, 0, none⟩) xs.length xs.length) ys) (fun i _ => xs.length - (intOf i).toNat)
  case atStart => exact ⟨0, List.replicate xs.length Sign.zero, Nat.zero_le _, rfl, by simp, by simp, hb1, hO⟩
  case round =>
    obtain ⟨k, ys, hk, rfl, hyl, hyt, hb, hO⟩ := hrel
    by_cases hlt : k < xs.length
    · obtain ⟨b, off, rfl, hlo, hhi, c0, c1, c2, c3⟩ := h5 k hlt
      have d0 := (hb.cell (p := ⟨b, _, none⟩) (by show b < _; omega)).trans c0
      have d1 := (hb.cell (p := ⟨b, _, none⟩) (by show b < _; omega)).trans c1
      have d2 := (hb.cell (p := ⟨b, _, none⟩) (by show b < _; omega)).trans c2
      have d3 := (hb.cell (p := ⟨b, _, none⟩) (by show b < _; omega)).trans c3
      have hy := Lib.hid (take_set_self hlt hyl hyt)
      have hyl' := Lib.hid hyl
      clear c0 c1 c2 c3 hyt
      generalize xs[k] = x at *
      obtain ⟨kind, text, pos, blank⟩ := x
      simp only at d0 d1 d2 d3
      go_wp2_with fail
      refine (toSign_any ⟨kind, text, pos, blank⟩ _).mono ?_
      rintro e w2 ⟨he, hb2⟩
      obtain rfl : e = .returned (.agg #[.int .i64 kind, .string text, .int .i64 pos, .bool blank]) := he
      have hO2 := hO.below hb2 (Nat.le_refl _)
      obtain ⟨u0, f0⟩ : ∃ u, w2.cell? ⟨B, k * 4, none⟩ = some u := ⟨_, (hO2.cell (j := 0) hyl.symm (by omega) (by decide)).trans rfl⟩
      have g0 : w2.frozen? ⟨B, k * 4, none⟩ = false := hO2.frozen hyl.symm _
      obtain ⟨u1, f1⟩ : ∃ u, w2.cell? ⟨B, k * 4 + 1, none⟩ = some u := ⟨_, (hO2.cell (j := 1) hyl.symm (by omega) (by decide)).trans rfl⟩
      have g1 : w2.frozen? ⟨B, k * 4 + 1, none⟩ = false := hO2.frozen hyl.symm _
      obtain ⟨u2, f2⟩ : ∃ u, w2.cell? ⟨B, k * 4 + 1 + 1, none⟩ = some u := ⟨_, (hO2.cell (j := 2) hyl.symm (by omega) (by decide)).trans rfl⟩
      have g2 : w2.frozen? ⟨B, k * 4 + 1 + 1, none⟩ = false := hO2.frozen hyl.symm _
      obtain ⟨u3, f3⟩ : ∃ u, w2.cell? ⟨B, k * 4 + 1 + 1 + 1, none⟩ = some u := ⟨_, (hO2.cell (j := 3) hyl.symm (by omega) (by decide)).trans rfl⟩
      have g3 : w2.frozen? ⟨B, k * 4 + 1 + 1 + 1, none⟩ = false := hO2.frozen hyl.symm _
      clear hyl d0 d1 d2 d3
      have hsz' : w.heap.size ≤ wr.heap.size := hb.size
      go_wp2
      have hb3 : Below B w (storeAll B (signF.enc ⟨kind, text, pos, blank⟩) (k * 4) w2) := blw_storeAll (hb.trans (hb2.mono (by omega))) (Nat.le_refl _) _ _
      have hO3 := ((hO2.storeAll (k := k) ⟨kind, text, pos, blank⟩ hyl'.out.symm (by rw [hyl'.out]; omega)).wide (Nat.le_refl _) hb2.size).wide (Nat.le_refl _) (Nat.le_of_eq (size_storeAll B (signF.enc ⟨kind, text, pos, blank⟩) (k * 4) w2).symm)
      go_roundw
      case rel => exact ⟨k + 1, _, by omega, by go_num, by simpa using hyl'.out, hy.out, hb3, hO3⟩
      case measure => simp [intOf]; omega
    · have hkk : k = xs.length := by omega
      have HK := Lib.hid hkk
      clear hkk
      go_wp2
      go_ret
      have e := HK.out
      subst e
      rw [List.take_length, List.take_of_length_le (by omega)] at hyt
      subst hyt
      subst hB
      exact ⟨_, rfl, hb, hO⟩

set_option maxHeartbeats 400000 in
theorem eqSign_any (x : Sign) (w : World) :
    Calls Try.prog 76 #[x.v, x.v] w fun e w' => e = .returned (.bool true) ∧ Below w.heap.size w w' := by
  obtain ⟨kind, text, pos, blank⟩ := x
  unfold Sign.v
  simp only
  go_enter Try.func76, Try.ntmps76
  go_wp2
  go_ret
  exact ⟨rfl, ((Below.refl _ _).alloc (Nat.le_refl _) _).alloc (by simp) _⟩

set_option maxHeartbeats 400000 in
set_option maxRecDepth 100000 in
theorem eqSignS_any (xs : List Sign) (v u : Value) (lo hi lo' hi' : Nat) (w : World) (hr : Rd signF.shape lo hi w v xs) (hh : hi ≤ w.heap.size) (hr' : Rd signF.shape lo' hi' w u xs) (hh' : hi' ≤ w.heap.size) :
    Calls Try.prog 31 #[v, u] w fun e w' => e = .returned (.bool true) ∧ Below w.heap.size w w' := by
  have hl := hr.len_le
  obtain ⟨a, c, rfl, h2, h3, h4, h5⟩ := hr.signF
  obtain ⟨a', c', rfl, h2', h3', h4', h5'⟩ := hr'.signF
  unfold maxLen at h3 h3'
  go_enter Try.func31, Try.ntmps31
  go_wp2
  go_loopw [5] (fun i wr => ∃ k : Nat, k ≤ xs.length ∧ i = .int .i64 k ∧ Below w.heap.size w wr) (fun i _ => xs.length - (intOf i).toNat)
  case atStart => exact ⟨0, Nat.zero_le _, rfl, Below.refl _ _⟩
  case round =>
    obtain ⟨k, hk, rfl, hb⟩ := hrel
    by_cases hlt : k < xs.length
    · obtain ⟨b, off, rfl, hlo, hhi, c0, c1, c2, c3⟩ := h5 k hlt
      obtain ⟨b', off', rfl, hlo', hhi', q0, q1, q2, q3⟩ := h5' k hlt
      have d0 := (hb.cell (p := ⟨b, _, none⟩) (by show b < _; omega)).trans c0
      have r0 := (hb.cell (p := ⟨b', _, none⟩) (by show b' < _; omega)).trans q0
      have d1 := (hb.cell (p := ⟨b, _, none⟩) (by show b < _; omega)).trans c1
      have r1 := (hb.cell (p := ⟨b', _, none⟩) (by show b' < _; omega)).trans q1
      have d2 := (hb.cell (p := ⟨b, _, none⟩) (by show b < _; omega)).trans c2
      have r2 := (hb.cell (p := ⟨b', _, none⟩) (by show b' < _; omega)).trans q2
      have d3 := (hb.cell (p := ⟨b, _, none⟩) (by show b < _; omega)).trans c3
      have r3 := (hb.cell (p := ⟨b', _, none⟩) (by show b' < _; omega)).trans q3
      clear c0 q0 c1 q1 c2 q2 c3 q3
      generalize xs[k] = x at *
      obtain ⟨kind, text, pos, blank⟩ := x
      simp only at d0 r0 d1 r1 d2 r2 d3 r3
      go_wp2_with fail
      go_still_tail 8, (by kernel_rfl)
      change wpList _ _ _ _ _ wr.drew
      generalize hw : wr.drew = w2
      have hb2 : Below w.heap.size w w2 := by rw [← hw]; exact hb.drew
      clear hw
      go_wp2_with fail
      refine (eqSign_any ⟨kind, text, pos, blank⟩ _).mono ?_
      rintro e w1 ⟨rfl, hb1⟩
      go_wp2
      go_roundw
      case rel => exact ⟨k + 1, by omega, by go_num, hb2.trans (hb1.mono hb2.size)⟩
      case measure => simp [intOf]; omega
    · go_wp2
      go_ret
      exact ⟨rfl, hb⟩
end Go.Proofs.Ythfeochekadhcaa
