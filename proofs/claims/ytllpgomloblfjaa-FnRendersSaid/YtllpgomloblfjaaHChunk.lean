/- Chunk: how it lies in memory; the law's helpers for it. By gen.py. -/
import Derived.Test.YtllpgomloblfjaaHSplit
import Derived.Test.YtllpgomloblfjaaHeap
namespace Go.Proofs.Ytllpgomloblfjaa
open Go.RowKit
structure Chunk where
  text : ByteArray
  rule : Int
  fro : Int
  space : Bool
  nest : Int
def chunkF : Flat Chunk := ⟨5, fun x => [.string x.text, .int .i64 x.rule, .int .i64 x.fro, .bool x.space, .int .i64 x.nest], fun _ => rfl, fun x u h => by
  simp only [List.mem_cons, List.not_mem_nil, or_false] at h
  rcases h with h | h | h | h | h <;> subst h <;> rfl⟩
def Chunk.v (x : Chunk) : Value := .agg #[.string x.text, .int .i64 x.rule, .int .i64 x.fro, .bool x.space, .int .i64 x.nest]
def Chunk.zero : Chunk := ⟨ByteArray.empty, 0, 0, false, 0⟩
theorem Rd.chunkF {lo hi : Nat} {w : World} {v : Value} {xs : List Chunk} (h : Rd chunkF.shape lo hi w v xs) :
    ∃ a c, v = .slice a xs.length c ∧ xs.length ≤ c ∧ c ≤ maxLen ∧ (a = none → c = 0) ∧
      ∀ k (h : k < xs.length), ∃ b off, a = some ⟨b, off, none⟩ ∧ lo ≤ b ∧ b < hi ∧ w.cell? ⟨b, off + k * 5, none⟩ = some (.string xs[k].text) ∧ w.cell? ⟨b, off + k * 5 + 1, none⟩ = some (.int .i64 xs[k].rule) ∧ w.cell? ⟨b, off + k * 5 + 1 + 1, none⟩ = some (.int .i64 xs[k].fro) ∧ w.cell? ⟨b, off + k * 5 + 1 + 1 + 1, none⟩ = some (.bool xs[k].space) ∧ w.cell? ⟨b, off + k * 5 + 1 + 1 + 1 + 1, none⟩ = some (.int .i64 xs[k].nest) := by
  obtain ⟨a, c, h1, h2, h3, h4, h5⟩ := h
  refine ⟨a, c, h1, h2, h3, h4, fun k hk => ?_⟩
  obtain ⟨b, off, cs, e1, e2, e3, rfl, e5⟩ := h5 k hk
  exact ⟨b, off, e1, e2, e3, e5 0 _ rfl, e5 1 _ rfl, e5 2 _ rfl, e5 3 _ rfl, e5 4 _ rfl⟩
theorem Try.cells141 : Try.prog.cellsOf 141 = 5 := by kernel_rfl
def Chunk.Ok (x : Chunk) : Prop := SzOk x.text ∧ I64 x.rule ∧ I64 x.fro ∧ I64 x.nest
theorem opens_Chunk : Opens Try.prog chunkF.shape 141 Chunk.Ok := by
  intro H enc w base spare held fuel cs x hx
  obtain ⟨ys, m, _, _, hlen, hl, hf⟩ := DataW.trod_struct Try.underlying141 hx
  rw [Try.cells141] at hlen
  obtain ⟨c0, r0, rfl, hn0⟩ := list_cons hlen
  obtain ⟨c1, r1, rfl, hn1⟩ := list_cons hn0
  obtain ⟨c2, r2, rfl, hn2⟩ := list_cons hn1
  obtain ⟨c3, r3, rfl, hn3⟩ := list_cons hn2
  obtain ⟨c4, r4, rfl, hn4⟩ := list_cons hn3
  obtain rfl := list_nil hn4
  have h0 : DataW.trod enc Try.prog w base spare held m 9 ((([c0, c1, c2, c3, c4] : List Value).drop 0).take (Try.prog.cellsOf 9)) = ys[0]? := hf 0 _ rfl
  rw [Try.cellsStr, List.getElem?_eq_getElem (show 0 < ys.length by rw [hl]; exact of_decide_eq_true rfl)] at h0
  obtain ⟨a0, e0, k0⟩ := opens_str Try.underlying9 H enc w base spare held m _ _ h0
  have h1 : DataW.trod enc Try.prog w base spare held m 139 ((([c0, c1, c2, c3, c4] : List Value).drop 1).take (Try.prog.cellsOf 139)) = ys[1]? := hf 1 _ rfl
  rw [Try.cells139, List.getElem?_eq_getElem (show 1 < ys.length by rw [hl]; exact of_decide_eq_true rfl)] at h1
  obtain ⟨a1, e1, k1⟩ := opens_Split H enc w base spare held m _ _ h1
  obtain rfl : c0 = .string a0 := (List.cons.inj e0).1
  have e1' : [c1, c2, c3, c4] = splitF.enc a1 := e1
  obtain ⟨rule, fro, space, nest⟩ := a1
  simp only [splitF, List.cons.injEq, and_true] at e1'
  obtain ⟨rfl, rfl, rfl, rfl⟩ := e1'
  exact ⟨⟨a0, rule, fro, space, nest⟩, rfl, k0, k1.1, k1.2.1, k1.2.2.2⟩

set_option maxHeartbeats 400000 in
theorem szChunk_any (x : Chunk) (left : Int) (w : World) (h0 : 0 ≤ left) (h1 : left ≤ 1048576) (hs : x.text.size ≤ maxLen) :
    Calls Try.prog 117 #[x.v, .int .i64 left] w fun e w' => e = .returned (.int .i64 (szR left x.text.size)) ∧ Below w.heap.size w w' := by
  unfold maxLen at hs
  obtain ⟨text, rule, fro, space, nest⟩ := x
  unfold Chunk.v
  simp only at hs ⊢
  by_cases hc : left - (text.size : Int) < 0
  · go_enter Try.func117, Try.ntmps117
    go_wp2
    go_ret
    exact ⟨ret_int (szR_no hc), (Below.refl _ _).alloc (Nat.le_refl _) _⟩
  · go_enter Try.func117, Try.ntmps117
    go_wp2
    go_ret
    exact ⟨ret_int (szR_yes (by omega)), (Below.refl _ _).alloc (Nat.le_refl _) _⟩

/-- what a list of them weighs -/
def Chunk.wts (xs : List Chunk) : Nat := xs.length + sumOf (fun x : Chunk => x.text.size) xs
theorem Chunk.wts_ge (xs : List Chunk) : xs.length ≤ Chunk.wts xs := Nat.le_add_right _ _
set_option maxHeartbeats 400000 in
theorem szChunkS_any (xs : List Chunk) (v : Value) (lo hi : Nat) (left : Int) (w : World) (hr : Rd chunkF.shape lo hi w v xs) (hh : hi ≤ w.heap.size) (h0 : 0 ≤ left) (h1 : left ≤ 1048576) (hs : ∀ x ∈ xs, x.text.size ≤ maxLen) :
    Calls Try.prog 81 #[v, .int .i64 left] w fun e w' => e = .returned (.int .i64 (szR left (Chunk.wts xs))) ∧ Below w.heap.size w w' := by
  have hl := hr.len_le
  obtain ⟨a, c, rfl, h2, h3, h4, h5⟩ := hr.chunkF
  unfold maxLen at h3
  unfold Chunk.wts
  by_cases hc : left - (xs.length : Int) < 0
  · go_enter Try.func81, Try.ntmps81
    go_wp2
    go_ret
    exact ⟨ret_int (szR_no (by omega)), (Below.refl _ _)⟩
  · go_enter Try.func81, Try.ntmps81
    go_wp2
    go_loopw [1, 5] (fun l i wr => ∃ k : Nat, k ≤ xs.length ∧ i = .int .i64 k ∧ 0 ≤ left - (xs.length + sumOf (fun x : Chunk => x.text.size) (xs.take k) : Nat) ∧ l = .int .i64 (left - (xs.length + sumOf (fun x : Chunk => x.text.size) (xs.take k) : Nat)) ∧ Below w.heap.size w wr) (fun _ i _ => xs.length - (intOf i).toNat)
    case atStart => exact ⟨0, Nat.zero_le _, rfl, by simp [sumOf]; omega, by simp [sumOf], Below.refl _ _⟩
    case round =>
      obtain ⟨k, hk, rfl, hp, rfl, hb⟩ := hrel
      by_cases hlt : k < xs.length
      · obtain ⟨b, off, rfl, hlo, hhi, c0, c1, c2, c3, c4⟩ := h5 k hlt
        have d0 := (hb.cell (p := ⟨b, _, none⟩) (by show b < _; omega)).trans c0
        have d1 := (hb.cell (p := ⟨b, _, none⟩) (by show b < _; omega)).trans c1
        have d2 := (hb.cell (p := ⟨b, _, none⟩) (by show b < _; omega)).trans c2
        have d3 := (hb.cell (p := ⟨b, _, none⟩) (by show b < _; omega)).trans c3
        have d4 := (hb.cell (p := ⟨b, _, none⟩) (by show b < _; omega)).trans c4
        have hx := hs _ (List.getElem_mem hlt)
        have HS := Lib.hid (sumOf_succ (fun x : Chunk => x.text.size) xs k hlt)
        have HL := Lib.hid (sumOf_le (fun x : Chunk => x.text.size) xs (k + 1))
        have hle : (xs.length + sumOf (fun x : Chunk => x.text.size) (xs.take k) : Nat) + xs[k].text.size = (xs.length + sumOf (fun x : Chunk => x.text.size) (xs.take (k + 1)) : Nat) := by rw [HS.out]; omega
        have HE := Lib.hid hle
        clear hle
        have hge : (xs.length + sumOf (fun x : Chunk => x.text.size) (xs.take (k + 1)) : Nat) ≤ xs.length + sumOf (fun x : Chunk => x.text.size) xs := by have := HL.out; omega
        go_wp2_with fail
        refine (szChunk_any xs[k] _ _ hp (by omega) hx).mono ?_
        rintro e w1 ⟨rfl, hb1⟩
        rw [szR_add, HE.out]
        by_cases hz : left - (xs.length + sumOf (fun x : Chunk => x.text.size) (xs.take (k + 1)) : Nat) < 0
        · have hz' := Lib.hid (szR_no hz)
          rw [← hz'.out]
          go_wp2
          go_ret
          exact ⟨ret_int (szR_no (by omega)), hb.trans (hb1.mono hb.size)⟩
        · have hz' := Lib.hid (szR_yes (Int.not_lt.1 hz))
          rw [← hz'.out]
          go_wp2
          go_roundw
          case rel => exact ⟨k + 1, by omega, by go_num, by omega, rfl, hb.trans (hb1.mono hb.size)⟩
          case measure => simp [intOf]; omega
      · have hkk : k = xs.length := by omega
        have HS := Lib.hid (sumOf_all (fun x : Chunk => x.text.size) xs)
        have HK := Lib.hid hkk
        clear hkk
        go_wp2
        go_ret
        have e := HK.out
        subst e
        rw [HS.out] at hp
        exact ⟨ret_int (by rw [HS.out]; exact szR_yes hp), hb⟩

set_option maxHeartbeats 1000000 in
set_option maxRecDepth 100000 in
theorem toChunk_any (x : Chunk) (w : World) :
    Calls Try.prog 119 #[x.v] w fun e w' => e = .returned x.v ∧ Below w.heap.size w w' := by
  obtain ⟨text, rule, fro, space, nest⟩ := x
  unfold Chunk.v
  simp only
  go_enter Try.func119, Try.ntmps119
  go_wp2_with fail
  generalize hA : Obj.cells #[Value.string text, Value.int IntKind.i64 rule, Value.int IntKind.i64 fro, Value.bool space, Value.int IntKind.i64 nest] 141 = A
  generalize hZ : Obj.cells #[Value.string { data := #[] }, Value.int IntKind.i64 0, Value.int IntKind.i64 0, Value.bool false, Value.int IntKind.i64 0] 56 = Z
  generalize hC : Obj.cells #[Value.string text, Value.int IntKind.i64 0, Value.int IntKind.i64 0, Value.bool false, Value.int IntKind.i64 0] 56 = C
  have hb0 : Below w.heap.size w (((w.alloc A).alloc Z).alloc C) := (((Below.refl _ _).alloc (Nat.le_refl _) _).alloc (by simp) _).alloc (by simp; omega) _
  have hs0 : (((w.alloc A).alloc Z).alloc C).heap.size = w.heap.size + 3 := by simp
  obtain ⟨p0, p1, p2⟩ := heap_three w A Z C
  generalize ((w.alloc A).alloc Z).alloc C = w0 at *
  refine (toSplit_any ⟨rule, fro, space, nest⟩ _).mono ?_
  rintro e w1 ⟨he, hb1⟩
  obtain rfl : e = .returned (.agg #[.int .i64 rule, .int .i64 fro, .bool space, .int .i64 nest]) := he
  have hs1 := hb1.size
  have r1 := (hb1.block (w.heap.size + 1) (by omega)).trans p1
  have r2 := (hb1.block (w.heap.size + 1 + 1) (by omega)).trans p2
  rw [← hZ] at r1
  rw [← hC] at r2
  have y0 := cell_heap (j := 0) r1 rfl
  have y1 := cell_heap (j := 1) r1 rfl
  have y2 := cell_heap (j := 2) r1 rfl
  have y3 := cell_heap (j := 3) r1 rfl
  have y4 := cell_heap (j := 4) r1 rfl
  have x0 := cell_heap (j := 0) r2 rfl
  have x1 := cell_heap (j := 1) r2 rfl
  have x2 := cell_heap (j := 2) r2 rfl
  have x3 := cell_heap (j := 3) r2 rfl
  have x4 := cell_heap (j := 4) r2 rfl
  have f0 := frozen_heap (j := 0) r1
  have f1 := frozen_heap (j := 1) r1
  have f2 := frozen_heap (j := 2) r1
  have f3 := frozen_heap (j := 3) r1
  have f4 := frozen_heap (j := 4) r1
  have g1 := frozen_heap (j := 1) r2
  have g2 := frozen_heap (j := 2) r2
  have g3 := frozen_heap (j := 3) r2
  have g4 := frozen_heap (j := 4) r2
  clear r1 r2 p0 p1 p2 hA hZ hC
  have hbA : Below w.heap.size w w1 := hb0.trans (hb1.mono (by omega))
  clear hb0 hb1
  go_wp2
  change bodyPost _ _ _ _ _ (storeAll (w.heap.size + 1) [.string text, .int .i64 rule, .int .i64 fro, .bool space, .int .i64 nest] 0 (storeAll (w.heap.size + 1 + 1) [.int .i64 rule, .int .i64 fro, .bool space, .int .i64 nest] 1 w1))
  have hb2 : Below w.heap.size w (storeAll (w.heap.size + 1 + 1) [.int .i64 rule, .int .i64 fro, .bool space, .int .i64 nest] 1 w1) := blw_storeAll hbA (by omega) _ _
  have far : ∀ j, (storeAll (w.heap.size + 1 + 1) [.int .i64 rule, .int .i64 fro, .bool space, .int .i64 nest] 1 w1).cell? ⟨w.heap.size + 1, j, none⟩ = w1.cell? ⟨w.heap.size + 1, j, none⟩ := fun j => storeAll_far (by omega) _ _ _
  generalize storeAll (w.heap.size + 1 + 1) [.int .i64 rule, .int .i64 fro, .bool space, .int .i64 nest] 1 w1 = w2 at *
  have hb3 : Below w.heap.size w (storeAll (w.heap.size + 1) [.string text, .int .i64 rule, .int .i64 fro, .bool space, .int .i64 nest] 0 w2) := blw_storeAll hb2 (by omega) _ _
  have at5 := storeAll_at (g := w.heap.size + 1) [.string text, .int .i64 rule, .int .i64 fro, .bool space, .int .i64 nest] 0 w2 (fun j hj => by
    rw [Nat.zero_add, far]
    have : j = 0 ∨ j = 1 ∨ j = 2 ∨ j = 3 ∨ j = 4 := by simp at hj; omega
    rcases this with rfl | rfl | rfl | rfl | rfl
    · exact ⟨_, y0⟩
    · exact ⟨_, y1⟩
    · exact ⟨_, y2⟩
    · exact ⟨_, y3⟩
    · exact ⟨_, y4⟩)
  have z0 := at5 0 _ rfl
  have z1 := at5 1 _ rfl
  have z2 := at5 2 _ rfl
  have z3 := at5 3 _ rfl
  have z4 := at5 4 _ rfl
  clear at5 far y0 y1 y2 y3 y4 x0 x1 x2 x3 x4 f0 f1 f2 f3 f4 g1 g2 g3 g4
  generalize storeAll (w.heap.size + 1) [.string text, .int .i64 rule, .int .i64 fro, .bool space, .int .i64 nest] 0 w2 = w3 at *
  exact bodyPost_ret (v := .agg #[.string text, .int .i64 rule, .int .i64 fro, .bool space, .int .i64 nest]) (by simp [results, Try.results119, go_sem, z0, z1, z2, z3, z4]) rfl ⟨rfl, hb3⟩

theorem Try.infoChunk : (Try.prog.info? 56).map (fun i => (i.zero, i.size, i.bytes)) = some (some (.agg #[.string ByteArray.empty, .int .i64 0, .int .i64 0, .bool false, .int .i64 0]), 5, 48) := by kernel_rfl
set_option maxHeartbeats 400000 in
set_option maxRecDepth 100000 in
theorem toChunkS_any (xs : List Chunk) (v : Value) (lo hi : Nat) (w : World) (hr : Rd chunkF.shape lo hi w v xs) (hh : hi ≤ w.heap.size) (hl : xs.length ≤ 1048576) :
    Calls Try.prog 85 #[v] w fun e w' => ∃ u, e = .returned u ∧ Below w.heap.size w w' ∧ Own chunkF 56 w.heap.size w'.heap.size w' u xs := by
  obtain ⟨a, c, rfl, h2, h3, h4, h5⟩ := hr.chunkF
  unfold maxLen at h3
  obtain ⟨i0, hi0, hz0, hz1, hz2⟩ := info_parts Try.infoChunk
  go_enter Try.func85, Try.ntmps85
  go_wp2_with (at_make; refine wpList_make_full _ rfl _ _ 25 rfl w.heap.size 56 i0 _ 5 Try.underlying25 hi0 hz0 hz1 _ _ _ _ xs.length rfl rfl rfl rfl ?b1 ?b2 ?b3 ?_)
  case b1 => rw [hz2]; omega
  case b2 => unfold maxLen; omega
  case b3 => exact Nat.le_refl _
  intro w1 hown hg
  have hb1 : Below w.heap.size w w1 := (Below.refl _ _).grown hg (Nat.le_refl _) (fun k hk => by cases hk)
  have hO : Own chunkF 56 w.heap.size w1.heap.size w1 (.slice (some ⟨w.heap.size, 0, none⟩) xs.length xs.length) (List.replicate xs.length Chunk.zero) :=
    Own.of_row hown (by simp) (made_cells chunkF (by decide) Chunk.zero _ rfl _) (Nat.le_refl _)
  clear hown hg
  generalize hB : w.heap.size = B at *
  go_wp2
  go_loopw [4] (fun i wr => ∃ (k : Nat) (ys : List Chunk), k ≤ xs.length ∧ i = .int .i64 k ∧ ys.length = xs.length ∧ ys.take k = xs.take k ∧ Below B w wr ∧ Own chunkF 56 B wr.heap.size wr (.slice (some ⟨B, 0, none⟩) xs.length xs.length) ys) (fun i _ => xs.length - (intOf i).toNat)
  case atStart => exact ⟨0, List.replicate xs.length Chunk.zero, Nat.zero_le _, rfl, by simp, by simp, hb1, hO⟩
  case round =>
    obtain ⟨k, ys, hk, rfl, hyl, hyt, hb, hO⟩ := hrel
    by_cases hlt : k < xs.length
    · obtain ⟨b, off, rfl, hlo, hhi, c0, c1, c2, c3, c4⟩ := h5 k hlt
      have d0 := (hb.cell (p := ⟨b, _, none⟩) (by show b < _; omega)).trans c0
      have d1 := (hb.cell (p := ⟨b, _, none⟩) (by show b < _; omega)).trans c1
      have d2 := (hb.cell (p := ⟨b, _, none⟩) (by show b < _; omega)).trans c2
      have d3 := (hb.cell (p := ⟨b, _, none⟩) (by show b < _; omega)).trans c3
      have d4 := (hb.cell (p := ⟨b, _, none⟩) (by show b < _; omega)).trans c4
      have hy := Lib.hid (take_set_self hlt hyl hyt)
      have hyl' := Lib.hid hyl
      clear c0 c1 c2 c3 c4 hyt
      generalize xs[k] = x at *
      obtain ⟨text, rule, fro, space, nest⟩ := x
      simp only at d0 d1 d2 d3 d4
      go_wp2_with fail
      refine (toChunk_any ⟨text, rule, fro, space, nest⟩ _).mono ?_
      rintro e w2 ⟨he, hb2⟩
      obtain rfl : e = .returned (.agg #[.string text, .int .i64 rule, .int .i64 fro, .bool space, .int .i64 nest]) := he
      have hO2 := hO.below hb2 (Nat.le_refl _)
      obtain ⟨u0, f0⟩ : ∃ u, w2.cell? ⟨B, k * 5, none⟩ = some u := ⟨_, (hO2.cell (j := 0) hyl.symm (by omega) (by decide)).trans rfl⟩
      have g0 : w2.frozen? ⟨B, k * 5, none⟩ = false := hO2.frozen hyl.symm _
      obtain ⟨u1, f1⟩ : ∃ u, w2.cell? ⟨B, k * 5 + 1, none⟩ = some u := ⟨_, (hO2.cell (j := 1) hyl.symm (by omega) (by decide)).trans rfl⟩
      have g1 : w2.frozen? ⟨B, k * 5 + 1, none⟩ = false := hO2.frozen hyl.symm _
      obtain ⟨u2, f2⟩ : ∃ u, w2.cell? ⟨B, k * 5 + 1 + 1, none⟩ = some u := ⟨_, (hO2.cell (j := 2) hyl.symm (by omega) (by decide)).trans rfl⟩
      have g2 : w2.frozen? ⟨B, k * 5 + 1 + 1, none⟩ = false := hO2.frozen hyl.symm _
      obtain ⟨u3, f3⟩ : ∃ u, w2.cell? ⟨B, k * 5 + 1 + 1 + 1, none⟩ = some u := ⟨_, (hO2.cell (j := 3) hyl.symm (by omega) (by decide)).trans rfl⟩
      have g3 : w2.frozen? ⟨B, k * 5 + 1 + 1 + 1, none⟩ = false := hO2.frozen hyl.symm _
      obtain ⟨u4, f4⟩ : ∃ u, w2.cell? ⟨B, k * 5 + 1 + 1 + 1 + 1, none⟩ = some u := ⟨_, (hO2.cell (j := 4) hyl.symm (by omega) (by decide)).trans rfl⟩
      have g4 : w2.frozen? ⟨B, k * 5 + 1 + 1 + 1 + 1, none⟩ = false := hO2.frozen hyl.symm _
      clear hyl d0 d1 d2 d3 d4
      have hsz' : w.heap.size ≤ wr.heap.size := hb.size
      go_wp2
      have hb3 : Below B w (storeAll B (chunkF.enc ⟨text, rule, fro, space, nest⟩) (k * 5) w2) := blw_storeAll (hb.trans (hb2.mono (by omega))) (Nat.le_refl _) _ _
      have hO3 := ((hO2.storeAll (k := k) ⟨text, rule, fro, space, nest⟩ hyl'.out.symm (by rw [hyl'.out]; omega)).wide (Nat.le_refl _) hb2.size).wide (Nat.le_refl _) (Nat.le_of_eq (size_storeAll B (chunkF.enc ⟨text, rule, fro, space, nest⟩) (k * 5) w2).symm)
      go_roundw
      case rel => exact ⟨k + 1, _, by omega, by go_num, by simpa using hyl'.out, hy.out, hb3, hO3⟩
      case measure => simp [intOf]; omega
    · have hkk : k = xs.length := by omega
      have HK := Lib.hid hkk
      clear hkk
      go_wp2
      go_ret
      have e := HK.out
      subst e
      rw [List.take_length, List.take_of_length_le (by omega)] at hyt
      subst hyt
      subst hB
      exact ⟨_, rfl, hb, hO⟩

set_option maxHeartbeats 400000 in
theorem eqChunk_any (x : Chunk) (w : World) :
    Calls Try.prog 123 #[x.v, x.v] w fun e w' => e = .returned (.bool true) ∧ Below w.heap.size w w' := by
  obtain ⟨text, rule, fro, space, nest⟩ := x
  unfold Chunk.v
  simp only
  go_enter Try.func123, Try.ntmps123
  go_wp2
  go_ret
  exact ⟨rfl, ((((Below.refl _ _).alloc (Nat.le_refl _) _).alloc (by simp) _).alloc (by simp; omega) _).alloc (by simp; omega) _⟩

set_option maxHeartbeats 400000 in
set_option maxRecDepth 100000 in
theorem eqChunkS_any (xs : List Chunk) (v u : Value) (lo hi lo' hi' : Nat) (w : World) (hr : Rd chunkF.shape lo hi w v xs) (hh : hi ≤ w.heap.size) (hr' : Rd chunkF.shape lo' hi' w u xs) (hh' : hi' ≤ w.heap.size) :
    Calls Try.prog 89 #[v, u] w fun e w' => e = .returned (.bool true) ∧ Below w.heap.size w w' := by
  have hl := hr.len_le
  obtain ⟨a, c, rfl, h2, h3, h4, h5⟩ := hr.chunkF
  obtain ⟨a', c', rfl, h2', h3', h4', h5'⟩ := hr'.chunkF
  unfold maxLen at h3 h3'
  go_enter Try.func89, Try.ntmps89
  go_wp2
  go_loopw [5] (fun i wr => ∃ k : Nat, k ≤ xs.length ∧ i = .int .i64 k ∧ Below w.heap.size w wr) (fun i _ => xs.length - (intOf i).toNat)
  case atStart => exact ⟨0, Nat.zero_le _, rfl, Below.refl _ _⟩
  case round =>
    obtain ⟨k, hk, rfl, hb⟩ := hrel
    by_cases hlt : k < xs.length
    · obtain ⟨b, off, rfl, hlo, hhi, c0, c1, c2, c3, c4⟩ := h5 k hlt
      obtain ⟨b', off', rfl, hlo', hhi', q0, q1, q2, q3, q4⟩ := h5' k hlt
      have d0 := (hb.cell (p := ⟨b, _, none⟩) (by show b < _; omega)).trans c0
      have r0 := (hb.cell (p := ⟨b', _, none⟩) (by show b' < _; omega)).trans q0
      have d1 := (hb.cell (p := ⟨b, _, none⟩) (by show b < _; omega)).trans c1
      have r1 := (hb.cell (p := ⟨b', _, none⟩) (by show b' < _; omega)).trans q1
      have d2 := (hb.cell (p := ⟨b, _, none⟩) (by show b < _; omega)).trans c2
      have r2 := (hb.cell (p := ⟨b', _, none⟩) (by show b' < _; omega)).trans q2
      have d3 := (hb.cell (p := ⟨b, _, none⟩) (by show b < _; omega)).trans c3
      have r3 := (hb.cell (p := ⟨b', _, none⟩) (by show b' < _; omega)).trans q3
      have d4 := (hb.cell (p := ⟨b, _, none⟩) (by show b < _; omega)).trans c4
      have r4 := (hb.cell (p := ⟨b', _, none⟩) (by show b' < _; omega)).trans q4
      clear c0 q0 c1 q1 c2 q2 c3 q3 c4 q4
      generalize xs[k] = x at *
      obtain ⟨text, rule, fro, space, nest⟩ := x
      simp only at d0 r0 d1 r1 d2 r2 d3 r3 d4 r4
      go_wp2_with fail
      go_still_tail 8, (by kernel_rfl)
      change wpList _ _ _ _ _ wr.drew
      generalize hw : wr.drew = w2
      have hb2 : Below w.heap.size w w2 := by rw [← hw]; exact hb.drew
      clear hw
      go_wp2_with fail
      refine (eqChunk_any ⟨text, rule, fro, space, nest⟩ _).mono ?_
      rintro e w1 ⟨rfl, hb1⟩
      go_wp2
      go_roundw
      case rel => exact ⟨k + 1, by omega, by go_num, hb2.trans (hb1.mono hb2.size)⟩
      case measure => simp [intOf]; omega
    · go_wp2
      go_ret
      exact ⟨rfl, hb⟩
end Go.Proofs.Ytllpgomloblfjaa
