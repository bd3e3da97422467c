/- What is drawn for FnWrapsTold: lists of words, right or not, widths, notes. By mk_drawx.py. -/
import Derived.Test.YtjaginciejljkaaDoorWWraps
import Derived.Test.YtjaginciejljkaaDoorWrapP
namespace Go.Proofs.YtjaginciejljkaaDoor
open Go.RowKit

def SmallW (ls : List ByteArray) : Prop := ls.length ≤ 61 ∧ ∀ s ∈ ls, s.size ≤ 20
theorem SmallW.snoc {ls : List ByteArray} {s : ByteArray} (h : SmallW ls) (hl : ls.length ≤ 60) (hs : s.size ≤ 20) : SmallW (ls ++ [s]) :=
  ⟨by simp; omega, fun t ht => by
    rcases List.mem_append.1 ht with h1 | h1
    · exact h.2 t h1
    · rw [List.mem_singleton.1 h1]; exact hs⟩
def AnyRet (g lo hi : Nat) (xs : List Int) (w : World) (e : Ending) (w' : World) : Prop :=
  ∃ r ls, e = .returned r ∧ SmallW ls ∧ Own strF 9 w.heap.size w'.heap.size w' r ls ∧ Out g (g + 1) w w' ∧ Cur g lo hi xs w'
set_option maxHeartbeats 2000000 in
set_option maxRecDepth 100000 in
theorem l17Any_any {g lo hi : Nat} {xs : List Int} {w : World} (hc : Cur g lo hi xs w) :
    Calls Tryd.prog 52 #[.pointer (some ⟨g, 0, none⟩)] w (AnyRet g lo hi xs w) := by
  obtain ⟨i0, hi0, hz0, hz1, hz2⟩ := info_parts Tryd.infoStr1
  have hgl := hc.lt
  go_enter Tryd.func52, Tryd.ntmps52
  go_wp2_with fail
  refine (l17Words_any hc).mono ?_
  rintro e w1 ⟨r, ls, rfl, hll, hld, hO, ho1, hc1⟩
  have hs1 := ho1.size
  have hsm : SmallW ls := ⟨by omega, fun s hs => (hld s hs).2⟩
  go_wp2_with fail
  refine (l01Below_any hc1 (by omega) (by omega)).mono ?_
  rintro e w2 ⟨x, rfl, x1, x2, ho2, hc2⟩
  have hs2 := ho2.size
  have ho12 := ho1.trans ho2
  have hO2 : Own strF 9 w.heap.size w2.heap.size w2 r ls := (hO.same (ho2.same (Nat.le_refl _) (.inr (by omega)))).wide (Nat.le_refl _) hs2
  have HSM := Lib.hid hsm
  clear hO hld hsm
  by_cases k0 : x = 0
  · have t0 : (x == 0) = true := beq_iff_eq.2 k0
    clear k0
    go_wp2_with (at_builtin; refine wp_app1 (F := strF) (P := Tryd.prog) (y := ByteArray.mk #[]) rfl (.tmp 11) (.tmp 12) 24 rfl Tryd.underlying24 hi0 hz0 hz1 hz2 rfl (by decide) rfl (hO2.alloc _) w2.heap.size rfl (heap_alloc_new _ _) rfl (by omega) (by omega) (by simp; omega) ?_; intro v' w' hO' hb')
    go_ret
    have hbs : Below w.heap.size w2 w' := blw_al1 hb' (by omega)
    exact ⟨_, _, rfl, HSM.out.snoc (by omega) (by decide), hO', ho12.then hbs (by omega), hc2.below hbs (by omega)⟩
  · have t0 : (x == 0) = false := beq_eq_false_iff_ne.2 k0
    clear k0
    by_cases k1 : x = 1
    · have t1 : (x == 1) = true := beq_iff_eq.2 k1
      clear k1
      go_wp2_with (at_builtin; refine wp_app1 (F := strF) (P := Tryd.prog) (y := ByteArray.mk #[97, 32, 98]) rfl (.tmp 16) (.tmp 17) 24 rfl Tryd.underlying24 hi0 hz0 hz1 hz2 rfl (by decide) rfl (hO2.alloc _) w2.heap.size rfl (heap_alloc_new _ _) rfl (by omega) (by omega) (by simp; omega) ?_; intro v' w' hO' hb')
      go_ret
      have hbs : Below w.heap.size w2 w' := blw_al1 hb' (by omega)
      exact ⟨_, _, rfl, HSM.out.snoc (by omega) (by decide), hO', ho12.then hbs (by omega), hc2.below hbs (by omega)⟩
    · have t1 : (x == 1) = false := beq_eq_false_iff_ne.2 k1
      clear k1
      by_cases k2 : x = 2
      · have t2 : (x == 2) = true := beq_iff_eq.2 k2
        clear k2
        obtain ⟨B, HB⟩ : ∃ B, Hid (B = w.heap.size) := ⟨_, rfl⟩
        have hB1 : B ≤ w.heap.size := Nat.le_of_eq HB.out
        have hB2 : w.heap.size ≤ B := Nat.le_of_eq HB.out.symm
        go_wp2
        have hb0 : Below w2.heap.size w2 (w2.alloc (.cells #[] 9)) := (Below.refl _ _).alloc (Nat.le_refl _) _
        have hc0 := hc2.below hb0 hc2.lt
        have ho0 : Out g (g + 1) w (w2.alloc (.cells #[] 9)) := ho12.then hb0 (by omega)
        have hE0 := Own.empty strF 9 B w2 (by omega)
        obtain ⟨C, HC⟩ : ∃ C, Hid (C = (w2.alloc (.cells #[] 9)).heap.size) := ⟨_, rfl⟩
        have hC1 : C ≤ (w2.alloc (.cells #[] 9)).heap.size := Nat.le_of_eq HC.out
        have hC2 : (w2.alloc (.cells #[] 9)).heap.size ≤ C := Nat.le_of_eq HC.out.symm
        have hOE : OutE strF 9 B C (w2.alloc (.cells #[] 9)) (.slice (some ⟨w2.heap.size, 0, none⟩) 0 0) [] := .inr ⟨rfl, ⟨_, rfl⟩, hE0.wide (Nat.le_refl _) hC2⟩
        have hBC : B ≤ C := by have := hb0.size; omega
        clear hE0 hb0 hO2
        generalize w2.alloc (.cells #[] 9) = w3 at *
        go_loopw [3, 4] (fun out i wr => ∃ (k : Nat) (ys : List ByteArray), k ≤ 61 ∧ i = .int .i64 k ∧ ys.length = k ∧ Hid (∀ s ∈ ys, s.size ≤ 20) ∧ Out g (g + 1) w wr ∧ Cur g lo hi xs wr ∧ C ≤ wr.heap.size ∧ OutE strF 9 B C wr out ys) (fun _ i _ => 62 - (intOf i).toNat)
        case atStart => exact ⟨0, [], Nat.zero_le _, rfl, rfl, (by intro s hs; cases hs), ho0, hc0, hC1, hOE⟩
        case round =>
          obtain ⟨k, ys, hk, rfl, hyl, HS, ho, hcu, hCw, hO⟩ := hrel
          have hwr := ho.size
          go_wp2_with fail
          refine (l01Below_any hcu (by omega) (by omega)).mono ?_
          rintro e w4 ⟨z, rfl, z1, z2, ho4, hc4⟩
          have hO4 := hO.out ho4 (by omega) hBC hCw
          have hs4 := ho4.size
          have ho4' := ho.trans ho4
          by_cases hlt : (k : Int) < 60 + z
          · go_wp2_with (at_builtin; refine wp_app1e (F := strF) (P := Tryd.prog) (y := ByteArray.mk #[119]) rfl (.tmp 29) (.tmp 30) 24 rfl Tryd.underlying24 hi0 hz0 hz1 hz2 rfl (by decide) rfl (hO4.keep (w' := w4.alloc _) ((Below.refl _ _).alloc (Nat.le_refl _) _) (by omega)) w4.heap.size rfl (heap_alloc_new _ _) rfl (by omega) (by omega) (by simp; omega) ?_; intro v' w' hO' hb')
            have hbs : Below C w4 w' := ((Below.refl C w4).alloc (by omega) _).trans hb'
            have hsw := hbs.size
            go_roundw
            case rel => exact ⟨k + 1, ys ++ [ByteArray.mk #[119]], by omega, by go_num, by simp; omega, (by intro t ht; rcases List.mem_append.1 ht with h | h; exact HS.out t h; obtain rfl := List.mem_singleton.1 h; decide), ho4'.then hbs (by omega), hc4.below hbs (by omega), by omega, hO'⟩
            case measure => simp [intOf]; omega
          · go_wp2
            go_ret
            have hown := hO4.own hBC (by omega)
            rw [HB.out] at hown
            exact ⟨_, ys, rfl, ⟨by omega, HS.out⟩, hown, ho4', hc4⟩
      · have t2 : (x == 2) = false := beq_eq_false_iff_ne.2 k2
        clear k2
        go_wp2
        go_ret
        exact ⟨_, ls, rfl, HSM.out, hO2, ho12, hc2⟩
def PairRet (w : World) (e : Ending) (w' : World) : Prop :=
  ∃ r ls wd, e = .returned (.tuple #[r, .int .i64 wd]) ∧ SmallW ls ∧ I64 wd ∧ Rd strF.shape w.heap.size w'.heap.size w' r ls ∧ Below w.heap.size w w'
set_option maxHeartbeats 400000 in
set_option maxRecDepth 100000 in
theorem l17Pair_any {lo hi : Nat} {xs : List Int} {w : World} {v : Value} (hr : Rd bytS lo hi w v xs) (hh : hi ≤ w.heap.size) (hx : ∀ x ∈ xs, U8 x) (hl : xs.length ≤ 1048576) :
    Calls Tryd.prog 35 #[v] w (PairRet w) := by

  go_enter Tryd.func35, Tryd.ntmps35
  go_wp2_with fail
  refine (l01New_any hr hh hx hl).mono ?_
  rintro e w1 ⟨rfl, hb1, hc1, hs0⟩
  have hs1 : w.heap.size + 1 ≤ w1.heap.size := Nat.le_of_eq hs0.symm
  clear hs0
  have HF1 := Lib.hid (Out.refl w.heap.size (w.heap.size + 1) w1)
  go_wp2_with fail
  have hgl1 := hc1.lt
  have hrl1 := rd_lit intF w1 [5, 10, 14, 20, 0, (-1), 9223372036854775807] #[.int .i64 5, .int .i64 10, .int .i64 14, .int .i64 20, .int .i64 0, .int .i64 (-1), .int .i64 9223372036854775807] 3 rfl (by decide)
  obtain ⟨A1, HA1⟩ : ∃ A : Obj, A = .cells #[.int .i64 5, .int .i64 10, .int .i64 14, .int .i64 20, .int .i64 0, .int .i64 (-1), .int .i64 9223372036854775807] 3 := ⟨_, rfl⟩
  rw [← HA1] at hrl1
  rw [← HA1]
  clear HA1
  have hba1 : Below w1.heap.size w1 (w1.alloc A1) := (Below.refl _ _).alloc (Nat.le_refl _) _
  have hsa1 : w1.heap.size + 1 ≤ (w1.alloc A1).heap.size := by simp
  generalize w1.alloc A1 = v1 at *
  have hd1 := hc1.below hba1 hgl1
  have hsz1 := HF1.out.size
  refine (l01PickInt_any hd1 hrl1 (by omega) (.inr (by omega)) (by decide) (by decide)).mono ?_
  rintro e w2 ⟨wd, rfl, hm1, ho1, hc2⟩
  have hss1 := ho1.size
  have HF2 := Lib.hid ((HF1.out.then hba1 (by omega)).trans ho1)
  clear hrl1
  simp only [List.mem_cons, List.not_mem_nil, or_false] at hm1
  have hIw : I64 wd := by unfold I64; omega
  have HI := Lib.hid hIw
  clear hIw hm1
  go_wp2_with fail
  refine (l17Any_any hc2).mono ?_
  rintro e w3 ⟨r, ls, rfl, hsm, hO, ho3, hc3⟩
  have hs3 := ho3.size
  have HF3 := Lib.hid (HF2.out.trans ho3)
  have hsz2 := HF2.out.size
  go_wp2
  have hbF := blw_out hb1 HF3.out (Nat.le_refl _) (by omega)
  refine bodyPost_ret (v := .tuple #[r, .int .i64 wd]) (by simp [results, Tryd.results35, go_sem]) rfl ?_
  exact ⟨r, ls, wd, rfl, hsm, HI.out, hO.rd.wide (by omega) (Nat.le_refl _), hbF⟩
set_option maxHeartbeats 400000 in
set_option maxRecDepth 100000 in
theorem drawGreedy_any {lo hi : Nat} {xs : List Int} {w : World} {v : Value} (hr : Rd bytS lo hi w v xs) (hh : hi ≤ w.heap.size) (hx : ∀ x ∈ xs, U8 x) (hl : xs.length ≤ 1048576) :
    Calls Tryd.prog 15 #[v] w (PairRet w) := by
  go_enter Tryd.func15, Tryd.ntmps15
  go_wp2_with fail
  refine (l17Pair_any hr hh hx hl).mono ?_
  rintro e w1 ⟨r, ls, wd, rfl, h1, h2, h3, h4⟩
  go_wp2
  refine bodyPost_ret (v := .tuple #[r, .int .i64 wd]) (by simp [results, Tryd.results15, go_sem]) rfl ?_
  exact ⟨r, ls, wd, rfl, h1, h2, h3, h4⟩
def RagRet (w : World) (e : Ending) (w' : World) : Prop :=
  ∃ r ls wd, e = .returned (.tuple #[r, .int .i64 wd]) ∧ ls.length ≤ 61 ∧ (∀ l ∈ ls, l.size ≤ 1300) ∧ I64 wd ∧ Rd strF.shape w.heap.size w'.heap.size w' r ls ∧ Below w.heap.size w w'
set_option maxHeartbeats 400000 in
set_option maxRecDepth 100000 in
theorem drawRagOf_any {lo hi : Nat} {xs : List Int} {w : World} {v : Value} (hr : Rd bytS lo hi w v xs) (hh : hi ≤ w.heap.size) (hx : ∀ x ∈ xs, U8 x) (hl : xs.length ≤ 1048576) :
    Calls Tryd.prog 16 #[v] w (RagRet w) := by
  go_enter Tryd.func16, Tryd.ntmps16
  go_wp2_with fail
  refine (l17Pair_any hr hh hx hl).mono ?_
  rintro e w1 ⟨r, ls, wd, rfl, ⟨h1, h1'⟩, h2, h3, h4⟩
  have hs1 := h4.size
  have hsum := sz_bound (M := 20) h1'
  go_wp2_with fail
  refine (greedy_spec 12 h3 (Nat.le_refl _) (by omega)).mono ?_
  rintro e w2 ⟨r2, rfl, hb2, hO2⟩
  have hgl := greedyL_len 0 12 ls
  go_wp2
  refine bodyPost_ret (v := .tuple #[r2, .int .i64 wd]) (by simp [results, Tryd.results16, go_sem]) rfl ?_
  exact ⟨r2, _, wd, rfl, by omega, fun l hl => by have := greedyL_size l hl; omega, h2, hO2.rd.wide hs1 (Nat.le_refl _), h4.trans (hb2.mono hs1)⟩
def TextRet (w : World) (e : Ending) (w' : World) : Prop := ∃ s : ByteArray, e = .returned (.string s) ∧ s.size ≤ 40 ∧ Below w.heap.size w w'
set_option maxHeartbeats 400000 in
set_option maxRecDepth 100000 in
theorem drawWordsOf_any {lo hi : Nat} {xs : List Int} {w : World} {v : Value} (hr : Rd bytS lo hi w v xs) (hh : hi ≤ w.heap.size) (hx : ∀ x ∈ xs, U8 x) (hl : xs.length ≤ 1048576) :
    Calls Tryd.prog 17 #[v] w (TextRet w) := by

  go_enter Tryd.func17, Tryd.ntmps17
  go_wp2_with fail
  refine (l01New_any hr hh hx hl).mono ?_
  rintro e w1 ⟨rfl, hb1, hc1, hs0⟩
  have hs1 : w.heap.size + 1 ≤ w1.heap.size := Nat.le_of_eq hs0.symm
  clear hs0
  have HF1 := Lib.hid (Out.refl w.heap.size (w.heap.size + 1) w1)
  go_wp2_with fail
  have hgl1 := hc1.lt
  have hrl1 := rd_lit strF w1 [ByteArray.mk #[], ByteArray.mk #[32], ByteArray.mk #[97], ByteArray.mk #[32, 97, 32, 32, 98, 32], ByteArray.mk #[97, 32, 98], ByteArray.mk #[111, 110, 101, 32, 116, 119, 111]] #[.string (ByteArray.mk #[]), .string (ByteArray.mk #[32]), .string (ByteArray.mk #[97]), .string (ByteArray.mk #[32, 97, 32, 32, 98, 32]), .string (ByteArray.mk #[97, 32, 98]), .string (ByteArray.mk #[111, 110, 101, 32, 116, 119, 111])] 9 rfl (by decide)
  obtain ⟨A1, HA1⟩ : ∃ A : Obj, A = .cells #[.string (ByteArray.mk #[]), .string (ByteArray.mk #[32]), .string (ByteArray.mk #[97]), .string (ByteArray.mk #[32, 97, 32, 32, 98, 32]), .string (ByteArray.mk #[97, 32, 98]), .string (ByteArray.mk #[111, 110, 101, 32, 116, 119, 111])] 9 := ⟨_, rfl⟩
  rw [← HA1] at hrl1
  rw [← HA1]
  clear HA1
  have hba1 : Below w1.heap.size w1 (w1.alloc A1) := (Below.refl _ _).alloc (Nat.le_refl _) _
  have hsa1 : w1.heap.size + 1 ≤ (w1.alloc A1).heap.size := by simp
  generalize w1.alloc A1 = v1 at *
  have hd1 := hc1.below hba1 hgl1
  have hsz1 := HF1.out.size
  refine (l01Pick_any hd1 hrl1 (by omega) (.inr (by omega)) (by decide) (by decide)).mono ?_
  rintro e w2 ⟨s, rfl, hm1, ho1, hc2⟩
  have hss1 := ho1.size
  have HF2 := Lib.hid ((HF1.out.then hba1 (by omega)).trans ho1)
  clear hrl1
  have hz : s.size ≤ 40 := by
    simp only [List.mem_cons, List.not_mem_nil, or_false] at hm1
    rcases hm1 with rfl | rfl | rfl | rfl | rfl | rfl <;> decide
  clear hm1
  go_wp2
  go_ret
  exact ⟨s, rfl, hz, blw_out hb1 HF2.out (Nat.le_refl _) (by omega)⟩
def NoteRet (w : World) (e : Ending) (w' : World) : Prop := ∃ (s : ByteArray) (n wd : Int), e = .returned (.tuple #[.string s, .int .i64 n, .int .i64 wd]) ∧ s.size ≤ 40 ∧ I64 n ∧ I64 wd ∧ Below w.heap.size w w'
set_option maxHeartbeats 400000 in
set_option maxRecDepth 100000 in
theorem drawWrapNote_any {lo hi : Nat} {xs : List Int} {w : World} {v : Value} (hr : Rd bytS lo hi w v xs) (hh : hi ≤ w.heap.size) (hx : ∀ x ∈ xs, U8 x) (hl : xs.length ≤ 1048576) :
    Calls Tryd.prog 18 #[v] w (NoteRet w) := by

  go_enter Tryd.func18, Tryd.ntmps18
  go_wp2_with fail
  refine (l01New_any hr hh hx hl).mono ?_
  rintro e w1 ⟨rfl, hb1, hc1, hs0⟩
  have hs1 : w.heap.size + 1 ≤ w1.heap.size := Nat.le_of_eq hs0.symm
  clear hs0
  have HF1 := Lib.hid (Out.refl w.heap.size (w.heap.size + 1) w1)
  go_wp2_with fail
  have hgl1 := hc1.lt
  have hrl1 := rd_lit intF w1 [0, 2, 60, 61, (-1)] #[.int .i64 0, .int .i64 2, .int .i64 60, .int .i64 61, .int .i64 (-1)] 3 rfl (by decide)
  obtain ⟨A1, HA1⟩ : ∃ A : Obj, A = .cells #[.int .i64 0, .int .i64 2, .int .i64 60, .int .i64 61, .int .i64 (-1)] 3 := ⟨_, rfl⟩
  rw [← HA1] at hrl1
  rw [← HA1]
  clear HA1
  have hba1 : Below w1.heap.size w1 (w1.alloc A1) := (Below.refl _ _).alloc (Nat.le_refl _) _
  have hsa1 : w1.heap.size + 1 ≤ (w1.alloc A1).heap.size := by simp
  generalize w1.alloc A1 = v1 at *
  have hd1 := hc1.below hba1 hgl1
  have hsz1 := HF1.out.size
  refine (l01PickInt_any hd1 hrl1 (by omega) (.inr (by omega)) (by decide) (by decide)).mono ?_
  rintro e w2 ⟨n, rfl, hm1, ho1, hc2⟩
  have hss1 := ho1.size
  have HF2 := Lib.hid ((HF1.out.then hba1 (by omega)).trans ho1)
  clear hrl1
  simp only [List.mem_cons, List.not_mem_nil, or_false] at hm1
  have hIn : I64 n := by unfold I64; omega
  have HIN := Lib.hid hIn
  clear hIn hm1
  go_wp2_with fail
  have hgl2 := hc2.lt
  have hrl2 := rd_lit strF w2 [ByteArray.mk #[47, 47], ByteArray.mk #[47, 47, 32, 115, 97, 105, 100], ByteArray.mk #[47, 47, 32, 111, 110, 101, 32, 116, 119, 111, 32, 116, 104, 114, 101, 101, 32, 102, 111, 117, 114, 32, 102, 105, 118, 101], ByteArray.mk #[47, 47, 97, 32, 32, 98], ByteArray.mk #[110, 111], ByteArray.mk #[47, 47, 32]] #[.string (ByteArray.mk #[47, 47]), .string (ByteArray.mk #[47, 47, 32, 115, 97, 105, 100]), .string (ByteArray.mk #[47, 47, 32, 111, 110, 101, 32, 116, 119, 111, 32, 116, 104, 114, 101, 101, 32, 102, 111, 117, 114, 32, 102, 105, 118, 101]), .string (ByteArray.mk #[47, 47, 97, 32, 32, 98]), .string (ByteArray.mk #[110, 111]), .string (ByteArray.mk #[47, 47, 32])] 9 rfl (by decide)
  obtain ⟨A2, HA2⟩ : ∃ A : Obj, A = .cells #[.string (ByteArray.mk #[47, 47]), .string (ByteArray.mk #[47, 47, 32, 115, 97, 105, 100]), .string (ByteArray.mk #[47, 47, 32, 111, 110, 101, 32, 116, 119, 111, 32, 116, 104, 114, 101, 101, 32, 102, 111, 117, 114, 32, 102, 105, 118, 101]), .string (ByteArray.mk #[47, 47, 97, 32, 32, 98]), .string (ByteArray.mk #[110, 111]), .string (ByteArray.mk #[47, 47, 32])] 9 := ⟨_, rfl⟩
  rw [← HA2] at hrl2
  rw [← HA2]
  clear HA2
  have hba2 : Below w2.heap.size w2 (w2.alloc A2) := (Below.refl _ _).alloc (Nat.le_refl _) _
  have hsa2 : w2.heap.size + 1 ≤ (w2.alloc A2).heap.size := by simp
  generalize w2.alloc A2 = v2 at *
  have hd2 := hc2.below hba2 hgl2
  have hsz2 := HF2.out.size
  refine (l01Pick_any hd2 hrl2 (by omega) (.inr (by omega)) (by decide) (by decide)).mono ?_
  rintro e w3 ⟨s, rfl, hm2, ho2, hc3⟩
  have hss2 := ho2.size
  have HF3 := Lib.hid ((HF2.out.then hba2 (by omega)).trans ho2)
  clear hrl2
  have hz : s.size ≤ 40 := by
    simp only [List.mem_cons, List.not_mem_nil, or_false] at hm2
    rcases hm2 with rfl | rfl | rfl | rfl | rfl | rfl <;> decide
  clear hm2
  go_wp2_with fail
  have hgl3 := hc3.lt
  have hrl3 := rd_lit intF w3 [10, 20, 5, (-1), 9223372036854775807] #[.int .i64 10, .int .i64 20, .int .i64 5, .int .i64 (-1), .int .i64 9223372036854775807] 3 rfl (by decide)
  obtain ⟨A3, HA3⟩ : ∃ A : Obj, A = .cells #[.int .i64 10, .int .i64 20, .int .i64 5, .int .i64 (-1), .int .i64 9223372036854775807] 3 := ⟨_, rfl⟩
  rw [← HA3] at hrl3
  rw [← HA3]
  clear HA3
  have hba3 : Below w3.heap.size w3 (w3.alloc A3) := (Below.refl _ _).alloc (Nat.le_refl _) _
  have hsa3 : w3.heap.size + 1 ≤ (w3.alloc A3).heap.size := by simp
  generalize w3.alloc A3 = v3 at *
  have hd3 := hc3.below hba3 hgl3
  have hsz3 := HF3.out.size
  refine (l01PickInt_any hd3 hrl3 (by omega) (.inr (by omega)) (by decide) (by decide)).mono ?_
  rintro e w4 ⟨wd, rfl, hm3, ho3, hc4⟩
  have hss3 := ho3.size
  have HF4 := Lib.hid ((HF3.out.then hba3 (by omega)).trans ho3)
  clear hrl3
  simp only [List.mem_cons, List.not_mem_nil, or_false] at hm3
  have hIw : I64 wd := by unfold I64; omega
  have HIW := Lib.hid hIw
  clear hIw hm3
  go_wp2
  refine bodyPost_ret (v := .tuple #[.string s, .int .i64 n, .int .i64 wd]) (by simp [results, Tryd.results18, go_sem]) rfl ?_
  exact ⟨s, n, wd, rfl, hz, HIN.out, HIW.out, blw_out hb1 HF4.out (Nat.le_refl _) (by omega)⟩
end Go.Proofs.YtjaginciejljkaaDoor
