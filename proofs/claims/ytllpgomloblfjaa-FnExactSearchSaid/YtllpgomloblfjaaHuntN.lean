/- The hunt run, by the program: run, Search, PopsOf. -/
import Derived.Test.YtllpgomloblfjaaHuntO
import Derived.Deep.LoopGhost
namespace Go.Proofs.Ytllpgomloblfjaa
open Go.RowKit

theorem HOwn.drew' {M : Kept} {lo hi : Nat} {w : World} {v : Value} {xs : List StL} (h : HOwn M lo hi w v xs) : HOwn M lo hi w.drew v xs := by
  obtain ⟨ps, k1, k2⟩ := h
  exact ⟨ps, k1.drew, k2⟩
theorem own_gone {α : Type} {F : Flat α} {T lo hi : Nat} {w : World} {v : Value} {xs : List α} (h : Own F T lo hi w v xs) (H : Nat) (hH : H < lo) (cs : List Value) (o : Nat) : Own F T lo hi (storeAll H cs o w) v xs := h.same (same_storeAll (.inl hH) cs o w)
theorem own_st1 {lo : Nat} {w : World} (T : TypeId) (h : lo ≤ w.heap.size) : Own stF T lo (w.alloc (.cells #[.slice none 0 0, .int .i64 0] T)).heap.size (w.alloc (.cells #[.slice none 0 0, .int .i64 0] T)) (.slice (some ⟨w.heap.size, 0, none⟩) 1 1) [((⟨[], 0⟩ : StL), ((none, 0, 0) : SV))] :=
  ⟨⟨rfl, .inr ⟨w.heap.size, 1, #[.slice none 0 0, .int .i64 0], rfl, h, heap_alloc_new _ _, Nat.le_refl _, by unfold maxLen; omega, rfl, rfl⟩⟩, fun g hg => by
    obtain rfl : w.heap.size = g := by simpa [Value.ownBlock] using hg
    simp⟩
/-- what run leaves -/
def RunPost (x : Piece) (ra : Option Addr) (rc : Nat) (ca : Option Addr) (cc : Nat) (sa : Option Addr) (sc : Nat) (ta : Option Addr) (tc H : Nat) (wd : Int) (w : World) (goal : HuntR) (e : Ending) (w' : World) : Prop :=
  e = .returned (.int .i64 goal.state) ∧ ∃ (bv : SV) (hv : Value) (c : CostL), HBlk x ra rc ca cc sa sc ta tc H wd bv.v hv c goal.pops w' ∧ Own intF 3 (H + 1) w'.heap.size w' bv.v goal.best ∧ Below H w w'
set_option maxHeartbeats 8000000 in
set_option maxRecDepth 100000 in
theorem run_impl (x : Piece) (ra ca sa ta : Option Addr) (rc cc sc tc lo hi H : Nat) (wd budget : Int) (w : World) (hp : PFour x ra rc ca cc sa sc ta tc lo hi w) (hh : hi ≤ H) (hx : Right x) (hz : Sized x)
    (hH : HBlk x ra rc ca cc sa sc ta tc H wd (.slice none 0 0) (.slice none 0 0) ⟨0, 0⟩ 0 w) :
    Calls Try.prog 56 #[.pointer (some ⟨H, 0, none⟩), .int .i64 budget] w (RunPost x ra rc ca cc sa sc ta tc H wd w (huntL x wd budget)) := by
  have hHl := hH.lt
  have HST := Lib.hid (hunt_start hx hz wd budget)
  obtain ⟨goal, hgoal⟩ : ∃ goal, Hid (huntL x wd budget = goal) := ⟨_, rfl⟩
  rw [hgoal.out] at HST
  rw [hgoal.out]
  have HAF := Lib.hid (all_fit hx)
  have HPP := Lib.hid (fun (w2 : World) (h2 : Below H w w2) => hp.below h2 hh)
  obtain ⟨p0, p1, p2, p3, p4, p5, p6, p7, p8, p9, p10⟩ := hH.eleven
  have f6 := hH.frz 6
  have HAS := Lib.hid (allSplit_impl x ra ca sa ta rc cc sc tc lo hi w hp (by omega) hx)
  unfold Piece.v at HAS
  go_enter Try.func56, Try.ntmps56
  go_wp2_with fail
  refine HAS.out.mono ?_
  clear HAS
  rintro e w1 ⟨u1, rfl, hb1, hO1⟩
  obtain ⟨ba, bc, rfl, -, -, -⟩ := hO1.form
  have hs1 := hb1.size
  have hH1 := hH.below hb1
  replace p6 := (hb1.cell (p := ⟨H, 6, none⟩) hHl).trans p6
  replace f6 := (hb1.frozen (p := ⟨H, 6, none⟩) hHl).trans f6
  generalize hal : allL x = al at *
  clear hal p0 p1 p2 p3 p4 p5 p7 p8 p9 p10
  go_upto_region 2 with fail
  have hH2 := hH1.setBest (.slice ba al.length bc)
  have hO2 : Own intF 3 (H + 1) w1.heap.size (w1.setCell ⟨H, 6, none⟩ (.slice ba al.length bc)) (.slice ba al.length bc) al := own_gone (hO1.wide (by omega) (Nat.le_refl _)) H (Nat.lt_succ_self H) [.slice ba al.length bc] 6
  have hb2 : Below H w (w1.setCell ⟨H, 6, none⟩ (.slice ba al.length bc)) := (hb1.mono (Nat.le_of_lt hHl)).setCell (p := ⟨H, 6, none⟩) (Nat.le_refl _) _
  have hs2 : w1.heap.size = (w1.setCell ⟨H, 6, none⟩ (.slice ba al.length bc)).heap.size := by simp [World.setCell]
  rw [hs2] at hO2
  clear hs2 p6 f6 hH1 hO1 hb1 hH
  generalize w1.setCell ⟨H, 6, none⟩ (.slice ba al.length bc) = w2 at *
  have HCO := Lib.hid (fun (w3 : World) (h3 : Below w2.heap.size w2 w3) => costOf_impl x al ra ca sa ta ba rc cc sc tc bc lo hi (H + 1) w2.heap.size wd w3 (HPP.out w3 (hb2.trans (h3.mono (Nat.le_of_lt hH2.lt)))) (by have := h3.size; have := hH2.lt; omega) (hO2.rd.below h3 (Nat.le_refl _)) h3.size hx HAF.out.1 HAF.out.2 hz)
  unfold Piece.v at HCO
  go_wp2_with fail
  have hHd : HBlk x ra rc ca cc sa sc ta tc H wd (.slice ba al.length bc) (.slice none 0 0) ⟨0, 0⟩ 0 w2.drew := hH2
  obtain ⟨p0, p1, p2, p3, p4, p5, p6, -, -, -, -⟩ := hHd.eleven
  have hbd : Below w2.heap.size w2 w2.drew := (Below.refl _ _).drew
  refine wp_region_held_drew (S := fun w' => w'.cell? ⟨H, 0, none⟩ = some (.int .i64 x.indent) ∧ w'.cell? ⟨H, 1, none⟩ = some (.slice ra x.rules.length rc) ∧ w'.cell? ⟨H, 2, none⟩ = some (.slice ca x.chunks.length cc) ∧ w'.cell? ⟨H, 3, none⟩ = some (.slice sa x.spans.length sc) ∧ w'.cell? ⟨H, 4, none⟩ = some (.slice ta x.ties.length tc) ∧ w'.cell? ⟨H, 5, none⟩ = some (.int .i64 wd) ∧ w'.cell? ⟨H, 6, none⟩ = some (.slice ba al.length bc)) (by kernel_rfl) ?_ (fun hHeld => ?_)
  · exact ⟨p0, p1, p2, p3, p4, p5, p6⟩
  clear p0 p1 p2 p3 p4 p5 p6
  generalize w2.drew = wD at *
  refine wpAnyH_take (i := 0) (v := ?v1) (at_op rfl) (by kernel_rfl) (by kernel_rfl) (by kernel_rfl) (fun _ _ _ h => h) (Or.inl ⟨by rfl, ?y1⟩) (by assumption) ?r1
  case y1 =>
    intro wx hSx
    go_simp
    try with_reducible rfl
  try simp only [Act.put, List.setIfInBounds_toArray, List.set_cons_zero, List.set_cons_succ]
  refine wpAnyH_take (i := 1) (v := ?v2) (at_op rfl) (by kernel_rfl) (by kernel_rfl) (by kernel_rfl) (fun _ _ _ h => h) (Or.inl ⟨by rfl, ?y2⟩) (by assumption) ?r2
  case y2 =>
    intro wx hSx
    go_simp
    try with_reducible rfl
  try simp only [Act.put, List.setIfInBounds_toArray, List.set_cons_zero, List.set_cons_succ]
  refine wpAnyH_take (i := 2) (v := ?v3) (at_op rfl) (by kernel_rfl) (by kernel_rfl) (by kernel_rfl) (fun _ _ _ h => h) (Or.inl ⟨by rfl, ?y3⟩) (by assumption) ?r3
  case y3 =>
    intro wx hSx
    go_simp
    try with_reducible rfl
  try simp only [Act.put, List.setIfInBounds_toArray, List.set_cons_zero, List.set_cons_succ]
  refine wpAnyH_take (i := 3) (v := ?v4) (at_op rfl) (by kernel_rfl) (by kernel_rfl) (by kernel_rfl) (fun _ _ _ h => h) (Or.inl ⟨by rfl, ?y4⟩) (by assumption) ?r4
  case y4 =>
    intro wx hSx
    go_simp
    try with_reducible rfl
  try simp only [Act.put, List.setIfInBounds_toArray, List.set_cons_zero, List.set_cons_succ]
  refine wpAnyH_take (i := 4) (v := ?v5) (at_op rfl) (by kernel_rfl) (by kernel_rfl) (by kernel_rfl) (fun _ _ _ h => h) (Or.inl ⟨by rfl, ?y5⟩) (by assumption) ?r5
  case y5 =>
    intro wx hSx
    go_simp
    try with_reducible rfl
  try simp only [Act.put, List.setIfInBounds_toArray, List.set_cons_zero, List.set_cons_succ]
  refine wpAnyH_take (i := 5) (v := ?v6) (at_op rfl) (by kernel_rfl) (by kernel_rfl) (by kernel_rfl) (fun _ _ _ h => h) (Or.inl ⟨by rfl, ?y6⟩) (by assumption) ?r6
  case y6 =>
    intro wx hSx
    go_simp
    try with_reducible rfl
  try simp only [Act.put, List.setIfInBounds_toArray, List.set_cons_zero, List.set_cons_succ]
  refine wpAnyH_take (i := 6) (v := ?v7) (at_op rfl) (by kernel_rfl) (by kernel_rfl) (by kernel_rfl) (fun _ _ _ h => h) (Or.inl ⟨by rfl, ?y7⟩) (by assumption) ?r7
  case y7 =>
    intro wx hSx
    go_simp
    try with_reducible rfl
  try simp only [Act.put, List.setIfInBounds_toArray, List.set_cons_zero, List.set_cons_succ]
  refine wpAnyH_take (i := 7) (v := ?v8) (at_op rfl) (by kernel_rfl) (by kernel_rfl) (by kernel_rfl) (fun _ _ _ h => h) (Or.inl ⟨by rfl, ?y8⟩) (by assumption) ?r8
  case y8 =>
    intro wx hSx
    go_simp
    try with_reducible rfl
  try simp only [Act.put, List.setIfInBounds_toArray, List.set_cons_zero, List.set_cons_succ]
  refine wpAnyH_take (i := 8) (v := ?v9) (at_op rfl) (by kernel_rfl) (by kernel_rfl) (by kernel_rfl) (fun _ _ _ h => h) (Or.inl ⟨by rfl, ?y9⟩) (by assumption) ?r9
  case y9 =>
    intro wx hSx
    go_simp
    try with_reducible rfl
  try simp only [Act.put, List.setIfInBounds_toArray, List.set_cons_zero, List.set_cons_succ]
  refine wpAnyH_take (i := 9) (v := ?v10) (at_op rfl) (by kernel_rfl) (by kernel_rfl) (by kernel_rfl) (fun _ _ _ h => h) (Or.inl ⟨by rfl, ?y10⟩) (by assumption) ?r10
  case y10 =>
    intro wx hSx
    go_simp
    try with_reducible rfl
  try simp only [Act.put, List.setIfInBounds_toArray, List.set_cons_zero, List.set_cons_succ]
  refine wpAnyH_take (i := 10) (v := ?v11) (at_op rfl) (by kernel_rfl) (by kernel_rfl) (by kernel_rfl) (fun _ _ _ h => h) (Or.inl ⟨by rfl, ?y11⟩) (by assumption) ?r11
  case y11 =>
    intro wx hSx
    go_simp
    try with_reducible rfl
  try simp only [Act.put, List.setIfInBounds_toArray, List.set_cons_zero, List.set_cons_succ]
  refine wpAnyH_take (i := 11) (v := ?v12) (at_op rfl) (by kernel_rfl) (by kernel_rfl) (by kernel_rfl) (fun _ _ _ h => h) (Or.inl ⟨by rfl, ?y12⟩) (by assumption) ?r12
  case y12 =>
    intro wx hSx
    go_simp
    try with_reducible rfl
  try simp only [Act.put, List.setIfInBounds_toArray, List.set_cons_zero, List.set_cons_succ]
  refine wpAnyH_take (i := 12) (v := ?v13) (at_op rfl) (by kernel_rfl) (by kernel_rfl) (by kernel_rfl) (fun _ _ _ h => h) (Or.inl ⟨by rfl, ?y13⟩) (by assumption) ?r13
  case y13 =>
    intro wx hSx
    go_simp
    try with_reducible rfl
  try simp only [Act.put, List.setIfInBounds_toArray, List.set_cons_zero, List.set_cons_succ]
  refine wpAnyH_ready (rs := [13]) (by kernel_rfl) (by simp) ?_
  refine AllReadyH.cons (at_op rfl) (fun K hK => ?_) AllReadyH.nil
  go_simp
  refine (HCO.out _ hbd).mono ?_
  clear HCO
  rintro e w3 ⟨rfl, hb3⟩
  have hH3 := hHd.below hb3
  obtain ⟨p0, p1, p2, p3, p4, p5, p6, p7, p8, -, -⟩ := hH3.eleven
  have f7 := hH3.frz 7
  have f8 := hH3.frz 8
  have hbE := hbd.trans (hb3.mono hbd.size)
  go_wp2_with fail
  refine hK.out _ _ ⟨p0, p1, p2, p3, p4, p5, p6⟩ (fun _ => ?_)
  clear hK K
  try simp only [Act.put, List.setIfInBounds_toArray, List.set_cons_zero, List.set_cons_succ]
  refine wpAnyH_take (i := 14) (v := ?v14) (at_op rfl) (by kernel_rfl) (by kernel_rfl) (by kernel_rfl) (fun _ _ _ h => h) (Or.inl ⟨by rfl, ?y14⟩) (by assumption) ?r14
  case y14 =>
    intro wx hSx
    go_simp
    try with_reducible rfl
  try simp only [Act.put, List.setIfInBounds_toArray, List.set_cons_zero, List.set_cons_succ]
  refine wpAnyH_take (i := 15) (v := ?v15) (at_op rfl) (by kernel_rfl) (by kernel_rfl) (by kernel_rfl) (fun _ _ _ h => h) (Or.inl ⟨by rfl, ?y15⟩) (by assumption) ?r15
  case y15 =>
    intro wx hSx
    go_simp
    try with_reducible rfl
  try simp only [Act.put, List.setIfInBounds_toArray, List.set_cons_zero, List.set_cons_succ]
  refine wpAnyH_ready (rs := [16]) (by kernel_rfl) (by simp) ?_
  refine AllReadyH.cons (at_op rfl) (fun K hK => ?_) AllReadyH.nil
  go_wp2_with fail
  have hH4 := hH3.setCost (costR x al wd)
  obtain ⟨q0, q1, q2, q3, q4, q5, q6, -, -, -, -⟩ := hH4.eleven
  refine hK.out _ _ ⟨q0, q1, q2, q3, q4, q5, q6⟩ (fun _ => ?_)
  clear hK K
  try simp only [Act.put, List.setIfInBounds_toArray, List.set_cons_zero, List.set_cons_succ]
  refine wpAnyH_done (by kernel_rfl) ?_ _
  have hs3 := hb3.size
  have hB3 : Below H w w3 := hb2.trans (hbE.mono (by have := hH2.lt; omega))
  have hO3 := (hO2.below hbE (Nat.le_refl _)).wide (Nat.le_refl _) hbE.size
  have hO4 : Own intF 3 (H + 1) ((w3.setCell ⟨H, 7, none⟩ (.int .i64 (costR x al wd).over)).setCell ⟨H, 8, none⟩ (.int .i64 (costR x al wd).sum)).heap.size ((w3.setCell ⟨H, 7, none⟩ (.int .i64 (costR x al wd).over)).setCell ⟨H, 8, none⟩ (.int .i64 (costR x al wd).sum)) (.slice ba al.length bc) al := (own_gone hO3 H (Nat.lt_succ_self H) [.int .i64 (costR x al wd).over, .int .i64 (costR x al wd).sum] 7).wide (Nat.le_refl _) (by simp [World.setCell])
  have hb4 : Below H w ((w3.setCell ⟨H, 7, none⟩ (.int .i64 (costR x al wd).over)).setCell ⟨H, 8, none⟩ (.int .i64 (costR x al wd).sum)) := (hB3.setCell (p := ⟨H, 7, none⟩) (Nat.le_refl _) _).setCell (p := ⟨H, 8, none⟩) (Nat.le_refl _) _
  generalize (w3.setCell ⟨H, 7, none⟩ (.int .i64 (costR x al wd).over)).setCell ⟨H, 8, none⟩ (.int .i64 (costR x al wd).sum) = w4 at *
  clear hH3 hHd hbd hb3 hbE f7 f8 q0 q1 q2 q3 q4 q5 q6 p0 p1 p2 p3 p4 p5 p6 p7 p8 hO2 hO3 hH2 hB3 hb2 hs3
  generalize costR x al wd = cst at *
  have hHl4 := hH4.lt
  have hE := heap_alloc_new w4 (.cells #[.slice none 0 0, .int .i64 0] 96)
  have hbE : Below w4.heap.size w4 (w4.alloc (.cells #[.slice none 0 0, .int .i64 0] 96)) := (Below.refl _ _).alloc (Nat.le_refl _) _
  have hsE : w4.heap.size < (w4.alloc (.cells #[.slice none 0 0, .int .i64 0] 96)).heap.size := by simp
  obtain ⟨-, -, -, -, -, -, -, -, -, p9, -⟩ := (hH4.below hbE).eleven
  have f9 := (hH4.below hbE).frz 9
  go_wp2_with fail
  clear p9 f9 hE hbE hsE
  have he : (w4.setCell ⟨H, 9, none⟩ (.slice (some ⟨w4.heap.size, 0, none⟩) 1 1)).heap.size = w4.heap.size := by simp [World.setCell]
  have hH5 : HBlk x ra rc ca cc sa sc ta tc H wd (.slice ba al.length bc) (.slice (some ⟨w4.heap.size, 0, none⟩) 1 1) cst 0 ((w4.setCell ⟨H, 9, none⟩ (.slice (some ⟨w4.heap.size, 0, none⟩) 1 1)).alloc (.cells #[.slice none 0 0, .int .i64 0] 96)) := (hH4.setHeap _).below ((Below.refl _ _).alloc (Nat.le_refl _) _)
  have hO5 : Own intF 3 (H + 1) ((w4.setCell ⟨H, 9, none⟩ (.slice (some ⟨w4.heap.size, 0, none⟩) 1 1)).alloc (.cells #[.slice none 0 0, .int .i64 0] 96)).heap.size ((w4.setCell ⟨H, 9, none⟩ (.slice (some ⟨w4.heap.size, 0, none⟩) 1 1)).alloc (.cells #[.slice none 0 0, .int .i64 0] 96)) (.slice ba al.length bc) al := ((own_gone hO4 H (Nat.lt_succ_self H) [.slice (some ⟨w4.heap.size, 0, none⟩) 1 1] 9).alloc _).wide (Nat.le_refl _) (by simp [World.setCell])
  have hS5 := own_st1 (lo := H + 1) (w := w4.setCell ⟨H, 9, none⟩ (.slice (some ⟨w4.heap.size, 0, none⟩) 1 1)) 96 (by rw [he]; exact hHl4)
  have hb5 : Below H w ((w4.setCell ⟨H, 9, none⟩ (.slice (some ⟨w4.heap.size, 0, none⟩) 1 1)).alloc (.cells #[.slice none 0 0, .int .i64 0] 96)) := (hb4.setCell (p := ⟨H, 9, none⟩) (Nat.le_refl _) _).alloc (by rw [he]; exact Nat.le_of_lt hHl4) _
  rw [he] at hS5
  clear hH4 hO4 hb4 he
  generalize (w4.setCell ⟨H, 9, none⟩ (.slice (some ⟨w4.heap.size, 0, none⟩) 1 1)).alloc (.cells #[.slice none 0 0, .int .i64 0] 96) = w5 at *
  have hHS : HOwn ⟨[((⟨al, 0⟩ : StL), ((ba, al.length, bc) : SV))], []⟩ (H + 1) w5.heap.size w5 (.slice (some ⟨w4.heap.size, 0, none⟩) 1 1) [⟨[], 0⟩] :=
    ⟨[((⟨[], 0⟩ : StL), ((none, 0, 0) : SV))], ⟨hS5, fun p hp => by rw [List.mem_singleton.1 hp]; exact Own.nil _ _ _ _ _, fun p hp => by rw [List.mem_singleton.1 hp]; exact hO5, fun q hq => by cases hq⟩, rfl⟩
  clear hS5 hO5
  go_loopg [] (sumW x [⟨[], 0⟩]) (fun g wr => ∃ (pops : Nat) (heap : List StL) (best : List Int) (bv : SV) (hv : Value) (c : CostL), g = sumW x heap ∧ Hid (HuntSt x wd budget goal pops heap best c) ∧ HBlk x ra rc ca cc sa sc ta tc H wd bv.v hv c pops wr ∧ HOwn ⟨[((⟨best, 0⟩ : StL), bv)], []⟩ (H + 1) wr.heap.size wr hv heap ∧ Below H w wr)
  case atStart => exact ⟨0, _, _, (ba, al.length, bc), _, _, rfl, HST.out, hH5, hHS, hb5⟩
  case round =>
    clear hH5 hHS hb5 HST HAF
    obtain ⟨pops, heap, best, bv, hv, c, hg, HS, hHr, hSr, hbr⟩ := hrel
    have hHlr := hHr.lt
    obtain ⟨ha, hc, rfl, -, -⟩ := hSr.form
    obtain ⟨p0, p1, p2, p3, p4, p5, p6, p7, p8, p9, p10⟩ := hHr.eleven
    have hlw := len_sumW x heap
    have hleft := HS.out.left
    by_cases h0 : heap.length = 0
    · have h0i : ¬ (heap.length : Int) > 0 := by omega
      have HE := Lib.hid (hunt_end HS.out h0)
      obtain ⟨ps, k1, -⟩ := hSr
      have hbst := k1.more ((⟨best, 0⟩ : StL), bv) (List.mem_singleton.2 rfl)
      clear h0
      go_wp2
      go_ret
      unfold RunPost
      rw [HE.out]
      exact ⟨rfl, bv, _, c, hHr, hbst, hbr⟩
    · have h0i : (heap.length : Int) > 0 := by omega
      by_cases hbu : budget ≤ (pops : Int)
      · have hbg : (pops : Int) ≥ budget := hbu
        have HE := Lib.hid (hunt_stop HS.out (by omega) hbu)
        obtain ⟨ps, k1, -⟩ := hSr
        have hbst := k1.more ((⟨best, 0⟩ : StL), bv) (List.mem_singleton.2 rfl)
        clear h0
        go_wp2
        go_ret
        unfold RunPost
        rw [HE.out]
        exact ⟨rfl, bv, _, c, hHr, hbst, hbr⟩
      · have hbg : ¬ (pops : Int) ≥ budget := hbu
        obtain ⟨ps, hSp, hq⟩ := hSr
        have HQ := Lib.hid hq
        have hql : ps.length = heap.length := by rw [← hq, List.length_map]
        have HP := Lib.hid (pop_impl ps _ (H + 1) wr.heap.size wr hSp (by omega) hHlr (Nat.le_refl _) (by omega))
        rw [hq] at HP
        have HTR := Lib.hid (fun hv => hunt_try hx hz HS.out (show 0 < heap.length by omega) hbu hv)
        have HOP := Lib.hid (fun hv => hunt_open hx HS.out (show 0 < heap.length by omega) hbu hv)
        have HPL : Hid ((popL heap).length ≤ 20000) := by show _ ≤ _; have := pop_short (l := heap); omega
        have HRB := Lib.hid HS.out.rightB
        obtain ⟨rest, hrest⟩ : ∃ rest, Hid (popL heap = rest) := ⟨_, rfl⟩
        obtain ⟨st, hst⟩ : ∃ st, Hid (stA heap 0 = st) := ⟨_, rfl⟩
        rw [hrest.out, hst.out] at HP HTR HOP
        rw [hrest.out] at HPL
        obtain ⟨xv, xs⟩ := st
        replace HP : Hid (Calls Try.prog 101 #[.slice ha heap.length hc] wr fun e w' => ∃ u a n c, e = .returned (.tuple #[u, .agg #[.slice a n c, .int .i64 xs]]) ∧ HOwn ⟨[((⟨best, 0⟩ : StL), bv)], []⟩ (H + 1) w'.heap.size w' u rest ∧ Own intF 3 (H + 1) w'.heap.size w' (.slice a n c) xv ∧ Below (H + 1) wr w') := HP
        clear hq hql hSp HQ hst hrest h0 HS
        go_wp2_with fail
        refine HP.out.mono ?_
        clear HP
        rintro e w6 ⟨u6, xa, xn, xc, rfl, hS6, hO6, hb6⟩
        obtain ⟨ua, uc, rfl, -, -⟩ := hS6.form
        obtain rfl : xn = xv.length := by
          obtain ⟨a, c', e, -, -, -⟩ := hO6.form
          injection e
        have hs6 := hb6.size
        have hH6 := hHr.belowN hb6 (Nat.lt_succ_self H)
        have hB6 := hbr.trans (hb6.mono (Nat.le_succ H))
        clear p0 p1 p2 p3 p4 p5 p6 p7 p8 p9 p10 hHr hbr
        go_upto_region 8 with fail
        have hX := heap_alloc_new w6 (.cells #[.slice xa xv.length xc, .int .i64 xs] 96)
        have hbX : Below w6.heap.size w6 (w6.alloc (.cells #[.slice xa xv.length xc, .int .i64 xs] 96)) := (Below.refl _ _).alloc (Nat.le_refl _) _
        have hsX : w6.heap.size < (w6.alloc (.cells #[.slice xa xv.length xc, .int .i64 xs] 96)).heap.size := by simp
        generalize w6.alloc (.cells #[.slice xa xv.length xc, .int .i64 xs] 96) = w7 at *
        have hS7 : HOwn ⟨[((⟨best, 0⟩ : StL), bv)], []⟩ (H + 1) w7.heap.size w7 (.slice ua rest.length uc) rest := (hS6.below hbX (Nat.le_refl _)).wide (Nat.le_refl _) (Nat.le_of_lt hsX)
        have hO7 := (hO6.below hbX (Nat.le_refl _)).wide (Nat.le_refl _) (Nat.le_of_lt hsX)
        have hH7 := hH6.below hbX
        have hB7 := hB6.trans (hbX.mono (by omega))
        have hHX : H < w6.heap.size := by omega
        clear hS6 hO6 hH6 hB6 hb6 hbX
        obtain ⟨-, -, -, -, -, -, -, -, -, p9, p10⟩ := hH7.eleven
        have f9 := hH7.frz 9
        have f10 := hH7.frz 10
        have hpw : IntKind.i64.wrap ((pops : Int) + 1) = (pops : Int) + 1 := IntWalk.i64_in _ (by omega)
        go_upto_region 10 with fail
        clear p9 p10 f9 f10 hpw
        have hT8 : Out H (H + 1) w7 ((w7.setCell ⟨H, 9, none⟩ (.slice ua rest.length uc)).setCell ⟨H, 10, none⟩ (.int .i64 ((pops : Int) + 1))) := ((Out.refl _ _ _).setCell (p := ⟨H, 9, none⟩) (Nat.le_refl _) (Nat.lt_succ_self _) _).setCell (p := ⟨H, 10, none⟩) (Nat.le_refl _) (Nat.lt_succ_self _) _
        have hH8 := (hH7.setHeap (.slice ua rest.length uc)).setPops ((pops : Int) + 1)
        have hX8 := (hT8.block w6.heap.size hsX (by omega)).trans hX
        have hz8 := hT8.size
        have hS8 := (hS7.same (hT8.same (Nat.le_refl _) (.inr (Nat.le_refl _)))).wide (Nat.le_refl _) hz8
        have hO8 := (hO7.same (hT8.same (Nat.le_refl _) (.inr (Nat.le_refl _)))).wide (Nat.le_refl _) hz8
        have hB8 := hB7.trans (hT8.below (Nat.le_refl _) (by omega))
        clear hS7 hO7 hH7 hB7 hX hT8
        generalize (w7.setCell ⟨H, 9, none⟩ (.slice ua rest.length uc)).setCell ⟨H, 10, none⟩ (.int .i64 ((pops : Int) + 1)) = w8 at *
        obtain ⟨x0, x1⟩ := two_cells hX8
        obtain ⟨p0, p1, p2, p3, p4, p5, p6, p7, p8, p9, p10⟩ := hH8.eleven
        have hHl8 := hH8.lt
        by_cases hv : xv.length = x.rules.length
        · obtain ⟨t1, t2, t3, t4⟩ := HTR.out hv
          have T1 := Lib.hid t1
          have T2 := Lib.hid t2
          have HV := Lib.hid hv
          have hvi : ((xv.length : Int) == (x.rules.length : Int)) = true := beq_iff_eq.2 (by omega)
          clear t1 t2 HTR HOP hv HPL
          go_quiet (fail)
          have hH9 : HBlk x ra rc ca cc sa sc ta tc H wd bv.v (.slice ua rest.length uc) c ((pops : Int) + 1) (w8.drewN nq) := hH8
          have hS9 : HOwn ⟨[((⟨best, 0⟩ : StL), bv)], []⟩ (H + 1) (w8.drewN nq).heap.size (w8.drewN nq) (.slice ua rest.length uc) rest := hS8.drewN' nq
          have hO9 : Own intF 3 (H + 1) (w8.drewN nq).heap.size (w8.drewN nq) (.slice xa xv.length xc) xv := hO8
          have hB9 := blw_drewN hB8 nq
          have hX9 : (w8.drewN nq).heap[w6.heap.size]? = some (.cells #[.slice xa xv.length xc, .int .i64 xs] 96) := hX8
          clear hH8 hS8 hO8 hB8 hX8 x0 x1 p0 p1 p2 p3 p4 p5 p6 p7 p8 p9 p10 hHl8
          generalize w8.drewN nq = w9 at *
          have hHl9 := hH9.lt
          obtain ⟨x0, x1⟩ := two_cells hX9
          have hbst : Own intF 3 (H + 1) w9.heap.size w9 bv.v best := by
            obtain ⟨ps2, k1, -⟩ := hS9
            exact k1.more ((⟨best, 0⟩ : StL), bv) (List.mem_singleton.2 rfl)
          have HTY := Lib.hid (try_impl x xv best ra ca sa ta xa rc cc sc tc xc lo hi (H + 1) w9.heap.size (H + 1) w9.heap.size H wd ((pops : Int) + 1) bv.v (.slice ua rest.length uc) c w9 (HPP.out w9 hB9) (by omega) hO9.rd (Nat.le_refl _) hbst.rd (Nat.le_refl _) hx t4 HV.out hz hH9)
          clear hbst hX9
          go_wp2_with fail
          refine HTY.out.mono ?_
          clear HTY x0 x1
          rintro e w10 ⟨rfl, hHa, hTa⟩
          have hza := hTa.size
          have hSa := (hS9.same (hTa.same (Nat.le_refl _) (.inr (Nat.le_refl _)))).wide (Nat.le_refl _) hza
          have hOa := (hO9.same (hTa.same (Nat.le_refl _) (.inr (Nat.le_refl _)))).wide (Nat.le_refl _) hza
          have hBa := hB9.trans (hTa.below (Nat.le_refl _) (by omega))
          clear hS9 hO9 hB9 hTa hH9
          cases hBB : betterB (costR x xv wd) c xv best with
          | true =>
            rw [hBB, if_pos rfl, if_pos rfl] at hHa
            have hSb : HOwn ⟨[((⟨xv, 0⟩ : StL), ((xa, xv.length, xc) : SV))], []⟩ (H + 1) w10.heap.size w10 (.slice ua rest.length uc) rest := by
              obtain ⟨ps2, k1, k2⟩ := hSa
              exact ⟨ps2, ⟨k1.outer, k1.inner, fun p hp => by rw [List.mem_singleton.1 hp]; exact hOa, fun q hq => by cases hq⟩, k2⟩
            have HN := Lib.hid (T1.out hBB)
            clear hBB T1 T2 HV hSa hOa
            go_wp2_with fail
            go_roundg (sumW x rest)
            case measure => omega
            case rel => exact ⟨pops + 1, rest, xv, (xa, xv.length, xc), _, _, rfl, HN.out, hHa, hSb, hBa⟩
          | false =>
            rw [hBB, if_neg (by decide), if_neg (by decide)] at hHa
            have HN := Lib.hid (T2.out hBB)
            clear hBB T1 T2 HV hOa
            go_wp2_with fail
            go_roundg (sumW x rest)
            case measure => omega
            case rel => exact ⟨pops + 1, rest, best, bv, _, _, rfl, HN.out, hHa, hSa, hBa⟩
        · obtain ⟨t1, t2, t3, t4⟩ := HOP.out hv
          have T1 := Lib.hid t1
          have hvi : ((xv.length : Int) == (x.rules.length : Int)) = false := beq_eq_false_iff_ne.2 (by omega)
          clear t1 HTR HOP hv
          go_quiet (fail)
          have hH9 : HBlk x ra rc ca cc sa sc ta tc H wd bv.v (.slice ua rest.length uc) c ((pops : Int) + 1) (w8.drewN nq) := hH8
          have hS9 : HOwn ⟨[((⟨best, 0⟩ : StL), bv)], []⟩ (H + 1) (w8.drewN nq).heap.size (w8.drewN nq) (.slice ua rest.length uc) rest := hS8.drewN' nq
          have hO9 : Own intF 3 (H + 1) (w8.drewN nq).heap.size (w8.drewN nq) (.slice xa xv.length xc) xv := hO8
          have hB9 := blw_drewN hB8 nq
          have hX9 : (w8.drewN nq).heap[w6.heap.size]? = some (.cells #[.slice xa xv.length xc, .int .i64 xs] 96) := hX8
          clear hH8 hS8 hO8 hB8 hX8 x0 x1 p0 p1 p2 p3 p4 p5 p6 p7 p8 p9 p10 hHl8
          generalize w8.drewN nq = w9 at *
          obtain ⟨x0, x1⟩ := two_cells hX9
          have HOY := Lib.hid (open_impl x xv best ra ca sa ta xa rc cc sc tc xc lo hi H wd ((pops : Int) + 1) xs bv (.slice ua rest.length uc) c rest w9 (HPP.out w9 hB9) hh hx t2 t3 HPL.out hH9 hS9 hO9)
          clear hX9 hH9 hS9 hO9
          go_wp2_with fail
          refine HOY.out.mono ?_
          clear HOY x0 x1
          rintro e w10 ⟨rfl, hva, hHa, hSa, hba⟩
          have hBa := hB9.trans hba
          clear hB9 hba
          go_wp2_with fail
          go_roundg (sumW x (openL x c xv rest))
          case measure => omega
          case rel => exact ⟨pops + 1, _, best, bv, _, _, rfl, T1.out, hHa, hSa, hBa⟩
end Go.Proofs.Ytllpgomloblfjaa
