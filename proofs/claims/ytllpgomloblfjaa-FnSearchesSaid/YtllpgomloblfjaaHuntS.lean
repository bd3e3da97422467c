/- The search of the reference. -/
import Derived.Test.YtllpgomloblfjaaSearchI
import Derived.Deep.LoopGhost
import Derived.Deep.CutRange
import Derived.Deep.RegionWith
namespace Go.Proofs.Ytllpgomloblfjaa
open Go.RowKit

theorem hunt_len {x : Piece} (hx : Right x) (hs : Sized x) {w budget : Int} {goal : HuntR} : ∀ (n : Nat) (pops : Nat) (heap : List StL) (best : List Int) (c : CostL), sumW x heap < n → HuntSt x w budget goal pops heap best c → goal.best.length = x.rules.length
  | 0, _, _, _, _, hn, _ => absurd hn (Nat.not_lt_zero _)
  | n + 1, pops, heap, best, c, hn, hS => by
    by_cases h0 : heap.length = 0
    · rw [hunt_end hS h0]; exact hS.full
    · have hp : 0 < heap.length := by omega
      by_cases hb : budget ≤ (pops : Int)
      · rw [hunt_stop hS hp hb]; exact hS.full
      · by_cases hv : (stA heap 0).vals.length = x.rules.length
        · obtain ⟨t1, t2, t3, -⟩ := hunt_try hx hs hS hp hb hv
          cases hB : betterB (costR x (stA heap 0).vals w) c (stA heap 0).vals best with
          | true => exact hunt_len hx hs n (pops + 1) _ _ _ (by omega) (t1 hB)
          | false => exact hunt_len hx hs n (pops + 1) _ _ _ (by omega) (t2 hB)
        · obtain ⟨t1, -, t2, t3⟩ := hunt_open hx hS hp hb hv
          exact hunt_len hx hs n (pops + 1) _ _ _ (by omega) t1
theorem searchB_len (x : Piece) (hs : Sized x) (w budget : Int) : (searchB x w budget).length ≤ 8 := by
  unfold searchB
  split
  · rename_i h
    have hx := right_of h
    rw [hunt_len hx hs _ 0 _ _ _ (Nat.lt_succ_self _) (hunt_start hx hs w budget)]
    exact hx.rules
  · exact Nat.zero_le _
theorem own_notObj {α : Type} {F : Flat α} {T T' lo hi C : Nat} {w : World} {v : Value} {xs : List α} {cs : Array Value} (h : Own F T lo hi w v xs) (hC : w.heap[C]? = some (.cells cs T')) (hT : T ≠ T') : v.ownBlock ≠ some C := by
  intro hg
  rcases h.1.2 with ⟨rfl, _⟩ | ⟨g1, c1, cur1, rfl, _, hh1, _⟩
  · simp [Value.ownBlock] at hg
  · obtain rfl : g1 = C := by simpa [Value.ownBlock] using hg
    rw [hh1] at hC
    injection hC with hC
    injection hC with _ h2
    exact hT h2
/-- the cost cell C is written anew -/
theorem HOwn.putCost {lo hi C : Nat} {w : World} {v : Value} {xs : List StL} {rows : List (StL × SV)} {a b a' b' : Value} (h : HOwn ⟨rows, [(C, .cells #[a, b] 37)]⟩ lo hi w v xs) :
    HOwn ⟨rows, [(C, .cells #[a', b'] 37)]⟩ lo hi ((w.setCell ⟨C, 0, none⟩ a').setCell ⟨C, 1, none⟩ b') v xs := by
  obtain ⟨ps, h1, h2⟩ := h
  have hk := h1.keep _ (List.mem_singleton.2 rfl)
  have ke : (w.setCell ⟨C, 0, none⟩ a').setCell ⟨C, 1, none⟩ b' = storeAll C [a', b'] 0 w := rfl
  have hin : ∀ p : StL × SV, Own intF 3 lo hi w p.2.v p.1.vals → Own intF 3 lo hi (storeAll C [a', b'] 0 w) p.2.v p.1.vals := fun p hp => own_keepFarAll (own_notObj hp hk.2.2.1 (by decide)) _ _ hp
  refine ⟨ps, ⟨?_, fun p hp => ?_, fun p hp => ?_, fun q hq => ?_⟩, h2⟩
  · rw [ke]; exact own_keepFarAll hk.2.2.2 _ _ h1.outer
  · rw [ke]; exact hin p (h1.inner p hp)
  · rw [ke]; exact hin p (h1.more p hp)
  · obtain rfl := List.mem_singleton.1 hq
    exact ⟨hk.1, hk.2.1, two_set hk.2.2.1, hk.2.2.2⟩
theorem own_stN {lo : Nat} {w : World} (T : TypeId) (xs : List Int) (s : Int) (u : SV) (h : lo ≤ w.heap.size) : Own stF T lo (w.alloc (.cells #[u.v, .int .i64 s] T)).heap.size (w.alloc (.cells #[u.v, .int .i64 s] T)) (.slice (some ⟨w.heap.size, 0, none⟩) 1 1) [((⟨xs, s⟩ : StL), u)] :=
  ⟨⟨rfl, .inr ⟨w.heap.size, 1, #[u.v, .int .i64 s], rfl, h, heap_alloc_new _ _, Nat.le_refl _, by unfold maxLen; omega, rfl, rfl⟩⟩, fun g hg => by
    obtain rfl : w.heap.size = g := by simpa [Value.ownBlock] using hg
    simp⟩
/-- the row of states that a search begins with -/
theorem hown_start {L : Nat} {w3 : World} {al : List Int} {bv : SV} {a b : Value} (hO : Own intF 3 L w3.heap.size w3 bv.v al) (hL : L ≤ w3.heap.size) :
    HOwn ⟨[((⟨al, 0⟩ : StL), bv)], [(w3.heap.size, .cells #[a, b] 37)]⟩ L (((w3.alloc (.cells #[a, b] 37)).alloc (.cells #[] 3)).alloc (.cells #[.slice (some ⟨w3.heap.size + 1, 0, none⟩) 0 0, .int .i64 0] 96)).heap.size (((w3.alloc (.cells #[a, b] 37)).alloc (.cells #[] 3)).alloc (.cells #[.slice (some ⟨w3.heap.size + 1, 0, none⟩) 0 0, .int .i64 0] 96)) (.slice (some ⟨w3.heap.size + 1 + 1, 0, none⟩) 1 1) [⟨[], 0⟩] := by
  have e1 : (w3.alloc (.cells #[a, b] 37)).heap.size = w3.heap.size + 1 := by simp
  have e2 : ((w3.alloc (.cells #[a, b] 37)).alloc (.cells #[] 3)).heap.size = w3.heap.size + 1 + 1 := by simp
  have hC := heap_alloc_new w3 (.cells #[a, b] 37)
  have hE := Own.empty intF 3 L (w3.alloc (.cells #[a, b] 37)) (by omega)
  rw [e1] at hE
  have hM := ((hO.alloc (.cells #[a, b] 37)).alloc (.cells #[] 3)).alloc (.cells #[.slice (some ⟨w3.heap.size + 1, 0, none⟩) 0 0, .int .i64 0] 96)
  have hC2 := blk (((Below.refl _ _).alloc (Nat.le_refl _) (.cells #[] 3)).alloc (by simp) (.cells #[.slice (some ⟨w3.heap.size + 1, 0, none⟩) 0 0, .int .i64 0] 96)) hC
  generalize (w3.alloc (.cells #[a, b] 37)).alloc (.cells #[] 3) = w5 at *
  have hR := own_stN (lo := L) (w := w5) 96 [] 0 ((some ⟨w3.heap.size + 1, 0, none⟩, 0, 0) : SV) (by omega)
  rw [e2] at hR
  refine ⟨[((⟨[], 0⟩ : StL), ((some ⟨w3.heap.size + 1, 0, none⟩, 0, 0) : SV))], ⟨hR, fun p hp => ?_, fun p hp => ?_, fun q hq => ?_⟩, rfl⟩
  · rw [List.mem_singleton.1 hp]
    exact (hE.alloc _).wide (Nat.le_refl _) (by simp)
  · rw [List.mem_singleton.1 hp]
    exact hM.wide (Nat.le_refl _) (by simp; omega)
  · rw [List.mem_singleton.1 hq]
    refine ⟨hL, by simp; omega, hC2, fun e => ?_⟩
    have e2 : w3.heap.size + 1 + 1 = w3.heap.size := Option.some.inj e
    omega
theorem cost_eq {y c : CostL} (h : y.over = c.over ∧ y.sum = c.sum) : y = c := by
  cases y; cases c; simp_all
theorem fresh_two {rows : List (StL × SV)} {C X b n k : Nat} {o1 o2 s : Int} {u : Value} {T T' : TypeId} (h1 : u ≠ .slice (some ⟨b, 0, none⟩) n k) : Fresh ⟨rows, [(C, .cells #[.int .i64 o1, .int .i64 o2] T), (X, .cells #[u, .int .i64 s] T')]⟩ (.slice (some ⟨b, 0, none⟩) n k) := by
  intro q hq g j w hw hc
  rcases List.mem_cons.1 hq with h | h
  · subst h
    exact fresh_one (rows := rows) (X := C) (T := T) (u := .int .i64 o1) (s := o2) (fun e => by cases e) (fun e => by cases e) _ (List.mem_singleton.2 rfl) g j w hw hc
  · exact fresh_one (rows := rows) (X := X) (T := T') h1 (fun e => by cases e) q h g j w hw hc
set_option maxHeartbeats 8000000 in
set_option maxRecDepth 100000 in
theorem search_spec (x : Piece) (ra ca sa ta : Option Addr) (rc cc sc tc lo hi : Nat) (wd budget : Int) (w : World) (hp : PFour x ra rc ca cc sa sc ta tc lo hi w) (hh : hi ≤ w.heap.size) (hz : Sized x) :
    Calls Try.prog 18 #[x.v ra rc ca cc sa sc ta tc, .int .i64 wd, .int .i64 budget] w fun e w' => ∃ u, e = .returned (.tuple #[u, .int .i64 (searchS x wd budget)]) ∧ Below w.heap.size w w' ∧ Own intF 3 w.heap.size w'.heap.size w' u (searchB x wd budget) := by
  obtain ⟨i0, hi0, hz0, hz1, hz2⟩ := info_parts Try.infoInt1
  obtain ⟨B, HB⟩ : ∃ B, Hid (B = w.heap.size) := ⟨_, rfl⟩
  have hBw : B ≤ w.heap.size := Nat.le_of_eq HB.out
  have hBw' : w.heap.size ≤ B := Nat.le_of_eq HB.out.symm
  have hT : ∀ c ∈ x.chunks, c.text.size ≤ maxLen := fun c hc => by have := hz.text c hc; unfold maxLen; omega
  have HPP := Lib.hid (fun (w2 : World) (h2 : Below B w w2) => hp.below h2 (Nat.le_trans hh hBw'))
  have hhB : hi ≤ B := Nat.le_trans hh hBw'
  have hX0 := PBox.new x ra ca sa ta rc cc sc tc w
  have hb0 : Below B w (w.alloc (.cells #[.int .i64 x.indent, .slice ra x.rules.length rc, .slice ca x.chunks.length cc, .slice sa x.spans.length sc, .slice ta x.ties.length tc] 29)) := (Below.refl _ _).alloc hBw _
  obtain ⟨sb, hsb⟩ : ∃ sb, Hid (searchB x wd budget = sb) := ⟨_, rfl⟩
  obtain ⟨ss, hss⟩ : ∃ ss, Hid (searchS x wd budget = ss) := ⟨_, rfl⟩
  rw [hsb.out, hss.out]
  unfold Piece.v
  go_enter Try.func18, Try.ntmps18
  go_wp2_with fail
  generalize w.alloc (.cells #[.int .i64 x.indent, .slice ra x.rules.length rc, .slice ca x.chunks.length cc, .slice sa x.spans.length sc, .slice ta x.ties.length tc] 29) = w0 at *
  have hs0 := hb0.size
  have hxl0 := hX0.lt
  have HPK := Lib.hid (pieceOk_spec x ra ca sa ta rc cc sc tc lo hi w0 (HPP.out w0 hb0) (by omega) hT)
  unfold Piece.v at HPK
  obtain ⟨p0, p1, p2, p3, p4⟩ := hX0.five
  go_wp2_with fail
  refine HPK.out.mono ?_
  clear HPK
  rintro e w1 ⟨rfl, k1⟩
  have hb1 := hb0.trans (k1.mono (by omega))
  have hs1 := hb1.size
  have hX1 := hX0.below k1
  have hxl1 := hX1.lt
  clear p0 p1 p2 p3 p4 hX0 hb0 k1
  cases g2 : pieceOk x with
  | false =>
    obtain rfl : ([] : List Int) = sb := by rw [← hsb.out]; unfold searchB; rw [g2]; rfl
    obtain rfl : (0 : Int) = ss := by rw [← hss.out]; unfold searchS; rw [g2]; rfl
    clear hsb hss
    go_wp2
    refine bodyPost_ret (v := .tuple #[.slice (some ⟨w1.heap.size, 0, none⟩) 0 0, .int .i64 0]) (by simp [results, Try.results18, go_sem]) rfl ?_
    have hO := Own.empty intF 3 w.heap.size w1 (by omega)
    exact ⟨_, rfl, by rw [← HB.out]; exact hb1.alloc (by omega) _, hO⟩
  | true =>
  have hx := right_of g2
  have HGO : Hid ((huntL x wd budget).best = sb ∧ (huntL x wd budget).state = ss) := ⟨by rw [← hsb.out]; unfold searchB; rw [g2]; rfl, by rw [← hss.out]; unfold searchS; rw [g2]; rfl⟩
  have HST := Lib.hid (hunt_start hx hz wd budget)
  obtain ⟨goal, hgoal⟩ : ∃ goal, Hid (huntL x wd budget = goal) := ⟨_, rfl⟩
  rw [hgoal.out] at HST HGO
  have HAF := Lib.hid (all_fit hx)
  have HAS := Lib.hid (allSplit_spec x ra ca sa ta rc cc sc tc lo hi w1 (HPP.out w1 hb1) (by omega) hx)
  unfold Piece.v at HAS
  obtain ⟨p0, p1, p2, p3, p4⟩ := hX1.five
  obtain ⟨al, hal⟩ : ∃ al, Hid (allL x = al) := ⟨_, rfl⟩
  rw [hal.out] at HAS HST HAF
  clear g2 hsb hss hgoal hal
  go_wp2_with fail
  refine HAS.out.mono ?_
  clear HAS
  rintro e w2 ⟨u2, rfl, k2, hO2⟩
  obtain ⟨ba, bc, rfl, -, -, -⟩ := hO2.form
  have hb2 := hb1.trans (k2.mono (by omega))
  have hs2 := hb2.size
  have hs12 := k2.size
  have hX2 := hX1.below k2
  clear p0 p1 p2 p3 p4 hX1 k2
  have HCO := Lib.hid (fun (w3 : World) (h3 : Below w2.heap.size w2 w3) => l09Cost_any x al ra ca sa ta ba rc cc sc tc bc lo hi w1.heap.size w2.heap.size wd w3 (HPP.out w3 (hb2.trans (h3.mono (by omega)))) (by have := h3.size; omega) (hO2.rd.below h3 (Nat.le_refl _)) h3.size hx HAF.out.1 HAF.out.2 hz)
  unfold Piece.v at HCO
  obtain ⟨cst, hcst⟩ : ∃ cst, Hid (costR x al wd = cst) := ⟨_, rfl⟩
  rw [hcst.out] at HCO HST
  clear hcst
  obtain ⟨p0, p1, p2, p3, p4⟩ := hX2.five
  go_wp2_with fail
  refine (HCO.out w2 (Below.refl _ _)).mono ?_
  clear HCO
  rintro e w3 ⟨rfl, k3⟩
  have hb3 := hb2.trans (k3.mono (by omega))
  have hs3 := k3.size
  have hX3 := hX2.below k3
  have hO3 := hO2.below k3 (Nat.le_refl _)
  clear p0 p1 p2 p3 p4 hX2 hO2 k3 hb2
  go_upto_region 6 with fail
  have hS6 := hown_start (a := .int .i64 cst.over) (b := .int .i64 cst.sum) (bv := ((ba, al.length, bc) : SV)) (hO3.wide (Nat.le_refl _) hs3) (by omega)
  have hb6 : Below w3.heap.size w3 (((w3.alloc (.cells #[.int .i64 cst.over, .int .i64 cst.sum] 37)).alloc (.cells #[] 3)).alloc (.cells #[.slice (some ⟨w3.heap.size + 1, 0, none⟩) 0 0, .int .i64 0] 96)) := (((Below.refl _ _).alloc (Nat.le_refl _) _).alloc (by simp) _).alloc (by simp; omega) _
  obtain ⟨L, HL⟩ : ∃ L, Hid (L = w1.heap.size) := ⟨_, rfl⟩
  have hL1 : w.heap.size < L := by have := HL.out; have := hxl1; omega
  have hL3 : L ≤ w3.heap.size := by have := HL.out; omega
  rw [← HL.out] at hS6
  have hX6 := hX3.below hb6
  have hB6 := hb3.trans (hb6.mono (by omega))
  have hs6 := hb6.size
  obtain ⟨C, hC⟩ : ∃ C, C = w3.heap.size := ⟨_, rfl⟩
  rw [← hC] at hS6 hL3 hs6 hX6 hB6 ⊢
  clear hC hX3 hO3 hb3 hb6 hs3 hs12 hs2 HL
  generalize ((w3.alloc (.cells #[.int .i64 cst.over, .int .i64 cst.sum] 37)).alloc (.cells #[] 3)).alloc (.cells #[.slice (some ⟨C + 1, 0, none⟩) 0 0, .int .i64 0] 96) = w6 at *
  go_wp2_with fail
  go_loopg [8, 10, 11] (sumW x [⟨[], 0⟩]) (fun g bs hs ps wr => ∃ (pops : Nat) (heap : List StL) (best : List Int) (bv : SV) (c : CostL), bs = bv.v ∧ ps = .int .i64 pops ∧ g = sumW x heap ∧ Hid (HuntSt x wd budget goal pops heap best c) ∧ HOwn ⟨[((⟨best, 0⟩ : StL), bv)], [(C, .cells #[.int .i64 c.over, .int .i64 c.sum] 37)]⟩ L wr.heap.size wr hs heap ∧ Below L w6 wr)
  case atStart => exact ⟨0, _, _, (ba, al.length, bc), _, rfl, rfl, rfl, HST.out, hS6, Below.refl _ _⟩
  case round =>
    clear hS6 HST HAF
    obtain ⟨pops, heap, best, bv, c, rfl, rfl, hg, HS, hSr, hbr⟩ := hrel
    have hXr : PBox x ra rc ca cc sa sc ta tc w.heap.size wr := (hbr.block w.heap.size hL1).trans hX6
    have hBr := hB6.trans (hbr.mono (by omega))
    have hsr := hBr.size
    have hsr6 := hbr.size
    obtain ⟨ha, hc, rfl, -, -⟩ := hSr.form
    obtain ⟨p0, p1, p2, p3, p4⟩ := hXr.five
    have hlw := len_sumW x heap
    have hleft := HS.out.left
    by_cases h0 : heap.length = 0
    · have h0i : ¬ (heap.length : Int) > 0 := by omega
      have HE := Lib.hid (hunt_end HS.out h0)
      have HBL : Hid (best.length ≤ 8) := by show _ ≤ _; rw [HS.out.full]; exact hx.rules
      have hbst : Own intF 3 L wr.heap.size wr bv.v best := by
        obtain ⟨ps, k1, -⟩ := hSr
        exact k1.more ((⟨best, 0⟩ : StL), bv) (List.mem_singleton.2 rfl)
      have hbl := HBL.out
      have hbR := hbst.rd
      obtain ⟨HG1, HG2⟩ := HGO.out
      rw [HE.out] at HG1 HG2
      have HG3 : Hid (best = sb) := HG1
      obtain rfl : (1 : Int) = ss := HG2
      clear h0 HS hSr HG1 HGO HBL
      go_wp2_with (at_builtin; refine wp_appAll (F := intF) (P := Try.prog) (ys := best) (lo' := L) (hi' := wr.heap.size) rfl (.tmp 118) (.tmp 119) 32 rfl Try.underlying32 hi0 hz0 hz1 hz2 rfl (by decide) rfl (Own.empty intF 3 wr.heap.size wr (Nat.le_refl _)) rfl (hbR.below ((Below.refl _ _).alloc (Nat.le_refl _) _) (Nat.le_refl _)) (by simp; omega) (by simp; omega) (by simp) ?_; intro v9 w9 hO9 hb9)
      refine bodyPost_ret (v := .tuple #[v9, .int .i64 1]) (by simp [results, Try.results18, go_sem]) rfl ?_
      have hB9 := hBr.trans ((blw_al1 hb9 (Nat.le_refl _)).mono (by omega))
      rw [List.nil_append] at hO9
      exact ⟨_, rfl, by rw [← HB.out]; exact hB9, by rw [← HG3.out]; exact hO9.wide (by omega) (Nat.le_refl _)⟩
    · have h0i : (heap.length : Int) > 0 := by omega
      by_cases hbu : budget ≤ (pops : Int)
      · have hbg : (pops : Int) ≥ budget := hbu
        have HE := Lib.hid (hunt_stop HS.out (by omega) hbu)
        have hbst : Own intF 3 L wr.heap.size wr bv.v best := by
          obtain ⟨ps, k1, -⟩ := hSr
          exact k1.more ((⟨best, 0⟩ : StL), bv) (List.mem_singleton.2 rfl)
        obtain ⟨HG1, HG2⟩ := HGO.out
        rw [HE.out] at HG1 HG2
        have HG3 : Hid (best = sb) := HG1
        obtain rfl : (2 : Int) = ss := HG2
        clear h0 HS hSr HG1 HGO
        go_wp2
        refine bodyPost_ret (v := .tuple #[bv.v, .int .i64 2]) (by simp [results, Try.results18, go_sem]) rfl ?_
        exact ⟨_, rfl, by rw [← HB.out]; exact hBr, by rw [← HG3.out]; exact hbst.wide (Nat.le_of_lt hL1) (Nat.le_refl _)⟩
      · have hbg : ¬ (pops : Int) ≥ budget := hbu
        have hpw : IntKind.i64.wrap ((pops : Int) + 1) = (pops : Int) + 1 := IntWalk.i64_in _ (by omega)
        obtain ⟨ps, hSp, hq⟩ := hSr
        have HQ := Lib.hid hq
        have hql : ps.length = heap.length := by rw [← hq, List.length_map]
        have HP := Lib.hid (pop_spec ps _ L wr.heap.size wr hSp (by omega) (by omega) (Nat.le_refl _) (by omega))
        rw [hq] at HP
        have HTR := Lib.hid (fun hv => hunt_try hx hz HS.out (show 0 < heap.length by omega) hbu hv)
        have HOP := Lib.hid (fun hv => hunt_open hx HS.out (show 0 < heap.length by omega) hbu hv)
        have HPL : Hid ((popL heap).length ≤ 20000) := by show _ ≤ _; have := pop_short (l := heap); omega
        have HRB := Lib.hid HS.out.rightB
        obtain ⟨rest, hrest⟩ : ∃ rest, Hid (popL heap = rest) := ⟨_, rfl⟩
        obtain ⟨st, hst⟩ : ∃ st, Hid (stA heap 0 = st) := ⟨_, rfl⟩
        rw [hrest.out, hst.out] at HP HTR HOP
        rw [hrest.out] at HPL
        obtain ⟨xv, xs⟩ := st
        replace HP : Hid (Calls Try.prog 65 #[.slice ha heap.length hc] wr fun e w' => ∃ u a n c', e = .returned (.tuple #[u, .agg #[.slice a n c', .int .i64 xs]]) ∧ HOwn ⟨[((⟨best, 0⟩ : StL), bv)], [(C, .cells #[.int .i64 c.over, .int .i64 c.sum] 37)]⟩ L w'.heap.size w' u rest ∧ Own intF 3 L w'.heap.size w' (.slice a n c') xv ∧ Below L wr w') := HP
        clear hq hql hSp HQ hst hrest h0 HS p0 p1 p2 p3 p4 hXr
        go_wp2_with fail
        refine HP.out.mono ?_
        clear HP
        rintro e w7 ⟨u7, xa, xn, xc, rfl, hS7, hO7, hb7⟩
        obtain ⟨ua, uc, rfl, -, -⟩ := hS7.form
        obtain rfl : xn = xv.length := by
          obtain ⟨a, c', e, -, -, -⟩ := hO7.form
          injection e
        have hs7 := hb7.size
        have hB7 := hbr.trans hb7
        go_upto_region 13 with fail
        have hX0 := heap_alloc_new w7 (.cells #[.slice xa xv.length xc, .int .i64 xs] 96)
        have hbX : Below w7.heap.size w7 (w7.alloc (.cells #[.slice xa xv.length xc, .int .i64 xs] 96)) := (Below.refl _ _).alloc (Nat.le_refl _) _
        have hsX : w7.heap.size < (w7.alloc (.cells #[.slice xa xv.length xc, .int .i64 xs] 96)).heap.size := by simp
        generalize w7.alloc (.cells #[.slice xa xv.length xc, .int .i64 xs] 96) = w8 at *
        have hS8 := (hS7.below hbX (Nat.le_refl _)).wide (Nat.le_refl _) (Nat.le_of_lt hsX)
        have hO8 := (hO7.below hbX (Nat.le_refl _)).wide (Nat.le_refl _) (Nat.le_of_lt hsX)
        have hB8 := hB7.trans (hbX.mono (by omega))
        have hLX : L ≤ w7.heap.size := by omega
        have hBX : w.heap.size < w7.heap.size := by omega
        have hXoO : ∀ g, (Value.slice xa xv.length xc).ownBlock = some g → g < w7.heap.size := fun g hg => (hO7.below_heap g hg).2.2
        have hXoS : (Value.slice ua rest.length uc).ownBlock ≠ some w7.heap.size := fun e => by
          obtain ⟨ps2, k1, -⟩ := hS7
          have := (k1.outer.below_heap _ e).2.2
          exact Nat.lt_irrefl _ this
        clear hS7 hO7 hB7 hb7 hbX hsr6 hbr hBr hs7
        generalize w7.heap.size = X at *
        obtain ⟨x0, x1⟩ := two_cells hX0
        have hX8 : PBox x ra rc ca cc sa sc ta tc w.heap.size w8 := (hB8.block w.heap.size hL1).trans hX6
        obtain ⟨p0, p1, p2, p3, p4⟩ := hX8.five
        by_cases hv : xv.length = x.rules.length
        · obtain ⟨t1, t2, t3, t4⟩ := HTR.out hv
          have T1 := Lib.hid t1
          have T2 := Lib.hid t2
          have HV := Lib.hid hv
          have hvi : ((xv.length : Int) == (x.rules.length : Int)) = true := beq_iff_eq.2 (by omega)
          clear t1 t2 HTR HOP hv HPL
          have hCO := l09Cost_any x xv ra ca sa ta xa rc cc sc tc xc lo hi L w8.heap.size wd w8 (HPP.out w8 (hB6.trans (hB8.mono (by omega)))) (by have := hB8.size; omega) hO8.rd (Nat.le_refl _) hx t4 HV.out hz
          obtain ⟨y, hy⟩ : ∃ y, Hid (costR x xv wd = y) := ⟨_, rfl⟩
          rw [hy.out] at hCO T1 T2
          unfold Piece.v at hCO
          have HCO := Lib.hid hCO
          clear hCO hy t4
          have hC8 : w8.heap[C]? = some (.cells #[.int .i64 c.over, .int .i64 c.sum] 37) ∧ L ≤ C := by
            obtain ⟨ps2, k1, -⟩ := hS8
            exact ⟨(k1.keep _ (List.mem_singleton.2 rfl)).2.2.1, (k1.keep _ (List.mem_singleton.2 rfl)).1⟩
          obtain ⟨hC8, hLC⟩ := hC8
          go_wp2_with fail
          refine HCO.out.mono ?_
          clear HCO p0 p1 p2 p3 p4 x0 x1
          rintro e w9 ⟨rfl, h9⟩
          have hs9 := h9.size
          have hY10 := heap_alloc_new w9 (.cells #[.int .i64 y.over, .int .i64 y.sum] 37)
          have hbY : Below w9.heap.size w9 (w9.alloc (.cells #[.int .i64 y.over, .int .i64 y.sum] 37)) := (Below.refl _ _).alloc (Nat.le_refl _) _
          have hb10 := h9.trans (hbY.mono hs9)
          go_upto_region 16 with fail
          generalize w9.alloc (.cells #[.int .i64 y.over, .int .i64 y.sum] 37) = w10 at *
          generalize w9.heap.size = Y at *
          have hs10 := hb10.size
          have hS10 := (hS8.below hb10 (Nat.le_refl _)).wide (Nat.le_refl _) hs10
          have hO10 := (hO8.below hb10 (Nat.le_refl _)).wide (Nat.le_refl _) hs10
          have hX10 := blk hb10 hX0
          have hC10 := blk hb10 hC8
          have hB10 := hB8.trans (hb10.mono (by omega))
          clear hS8 hO8 hX0 hC8 hB8 hbY h9 hb10
          obtain ⟨x0, x1⟩ := two_cells hX10
          obtain ⟨q0, q1⟩ := two_cells hY10
          obtain ⟨c0, c1⟩ := two_cells hC10
          have hLw : L ≤ w10.heap.size := by omega
          have HCL := Lib.hid (costLess_spec y c w10)
          obtain ⟨cl, hcl⟩ : ∃ cl, costLess y c = cl := ⟨_, rfl⟩
          rw [hcl] at HCL
          go_wp2_with fail
          refine HCL.out.mono ?_
          clear HCL x0 x1 q0 q1 c0 c1
          rintro e w11 ⟨rfl, h11⟩
          have hs11 := h11.size
          have hS11 := (hS10.below h11 (Nat.le_refl _)).wide (Nat.le_refl _) hs11
          have hO11 := (hO10.below h11 (Nat.le_refl _)).wide (Nat.le_refl _) hs11
          have hX11 := blk h11 hX10
          have hY11 := blk h11 hY10
          have hC11 := blk h11 hC10
          have hB11 := hB10.trans (h11.mono (by omega))
          clear hS10 hO10 hX10 hY10 hC10 hB10 h11
          obtain ⟨x0, x1⟩ := two_cells hX11
          obtain ⟨q0, q1⟩ := two_cells hY11
          obtain ⟨c0, c1⟩ := two_cells hC11
          cases cl with
          | true =>
            have HN := Lib.hid (T1.out (better_lt hcl))
            clear T1 T2 hcl
            have hSE2 : HOwn ⟨[((⟨xv, 0⟩ : StL), ((xa, xv.length, xc) : SV))], [(C, .cells #[.int .i64 c.over, .int .i64 c.sum] 37)]⟩ L w11.heap.size w11 (.slice ua rest.length uc) rest := by
              obtain ⟨ps2, k1, k2⟩ := hS11
              exact ⟨ps2, ⟨k1.outer, k1.inner, fun p hp => by rw [List.mem_singleton.1 hp]; exact hO11, k1.keep⟩, k2⟩
            have hSF := hSE2.putCost (a' := .int .i64 y.over) (b' := .int .i64 y.sum)
            have g0 : w11.frozen? ⟨C, 0, none⟩ = false := frozen_heap hC11
            have g1 : w11.frozen? ⟨C, 1, none⟩ = false := frozen_heap hC11
            have hBF : Below L w6 ((w11.setCell ⟨C, 0, none⟩ (.int .i64 y.over)).setCell ⟨C, 1, none⟩ (.int .i64 y.sum)) := (hB11.setCell (p := ⟨C, 0, none⟩) hLC _).setCell (p := ⟨C, 1, none⟩) hLC _
            have hzF : w11.heap.size = ((w11.setCell ⟨C, 0, none⟩ (.int .i64 y.over)).setCell ⟨C, 1, none⟩ (.int .i64 y.sum)).heap.size := by simp [World.setCell]
            replace hSF := hSF.wide (Nat.le_refl _) (Nat.le_of_eq hzF)
            clear hS11 hSE2 hO11 hX11 hY11 hB11 hC11 hzF
            go_wp2_with fail
            go_roundg (sumW x rest)
            case measure => omega
            case rel => exact ⟨pops + 1, rest, xv, (xa, xv.length, xc), y, rfl, rfl, rfl, HN.out, hSF, hBF⟩
          | false =>
            by_cases hyc : y = c
            · subst y
              have hbst : Own intF 3 L w11.heap.size w11 bv.v best := by
                obtain ⟨ps2, k1, -⟩ := hS11
                exact k1.more ((⟨best, 0⟩ : StL), bv) (List.mem_singleton.2 rfl)
              have HCM := Lib.hid (compare_spec hO11.rd (Nat.le_refl _) hbst.rd (Nat.le_refl _))
              clear hbst
              have HBE := Lib.hid (better_eq (v := xv) (b := best) hcl)
              clear hcl
              go_wp2_with fail
              refine HCM.out.mono ?_
              clear HCM x0 x1 q0 q1 c0 c1
              rintro e w12 ⟨rfl, h12⟩
              have hs12 := h12.size
              have hS12 := (hS11.below h12 (Nat.le_refl _)).wide (Nat.le_refl _) hs12
              have hO12 := (hO11.below h12 (Nat.le_refl _)).wide (Nat.le_refl _) hs12
              have hX12 := blk h12 hX11
              have hY12 := blk h12 hY11
              have hC12 := blk h12 hC11
              have hB12 := hB11.trans (h12.mono (by omega))
              clear hS11 hO11 hX11 hY11 hC11 hB11 h12
              obtain ⟨x0, x1⟩ := two_cells hX12
              obtain ⟨q0, q1⟩ := two_cells hY12
              obtain ⟨c0, c1⟩ := two_cells hC12
              by_cases hcm : cmpL xv best < 0
              · have HN := Lib.hid (T1.out (by rw [HBE.out, decide_eq_true hcm]))
                clear T1 T2 HBE
                have hSE2 : HOwn ⟨[((⟨xv, 0⟩ : StL), ((xa, xv.length, xc) : SV))], [(C, .cells #[.int .i64 c.over, .int .i64 c.sum] 37)]⟩ L w12.heap.size w12 (.slice ua rest.length uc) rest := by
                  obtain ⟨ps2, k1, k2⟩ := hS12
                  exact ⟨ps2, ⟨k1.outer, k1.inner, fun p hp => by rw [List.mem_singleton.1 hp]; exact hO12, k1.keep⟩, k2⟩
                have hSF := hSE2.putCost (a' := .int .i64 c.over) (b' := .int .i64 c.sum)
                have g0 : w12.frozen? ⟨C, 0, none⟩ = false := frozen_heap hC12
                have g1 : w12.frozen? ⟨C, 1, none⟩ = false := frozen_heap hC12
                have hBF : Below L w6 ((w12.setCell ⟨C, 0, none⟩ (.int .i64 c.over)).setCell ⟨C, 1, none⟩ (.int .i64 c.sum)) := (hB12.setCell (p := ⟨C, 0, none⟩) hLC _).setCell (p := ⟨C, 1, none⟩) hLC _
                have hzF : w12.heap.size = ((w12.setCell ⟨C, 0, none⟩ (.int .i64 c.over)).setCell ⟨C, 1, none⟩ (.int .i64 c.sum)).heap.size := by simp [World.setCell]
                replace hSF := hSF.wide (Nat.le_refl _) (Nat.le_of_eq hzF)
                clear hS12 hSE2 hO12 hX12 hY12 hB12 hC12 hzF
                go_wp2_with fail
                go_roundg (sumW x rest)
                case measure => omega
                case rel => exact ⟨pops + 1, rest, xv, (xa, xv.length, xc), c, rfl, rfl, rfl, HN.out, hSF, hBF⟩
              · have HN := Lib.hid (T2.out (by rw [HBE.out, decide_eq_false hcm]))
                clear T1 T2 HBE
                clear hO12 hX12 hY12 hC12
                go_wp2_with fail
                go_roundg (sumW x rest)
                case measure => omega
                case rel => exact ⟨pops + 1, rest, best, bv, c, rfl, rfl, rfl, HN.out, hS12, hB12⟩
            · have HN := Lib.hid (T2.out (better_ne hcl hyc))
              clear T1 T2 hcl
              have hy2 : ¬ (y.over = c.over ∧ y.sum = c.sum) := fun e => hyc (cost_eq e)
              clear hyc
              by_cases hyo : y.over = c.over
              · have hys : ¬ y.sum = c.sum := fun e => hy2 ⟨hyo, e⟩
                clear hy2
                clear hO11 hX11 hY11 hC11
                go_wp2_with fail
                go_roundg (sumW x rest)
                case measure => omega
                case rel => exact ⟨pops + 1, rest, best, bv, c, rfl, rfl, rfl, HN.out, hS11, hB11⟩
              · clear hy2
                clear hO11 hX11 hY11 hC11
                go_wp2_with fail
                go_roundg (sumW x rest)
                case measure => omega
                case rel => exact ⟨pops + 1, rest, best, bv, c, rfl, rfl, rfl, HN.out, hS11, hB11⟩
        · obtain ⟨t1, t2, t3, t4⟩ := HOP.out hv
          have T1 := Lib.hid t1
          have hvi : ((xv.length : Int) == (x.rules.length : Int)) = false := beq_eq_false_iff_ne.2 (by omega)
          clear t1 HTR HOP hv
          have hxr := t2
          have hxl := t3
          clear t2 t3
          obtain ⟨hrp, -, -, -⟩ := HPP.out w8 (hB6.trans (hB8.mono (by omega)))
          obtain ⟨hrl, hr5⟩ := at_rule hrp
          obtain ⟨hv1, hv2⟩ := valsN_bd hx hxl
          obtain ⟨N, hN⟩ : ∃ N, Hid (valsN x xv.length = N) := ⟨_, rfl⟩
          rw [hN.out] at hv1 hv2
          obtain ⟨b, off, rfl, hlo, hhi, c0, -⟩ := hr5 _ hxl
          rw [hv2] at c0
          have hxi : (xv.length : Int) < (x.rules.length : Int) := by omega
          have hxz : (0 : Int) ≤ (xv.length : Int) := by omega
          have hz8 := hB8.size
          have hxvl : xv.length ≤ 8 := by have := hx.rules; omega
          have hS9 : HOwn ⟨[((⟨best, 0⟩ : StL), bv), ((⟨xv, 0⟩ : StL), ((xa, xv.length, xc) : SV))], [(C, .cells #[.int .i64 c.over, .int .i64 c.sum] 37), (X, .cells #[.slice xa xv.length xc, .int .i64 xs] 96)]⟩ L w8.heap.size w8 (.slice ua rest.length uc) rest := by
            obtain ⟨ps2, k1, k2⟩ := hS8
            refine ⟨ps2, ⟨k1.outer, k1.inner, fun p hp => ?_, fun q hq => ?_⟩, k2⟩
            · rcases List.mem_cons.1 hp with h | h
              · rw [h]; exact k1.more _ (List.mem_singleton.2 rfl)
              · rw [List.mem_singleton.1 h]; exact hO8
            · rcases List.mem_cons.1 hq with h | h
              · rw [h]; exact k1.keep _ (List.mem_singleton.2 rfl)
              · rw [List.mem_singleton.1 h]; exact ⟨hLX, hsX, hX0, hXoS⟩
          have hbX8 : b < L := by omega
          have hBW8 := hB6.trans (hB8.mono (show B ≤ L by omega))
          clear hr5 hrp hrl hv2 hS8 hO8 hXoS hX0
          go_wp2_with fail
          clear p0 p1 p2 p3 p4 x0 x1
          go_loopw [10, 16] (fun hs i wr => ∃ (k : Nat) (cur : List StL), k ≤ N ∧ i = .int .i64 k ∧ Hid (cur = openTo x c xv k rest) ∧ HOwn ⟨[((⟨best, 0⟩ : StL), bv), ((⟨xv, 0⟩ : StL), ((xa, xv.length, xc) : SV))], [(C, .cells #[.int .i64 c.over, .int .i64 c.sum] 37), (X, .cells #[.slice xa xv.length xc, .int .i64 xs] 96)]⟩ L wr.heap.size wr hs cur ∧ Below L w8 wr) (fun _ i _ => N - (intOf i).toNat)
          case atStart => exact ⟨0, rest, Nat.zero_le _, rfl, rfl, hS9, Below.refl _ _⟩
          case round =>
            clear hS9
            obtain ⟨k, cur, hk, rfl, HCU, hSr, hbr⟩ := hrel
            have hsr := hbr.size
            have hsr2 : L ≤ wr.heap.size := by omega
            have hXr : PBox x (some ⟨b, off, none⟩) rc ca cc sa sc ta tc w.heap.size wr := (hbr.block w.heap.size hL1).trans hX8
            obtain ⟨p0, p1, p2, p3, p4⟩ := hXr.five
            have d0 := (hbr.cell (p := ⟨b, _, none⟩) (by show b < _; omega)).trans c0
            obtain ⟨ha, hc, rfl, -, -⟩ := hSr.form
            by_cases hlt : k < N
            · have hki : (k : Int) < (N : Int) := by omega
              have hkz : (0 : Int) ≤ (k : Int) := by omega
              have HRV : Hid (RightV x (xv ++ [(k : Int)])) := fit_snoc hx hxr hxl (by rw [hN.out]; exact hlt)
              have HYE : Hid (pushOk x c (xv ++ [(k : Int)]) = true → pushL cur ⟨xv ++ [(k : Int)], boundOf x (xv ++ [(k : Int)])⟩ = openTo x c xv (k + 1) rest) := fun h => by rw [openTo_yes h, HCU.out]
              have HNO : Hid (pushOk x c (xv ++ [(k : Int)]) = false → cur = openTo x c xv (k + 1) rest) := fun h => by rw [openTo_no h, HCU.out]
              have hcl : cur.length ≤ 20003 := by have := openTo_len x c xv rest k; have := HPL.out; rw [HCU.out]; omega
              obtain ⟨hbd1, hbd2⟩ := bound_bd hx HRV.out
              obtain ⟨ps, hSp, hq⟩ := hSr
              have HQ := Lib.hid hq
              have hql : ps.length ≤ 20003 := by have e := congrArg List.length hq; rw [List.length_map] at e; omega
              clear hq HCU
              have hXo := (hSp.keep (X, .cells #[.slice xa xv.length xc, .int .i64 xs] 96) (List.mem_cons_of_mem _ (List.mem_singleton.2 rfl))).2.2.1
              have hCo := (hSp.keep (C, .cells #[.int .i64 c.over, .int .i64 c.sum] 37) (List.mem_cons_self ..)).2.2.1
              have hOx := hSp.more ((⟨xv, 0⟩ : StL), ((xa, xv.length, xc) : SV)) (List.mem_cons_of_mem _ (List.mem_singleton.2 rfl))
              obtain ⟨x0, x1⟩ := two_cells hXo
              have hOx2 : Rd intF.shape L wr.heap.size wr (.slice xa xv.length xc) xv := hOx.rd
              have xe0 : (wr.alloc (.cells #[] 3)).cell? ⟨X, 0, none⟩ = some (.slice xa xv.length xc) := (((Below.refl wr.heap.size wr).alloc (Nat.le_refl _) _).cell (p := ⟨X, 0, none⟩) (by show X < _; omega)).trans x0
              clear hOx
              go_upto_region 23 with (at_builtin; first
                | (refine wp_appAll (F := intF) (P := Try.prog) (ys := xv) (lo' := L) (hi' := wr.heap.size) rfl (.tmp 88) (.tmp 90) 32 rfl Try.underlying32 hi0 hz0 hz1 hz2 rfl (by decide) rfl (Own.empty intF 3 wr.heap.size wr (Nat.le_refl _)) rfl (hOx2.below ((Below.refl _ _).alloc (Nat.le_refl _) _) (Nat.le_refl _)) (by simp; omega) (by simp; omega) (by simp) ?_; intro v3 w3 hO3 hb3; rw [List.nil_append] at hO3; have hs3 := (blw_al1 hb3 (Nat.le_refl _)).size)
                | (refine wp_app1 (F := intF) (P := Try.prog) (y := (k : Int)) rfl (.tmp 91) (.tmp 93) 32 rfl Try.underlying32 hi0 hz0 hz1 hz2 rfl (by decide) rfl (hO3.alloc _) w3.heap.size rfl (heap_alloc_new _ _) rfl (by omega) (by omega) (by simp; omega) ?_; intro v4 w4 hO4 hb4))
              have hB4 : Below wr.heap.size wr w4 := (blw_al1 hb3 (Nat.le_refl _)).trans (blw_al1 hb4 hs3)
              obtain ⟨va, vc, rfl, -, -, -⟩ := hO4.form
              have hvo : ∃ vb, va = some ⟨vb, 0, none⟩ ∧ X < vb := by
                obtain ⟨G, c', e, g1, -, -, -⟩ := own_some hO4 (by simp)
                injection e with e1 _ _
                exact ⟨G, e1, by omega⟩
              obtain ⟨vb, rfl, hvb⟩ := hvo
              generalize hvs : xv ++ [(k : Int)] = vs at *
              clear hvs hb3 hb4 hO3 hs3 xe0 x0 x1 d0
              have hs4 := hB4.size
              have hBw4 := hbr.trans (hB4.mono hsr2)
              have HBN := Lib.hid (l12Bound_spec x vs _ ca sa ta (some ⟨vb, 0, none⟩) rc cc sc tc vc lo hi wr.heap.size w4.heap.size w4 (HPP.out w4 (hBW8.trans (hBw4.mono (by omega)))) (by omega) hO4.rd (Nat.le_refl _) hx HRV.out)
              unfold Piece.v at HBN
              clear p0 p1 p2 p3 p4
              obtain ⟨p0, p1, p2, p3, p4⟩ := (hXr.below hB4).five
              go_wp2_with fail
              refine HBN.out.mono ?_
              clear HBN p0 p1 p2 p3 p4
              rintro e w5 ⟨rfl, hb5⟩
              have hs5 := hb5.size
              have hB5 : Below wr.heap.size wr w5 := hB4.trans (hb5.mono hs4)
              have hBw5 := hbr.trans (hB5.mono hsr2)
              have hO5 := (hO4.below hb5 (Nat.le_refl _)).wide (Nat.le_refl _) hs5
              have HTM := Lib.hid (tiesMay_spec x vs _ ca sa ta rc cc sc tc (.slice (some ⟨vb, 0, none⟩) vs.length vc) lo hi wr.heap.size w5.heap.size w5 (HPP.out w5 (hBW8.trans (hBw5.mono (by omega)))) (by omega) hO5.rd (Nat.le_refl _))
              unfold Piece.v at HTM
              obtain ⟨p0, p1, p2, p3, p4⟩ := (hXr.below hB5).five
              go_wp2_with fail
              refine HTM.out.mono ?_
              clear HTM p0 p1 p2 p3 p4
              rintro e w6' ⟨rfl, hb6⟩
              have hs6 := hb6.size
              have hB6' : Below wr.heap.size wr w6' := hB5.trans (hb6.mono (Nat.le_trans hs4 hs5))
              have hBw6 := hbr.trans (hB6'.mono hsr2)
              have hO6 := (hO5.below hb6 (Nat.le_refl _)).wide (Nat.le_refl _) hs6
              have hS6 := (hSp.below hB6' (Nat.le_refl _)).wide (Nat.le_refl _) hB6'.size
              obtain ⟨q0, q1⟩ := two_cells (blk hB6' hCo)
              obtain ⟨bd, hbd⟩ : ∃ bd, Hid (boundOf x vs = bd) := ⟨_, rfl⟩
              rw [hbd.out] at hbd1 hbd2 HYE
              rw [hbd.out]
              have HPK : Hid (pushOk x c vs = (tiesMay x.ties vs && !(decide (c.over = 0) && decide (c.sum < bd)))) := by show _ = _; rw [← hbd.out]; rfl
              obtain ⟨tm, htm⟩ : ∃ tm, Hid (tiesMay x.ties vs = tm) := ⟨_, rfl⟩
              rw [htm.out] at HPK
              rw [htm.out]
              have HP := Lib.hid (push_spec ps ((⟨vs, bd⟩ : StL), ((some ⟨vb, 0, none⟩, vs.length, vc) : SV)) (.slice ha cur.length hc) L w6'.heap.size w6' hS6 (hO6.wide (by omega) (Nat.le_refl _)) (fresh_two (fun e => by
                injection e with e1 _ _
                subst e1
                have := hXoO vb rfl
                omega)) (by omega) (Nat.le_refl _) (by omega))
              rw [HQ.out] at HP
              clear hXr hbr hSp hXo hCo hOx2 hO4 hO5 hO6 hb5 hb6 hB4 hB5 hBw4 hBw5 hB6'
              cases tm with
              | false =>
                have HF := Lib.hid (HNO.out (by rw [HPK.out]; rfl))
                clear HYE HNO HPK HP
                go_wp2
                go_roundw
                case rel => exact ⟨k + 1, cur, by omega, by go_num, HF.out, ⟨ps, hS6, HQ.out⟩, hBw6⟩
                case measure => simp [intOf]; omega
              | true =>
                by_cases hz1 : c.over = 0
                · by_cases hz2 : c.sum < bd
                  · have HF := Lib.hid (HNO.out (by rw [HPK.out, decide_eq_true hz1, decide_eq_true hz2]; rfl))
                    have hz3 : ((c.over : Int) == 0) = true := beq_iff_eq.2 hz1
                    clear HYE HNO HPK hz1 HP
                    go_wp2
                    go_roundw
                    case rel => exact ⟨k + 1, cur, by omega, by go_num, HF.out, ⟨ps, hS6, HQ.out⟩, hBw6⟩
                    case measure => simp [intOf]; omega
                  · have HF := Lib.hid (HYE.out (by rw [HPK.out, decide_eq_false hz2]; simp))
                    have hz3 : ((c.over : Int) == 0) = true := beq_iff_eq.2 hz1
                    clear HYE HNO HPK hz1 hS6
                    go_wp2_with fail
                    refine HP.out.mono ?_
                    clear HP
                    rintro e w7 ⟨u7, rfl, hO7, hb7⟩
                    have hF7 := hBw6.trans hb7
                    go_wp2
                    go_roundw
                    case rel => exact ⟨k + 1, _, by omega, by go_num, HF.out, hO7, hF7⟩
                    case measure => simp [intOf]; omega
                · have HF := Lib.hid (HYE.out (by rw [HPK.out, decide_eq_false hz1]; rfl))
                  have hz3 : ((c.over : Int) == 0) = false := beq_eq_false_iff_ne.2 hz1
                  clear HYE HNO HPK hz1 hS6
                  go_wp2_with fail
                  refine HP.out.mono ?_
                  clear HP
                  rintro e w7 ⟨u7, rfl, hO7, hb7⟩
                  have hF7 := hBw6.trans hb7
                  go_wp2
                  go_roundw
                  case rel => exact ⟨k + 1, _, by omega, by go_num, HF.out, hO7, hF7⟩
                  case measure => simp [intOf]; omega
            · obtain rfl : k = N := by omega
              have HF : Hid (cur = openL x c xv rest) := by show _ = _; rw [HCU.out, ← hN.out]; rfl
              have hSF : HOwn ⟨[((⟨best, 0⟩ : StL), bv)], [(C, .cells #[.int .i64 c.over, .int .i64 c.sum] 37)]⟩ L wr.heap.size wr (.slice ha cur.length hc) cur := hSr.less (fun p hp => by rw [List.mem_singleton.1 hp]; exact List.mem_cons_self ..) (fun q hq => by rw [List.mem_singleton.1 hq]; exact List.mem_cons_self ..)
              have hki : ¬ (k : Int) < (k : Int) := by omega
              have hBF := hB8.trans hbr
              clear hSr HCU
              go_wp2_with fail
              go_roundg (sumW x (openL x c xv rest))
              case measure => omega
              case rel => exact ⟨pops + 1, cur, best, bv, c, rfl, rfl, by rw [HF.out], (by rw [HF.out]; exact T1.out), hSF, hBF⟩
end Go.Proofs.Ytllpgomloblfjaa
