/- Piece: the law's marks upon it. -/
import Derived.Test.YtllpgomloblfjaaGreatHPieceB
import Derived.Test.YtllpgomloblfjaaGreatNest
import Derived.Test.YtllpgomloblfjaaGreatPieceD
namespace Go.Proofs.YtllpgomloblfjaaGreat
open Go.RowKit

/-- a row of chunks that can be marked -/
structure CRow (lo hi : Nat) (w : World) (g n : Nat) : Prop where
  low : lo ≤ g
  high : g < hi
  cell : ∀ i j, i < n → j < 5 → ∃ u, w.cell? ⟨g, i * 5 + j, none⟩ = some u
  frz : ∀ j, w.frozen? ⟨g, j, none⟩ = false
theorem CRow.same {lo hi g n : Nat} {w w' : World} (h : CRow lo hi w g n) (hs : Same lo hi w w') : CRow lo hi w' g n := by
  have hb := hs g h.low h.high
  refine ⟨h.low, h.high, fun i j hi hj => ?_, fun j => (World.frozen?_of_block (a := ⟨g, j, none⟩) hb).trans (h.frz j)⟩
  obtain ⟨u, hu⟩ := h.cell i j hi hj
  exact ⟨u, (World.cell?_of_block hb).trans hu⟩
theorem CRow.set {lo hi g n o : Nat} {w : World} (h : CRow lo hi w g n) (u : Value) (ho : ∃ v, w.cell? ⟨g, o, none⟩ = some v) : CRow lo hi (w.setCell ⟨g, o, none⟩ u) g n := by
  obtain ⟨u0, hu0⟩ := ho
  refine ⟨h.low, h.high, fun a b ha hb => ?_, fun b => by rw [World.frozen?_setCell]; exact h.frz b⟩
  by_cases e : a * 5 + b = o
  · rw [e]; exact ⟨u, World.cell?_setCell_same (w := w) (a := ⟨g, o, none⟩) (v := u) hu0⟩
  · obtain ⟨x, hx⟩ := h.cell a b ha hb
    exact ⟨x, (World.cell?_setCell_other _ _ _ _ (fun c => e (by injection c with _ c _; exact c.symm))).trans hx⟩
theorem CRow.of {lo hi : Nat} {w : World} {v : Value} {xs : List Chunk} (h : Own chunkF 90 lo hi w v xs) (hp : 0 < xs.length) : ∃ g c, v = .slice (some ⟨g, 0, none⟩) xs.length c ∧ CRow lo hi w g xs.length := by
  rcases h.shapes with ⟨_, e⟩ | ⟨g, c, rfl, g1, g2, g3, g4⟩
  · rw [e] at hp; exact absurd hp (Nat.lt_irrefl _)
  · exact ⟨g, c, rfl, g1, g2, fun i j hi hj => ⟨_, (h.cell rfl hi hj).trans (List.getElem?_eq_getElem (by rw [chunkF.len]; exact hj))⟩, fun j => h.frozen rfl j⟩
set_option maxHeartbeats 4000000 in
set_option maxRecDepth 100000 in
theorem markChunkS_row (g n c lo hi k : Nat) (w : World) (h : CRow lo hi w g n) (hh : hi ≤ w.heap.size) (hn : n ≤ 1048576) (h1 : 1 ≤ k) (h2 : k ≤ 4294967296) :
    Calls Tryz.prog 35 #[.slice (some ⟨g, 0, none⟩) n c, .int .i64 k] w fun e w' => e = .returned (.int .i64 ((k + 5 * n : Nat) : Int)) ∧ Out lo hi w w' := by
  go_enter Tryz.func35, Tryz.ntmps35
  go_wp2
  go_loopw [1, 5] (fun z i wr => ∃ (q m : Nat), q ≤ n ∧ i = .int .i64 q ∧ z = .int .i64 m ∧ Hid (m = k + 5 * q) ∧ m ≤ k + 5 * q ∧ 1 ≤ m ∧ Out lo hi w wr ∧ CRow lo hi wr g n) (fun _ i _ => n - (intOf i).toNat)
  case atStart => exact ⟨0, k, Nat.zero_le _, rfl, rfl, rfl, by omega, h1, Out.refl _ _ _, h⟩
  case round =>
    obtain ⟨q, m, hq, rfl, rfl, HM, hm1, hm2, ho, hM⟩ := hrel
    have hsz := ho.size
    by_cases hlt : q < n
    · have hqi : (q : Int) < (n : Int) := by omega
      have hqz : (0 : Int) ≤ (q : Int) := by omega
      go_wp2_with fail
      refine (markText_z (m : Int) m rfl wr (by omega) (by omega)).mono ?_
      rintro e w2 ⟨rfl, hb2⟩
      have hs2 := hb2.size
      have hM2 := hM.same (.of_below hb2 (by omega))
      have ho2 : Out lo hi w w2 := ho.trans (Out.of_below hb2)
      clear ho hM hb2
      obtain ⟨u0, c0⟩ := hM2.cell q 0 hlt (by decide)
      obtain ⟨u1, c1⟩ := hM2.cell q 1 hlt (by decide)
      obtain ⟨u2, c2⟩ := hM2.cell q 2 hlt (by decide)
      obtain ⟨u3, c3⟩ := hM2.cell q 3 hlt (by decide)
      obtain ⟨u4, c4⟩ := hM2.cell q 4 hlt (by decide)
      replace c0 : w2.cell? ⟨g, q * 5, none⟩ = some u0 := c0
      replace c2 : w2.cell? ⟨g, q * 5 + 1 + 1, none⟩ = some u2 := c2
      replace c3 : w2.cell? ⟨g, q * 5 + 1 + 1 + 1, none⟩ = some u3 := c3
      replace c4 : w2.cell? ⟨g, q * 5 + 1 + 1 + 1 + 1, none⟩ = some u4 := c4
      have f0 := hM2.frz (q * 5)
      have f1 := hM2.frz (q * 5 + 1)
      have f2 := hM2.frz (q * 5 + 1 + 1)
      have f3 := hM2.frz (q * 5 + 1 + 1 + 1)
      have f4 := hM2.frz (q * 5 + 1 + 1 + 1 + 1)
      have hlo := hM2.low
      have hhi := hM2.high
      have EF : Hid (∀ a b c d e : Value, Out lo hi w (((((w2.setCell ⟨g, q * 5, none⟩ a).setCell ⟨g, q * 5 + 1, none⟩ b).setCell ⟨g, q * 5 + 1 + 1, none⟩ c).setCell ⟨g, q * 5 + 1 + 2, none⟩ d).setCell ⟨g, q * 5 + 1 + 3, none⟩ e)) := fun a b c d e =>
        ((((ho2.setCell (p := ⟨g, q * 5, none⟩) hlo hhi a).setCell (p := ⟨g, q * 5 + 1, none⟩) hlo hhi b).setCell (p := ⟨g, q * 5 + 1 + 1, none⟩) hlo hhi c).setCell (p := ⟨g, q * 5 + 1 + 2, none⟩) hlo hhi d).setCell (p := ⟨g, q * 5 + 1 + 3, none⟩) hlo hhi e
      have MF : Hid (∀ a b c d e : Value, CRow lo hi (((((w2.setCell ⟨g, q * 5, none⟩ a).setCell ⟨g, q * 5 + 1, none⟩ b).setCell ⟨g, q * 5 + 1 + 1, none⟩ c).setCell ⟨g, q * 5 + 1 + 2, none⟩ d).setCell ⟨g, q * 5 + 1 + 3, none⟩ e) g n) := fun a b c d e => by
        have m1 := hM2.set (o := q * 5) a ⟨_, c0⟩
        have m2 := m1.set (o := q * 5 + 1) b (m1.cell q 1 hlt (by decide))
        have m3 := m2.set (o := q * 5 + 1 + 1) c (m2.cell q 2 hlt (by decide))
        have m4 := m3.set (o := q * 5 + 1 + 2) d (m3.cell q 3 hlt (by decide))
        exact m4.set (o := q * 5 + 1 + 3) e (m4.cell q 4 hlt (by decide))
      go_wp2_with fail
      all_goals
        go_roundw
        case rel => exact ⟨q + 1, m + 5, by omega, by go_num, by go_num, (by have := HM.out; unfold Hid; omega), by omega, by omega, EF.out _ _ _ _ _, MF.out _ _ _ _ _⟩
        case measure => simp [intOf]; omega
    · have hqi : ¬ (q : Int) < (n : Int) := by omega
      obtain rfl : q = n := by omega
      go_wp2
      go_ret
      exact ⟨ret_int (by have := HM.out; omega), ho⟩
theorem markChunkS_one {xs : List Chunk} {v : Value} {lo hi : Nat} (k : Nat) {z : Int} {w : World} (hz : z = (k : Nat)) (h : Own chunkF 90 lo hi w v xs) (hh : hi ≤ w.heap.size) (hl : xs.length ≤ 1048576) (h1 : 1 ≤ k) (h2 : k ≤ 4294967296) :
    Calls Tryz.prog 35 #[v, .int .i64 z] w fun e w' => e = .returned (.int .i64 ((k + 5 * xs.length : Nat) : Int)) ∧ Out lo hi w w' := by
  subst hz
  by_cases hp : 0 < xs.length
  · obtain ⟨g, c, rfl, hM⟩ := CRow.of h hp
    exact markChunkS_row g xs.length c lo hi k w hM hh hl h1 h2
  · obtain ⟨a, c, rfl, _⟩ := h.form
    have hz : xs.length = 0 := by omega
    rw [hz]
    go_enter Tryz.func35, Tryz.ntmps35
    go_wp2
    go_loopw [1, 5] (fun z i wr => z = .int .i64 k ∧ i = .int .i64 0 ∧ w = wr) (fun _ _ _ => 0)
    case atStart => exact ⟨rfl, rfl, rfl⟩
    case round =>
      obtain ⟨rfl, rfl, rfl⟩ := hrel
      go_wp2
      go_ret
      exact ⟨ret_int (by simp), Out.refl _ _ _⟩
theorem five' {x : Piece} {ra ca sa ta : Option Addr} {rc cc sc tc b : Nat} {w : World} {T : TypeId} (h : w.heap[b]? = some (.cells #[.int .i64 x.indent, .slice ra x.rules.length rc, .slice ca x.chunks.length cc, .slice sa x.spans.length sc, .slice ta x.ties.length tc] T)) : w.cell? ⟨b, 1, none⟩ = some (.slice ra x.rules.length rc) ∧ w.cell? ⟨b, 2, none⟩ = some (.slice ca x.chunks.length cc) ∧ w.cell? ⟨b, 3, none⟩ = some (.slice sa x.spans.length sc) ∧ w.cell? ⟨b, 4, none⟩ = some (.slice ta x.ties.length tc) :=
  ⟨cell_heap h rfl, cell_heap h rfl, cell_heap h rfl, cell_heap h rfl⟩
/-- a row lies in its own block alone -/
theorem own_narrow {α : Type} {F : Flat α} {T lo hi : Nat} {w : World} {v : Value} {xs : List α} (h : Own F T lo hi w v xs) (hlh : lo ≤ hi) : ∃ g g', lo ≤ g ∧ g' ≤ hi ∧ g ≤ g' ∧ Own F T g g' w v xs ∧ ∀ b, g ≤ b → b < g' → v.ownBlock = some b := by
  rcases h.1.2 with ⟨rfl, hn⟩ | ⟨g1, c1, cur1, rfl, hb1, rest⟩
  · obtain rfl := List.eq_nil_of_length_eq_zero hn
    exact ⟨lo, lo, Nat.le_refl _, hlh, Nat.le_refl _, Own.nil _ _ _ _ _, fun b h1 h2 => by omega⟩
  · refine ⟨g1, g1 + 1, hb1, h.2 g1 rfl, Nat.le_succ _, ⟨⟨h.1.1, .inr ⟨g1, c1, cur1, rfl, Nat.le_refl _, rest⟩⟩, fun g' hg' => ?_⟩, fun b h1 h2 => ?_⟩
    · obtain rfl : g1 = g' := Option.some.inj hg'
      omega
    · obtain rfl : b = g1 := by omega
      rfl
theorem own_out {α β : Type} {F : Flat α} {G : Flat β} {T T' lo hi lo' hi' g g' : Nat} {w w' : World} {v u : Value} {xs : List α} {ys : List β} (h : Own F T lo hi w v xs) (k : Own G T' lo' hi' w u ys) (hT : T ≠ T') (hh : hi ≤ w.heap.size) (hu : ∀ b, g ≤ b → b < g' → u.ownBlock = some b) (ho : Out g g' w w') : Own F T lo hi w' v xs := by
  rcases h.1.2 with ⟨rfl, hn⟩ | ⟨g1, c1, cur1, rfl, hb1, hh1, rest⟩
  · obtain rfl := List.eq_nil_of_length_eq_zero hn
    exact Own.nil _ _ _ _ _
  · refine ⟨⟨h.1.1, .inr ⟨g1, c1, cur1, rfl, hb1, ?_, rest⟩⟩, h.2⟩
    have hlt : g1 < hi := h.2 g1 rfl
    refine (ho.block g1 (by omega) fun c => ?_).trans hh1
    exact own_ne h k hT rfl (hu g1 c.1 c.2)
theorem out_wide {lo hi lo' hi' : Nat} {w w' : World} (h : Out lo hi w w') (h1 : lo' ≤ lo) (h2 : hi ≤ hi') : Out lo' hi' w w' := ⟨h.os, h.tape, h.output, h.size, fun k hk hn => h.block k hk (fun c => hn ⟨by omega, by omega⟩)⟩
set_option maxHeartbeats 2000000 in
set_option maxRecDepth 100000 in
theorem markPiece_one (x : Piece) (ra ca sa ta : Option Addr) (rc cc sc tc lo hi : Nat) (w : World) (h : POwn x ra rc ca cc sa sc ta tc lo hi w) (hlh : lo ≤ hi) (hh : hi ≤ w.heap.size) (l1 : x.rules.length ≤ 1048576) (l2 : x.chunks.length ≤ 1048576) (l3 : x.spans.length ≤ 1048576) (l4 : x.ties.length ≤ 1048576) :
    Calls Tryz.prog 11 #[x.v ra rc ca cc sa sc ta tc, .int .i64 1] w fun e w' => (∃ z : Nat, e = .returned (.int .i64 z)) ∧ Out lo hi w w' := by
  unfold Piece.v
  have hX0 := PBox.new x ra ca sa ta rc cc sc tc w
  go_enter Tryz.func11, Tryz.ntmps11
  go_wp2_with fail
  have hb0 : Below w.heap.size w (w.alloc (.cells #[.int .i64 x.indent, .slice ra x.rules.length rc, .slice ca x.chunks.length cc, .slice sa x.spans.length sc, .slice ta x.ties.length tc] 38)) := (Below.refl _ _).alloc (Nat.le_refl _) _
  generalize w.alloc (.cells #[.int .i64 x.indent, .slice ra x.rules.length rc, .slice ca x.chunks.length cc, .slice sa x.spans.length sc, .slice ta x.ties.length tc] 38) = w0 at *
  have h0 := h.below hb0 hh
  have T0 : Out lo hi w w0 := Out.of_below hb0
  have s0 := hb0.size
  have hX0l := hX0.lt
  have hBhi : hi ≤ w.heap.size := hh
  clear h hb0
  obtain ⟨p1, p2, p3, p4⟩ := five' hX0
  obtain ⟨g, g', a1, a2, a3, a4, a5⟩ := own_narrow h0.r hlh
  refine (markRuleS_z 1 (by simp) a4 (by omega) (by omega) (by omega) (by omega)).mono ?_
  rintro e w1 ⟨rfl, k1, -⟩
  have s1 := k1.size
  have c1 := own_out h0.c h0.r (by decide) (by omega) a5 k1
  have c2 := own_out h0.s h0.r (by decide) (by omega) a5 k1
  have c3 := own_out h0.t h0.r (by decide) (by omega) a5 k1
  have hX1 : PBox x ra rc ca cc sa sc ta tc w.heap.size w1 := (k1.block w.heap.size (by omega) (by omega)).trans hX0
  have T1 := T0.trans (out_wide k1 a1 a2)
  clear h0 hX0 T0 k1 a1 a2 a3 a4 a5 p1 p2 p3 p4 g g'
  obtain ⟨p1, p2, p3, p4⟩ := five' hX1
  obtain ⟨g, g', a1, a2, a3, a4, a5⟩ := own_narrow c1 hlh
  go_wp2_with fail
  refine (markChunkS_one (1 + 2 * x.rules.length) (by first | rfl | omega | simp) a4 (by omega) l2 (by omega) (by omega)).mono ?_
  rintro e w2 ⟨rfl, k2⟩
  have s2 := k2.size
  have d2 := own_out c2 c1 (by decide) (by omega) a5 k2
  have d3 := own_out c3 c1 (by decide) (by omega) a5 k2
  have hX2 : PBox x ra rc ca cc sa sc ta tc w.heap.size w2 := (k2.block w.heap.size (by omega) (by omega)).trans hX1
  have T2 := T1.trans (out_wide k2 a1 a2)
  clear c1 c2 c3 hX1 T1 k2 a1 a2 a3 a4 a5 p1 p2 p3 p4 g g'
  obtain ⟨p1, p2, p3, p4⟩ := five' hX2
  obtain ⟨g, g', a1, a2, a3, a4, a5⟩ := own_narrow d2 hlh
  go_wp2_with fail
  refine (markSpanS_z (1 + 2 * x.rules.length + 5 * x.chunks.length) (by first | rfl | omega | simp) a4 (by omega) (by omega) (by omega) (by omega)).mono ?_
  rintro e w3 ⟨rfl, k3, -⟩
  have s3 := k3.size
  have e3 := own_out d3 d2 (by decide) (by omega) a5 k3
  have hX3 : PBox x ra rc ca cc sa sc ta tc w.heap.size w3 := (k3.block w.heap.size (by omega) (by omega)).trans hX2
  have T3 := T2.trans (out_wide k3 a1 a2)
  clear d2 d3 hX2 T2 k3 a1 a2 a3 a4 a5 p1 p2 p3 p4 g g'
  obtain ⟨p1, p2, p3, p4⟩ := five' hX3
  go_wp2_with fail
  refine (markTieS_z (1 + 2 * x.rules.length + 5 * x.chunks.length + 3 * x.spans.length) (by first | rfl | omega | simp) e3 (by omega) (by omega) (by omega) (by omega)).mono ?_
  rintro e w4 ⟨rfl, k4, -⟩
  have T4 := T3.trans k4
  clear e3 hX3 T3 k4 p1 p2 p3 p4
  generalize (1 + 2 * x.rules.length + 5 * x.chunks.length + 3 * x.spans.length) + 2 * x.ties.length = z
  go_wp2
  go_ret
  exact ⟨⟨z, rfl⟩, T4⟩
end Go.Proofs.YtllpgomloblfjaaGreat
