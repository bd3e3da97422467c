/- Piece: the law's helpers that copy and compare. -/
import Derived.Test.YtllpgomloblfjaaHPiece
namespace Go.Proofs.Ytllpgomloblfjaa
open Go.RowKit
/-- all four slices are rows of their own -/
structure POwn (x : Piece) (ra : Option Addr) (rc : Nat) (ca : Option Addr) (cc : Nat) (sa : Option Addr) (sc : Nat) (ta : Option Addr) (tc : Nat) (lo hi : Nat) (w : World) : Prop where
  r : Own ruleF 92 lo hi w (.slice ra x.rules.length rc) x.rules
  c : Own chunkF 56 lo hi w (.slice ca x.chunks.length cc) x.chunks
  s : Own spanF 121 lo hi w (.slice sa x.spans.length sc) x.spans
  t : Own tieF 101 lo hi w (.slice ta x.ties.length tc) x.ties
section
variable {x : Piece} {ra ca sa ta : Option Addr} {rc cc sc tc lo hi : Nat} {w w' : World}
theorem POwn.same (h : POwn x ra rc ca cc sa sc ta tc lo hi w) (hs : Same lo hi w w') : POwn x ra rc ca cc sa sc ta tc lo hi w' := ⟨h.r.same hs, h.c.same hs, h.s.same hs, h.t.same hs⟩
theorem POwn.below {B : Nat} (h : POwn x ra rc ca cc sa sc ta tc lo hi w) (hb : Below B w w') (hh : hi ≤ B) : POwn x ra rc ca cc sa sc ta tc lo hi w' := h.same (.of_below hb hh)
theorem POwn.wide {lo' hi' : Nat} (h : POwn x ra rc ca cc sa sc ta tc lo hi w) (h1 : lo' ≤ lo) (h2 : hi ≤ hi') : POwn x ra rc ca cc sa sc ta tc lo' hi' w := ⟨h.r.wide h1 h2, h.c.wide h1 h2, h.s.wide h1 h2, h.t.wide h1 h2⟩
theorem POwn.rd (h : POwn x ra rc ca cc sa sc ta tc lo hi w) : PFour x ra rc ca cc sa sc ta tc lo hi w := ⟨h.r.rd, h.c.rd, h.s.rd, h.t.rd⟩
end
set_option maxHeartbeats 2000000 in
set_option maxRecDepth 100000 in
theorem toPiece_own (x : Piece) (ra ca sa ta : Option Addr) (rc cc sc tc lo hi : Nat) (w : World) (hp : PFour x ra rc ca cc sa sc ta tc lo hi w) (hh : hi ≤ w.heap.size) (l1 : x.rules.length ≤ 1048576) (l2 : x.chunks.length ≤ 1048576) (l3 : x.spans.length ≤ 1048576) (l4 : x.ties.length ≤ 1048576) :
    Calls Try.prog 45 #[x.v ra rc ca cc sa sc ta tc] w fun e w' => ∃ ra' rc' ca' cc' sa' sc' ta' tc', e = .returned (x.v ra' rc' ca' cc' sa' sc' ta' tc') ∧ Below w.heap.size w w' ∧ POwn x ra' rc' ca' cc' sa' sc' ta' tc' w.heap.size w'.heap.size w' := by
  obtain ⟨indent, rules, chunks, spans, ties⟩ := x
  obtain ⟨hr, hc, hsp, ht⟩ := hp
  unfold Piece.v
  simp only at l1 l2 l3 l4 hr hc hsp ht ⊢
  go_enter Try.func45, Try.ntmps45
  go_wp2_with fail
  generalize hA : Obj.cells #[Value.int IntKind.i64 indent, Value.slice ra rules.length rc, Value.slice ca chunks.length cc, Value.slice sa spans.length sc, Value.slice ta ties.length tc] 73 = A
  generalize hZ : Obj.cells #[Value.int IntKind.i64 0, Value.slice none 0 0, Value.slice none 0 0, Value.slice none 0 0, Value.slice none 0 0] 29 = Z
  generalize hC : Obj.cells #[Value.int IntKind.i64 indent, Value.slice none 0 0, Value.slice none 0 0, Value.slice none 0 0, Value.slice none 0 0] 29 = C
  obtain ⟨n, hn⟩ : ∃ n, Hid (n = w.heap.size) := ⟨_, rfl⟩
  have hb0 : Below n w (((w.alloc A).alloc Z).alloc C) := by
    rw [hn.out]
    exact (((Below.refl _ _).alloc (Nat.le_refl _) _).alloc (by simp) _).alloc (by simp; omega) _
  have s0 : n + 3 ≤ (((w.alloc A).alloc Z).alloc C).heap.size := by rw [hn.out]; simp
  obtain ⟨A0, Z0, C0⟩ := heap_three w A Z C
  rw [← hn.out] at A0 Z0 C0 ⊢
  replace A0 := A0.trans (congrArg some hA.symm)
  replace Z0 := Z0.trans (congrArg some hZ.symm)
  replace C0 := C0.trans (congrArg some hC.symm)
  clear hA hZ hC
  have hh' : hi ≤ n := by rw [hn.out]; exact hh
  generalize ((w.alloc A).alloc Z).alloc C = w0 at *
  refine (toRuleS_any rules _ lo hi _ (hr.below hb0 hh') (by omega) l1).mono ?_
  rintro e w1 ⟨u1, rfl, kb, ho⟩
  obtain ⟨a1, c1, rfl, _⟩ := ho.form
  have hb1 := hb0.trans (kb.mono (by omega))
  have s1 := kb.size
  have A1 := (kb.block n (by omega)).trans A0
  have Z1 := (kb.block (n + 1) (by omega)).trans Z0
  have C1 := (kb.block (n + 1 + 1) (by omega)).trans C0
  have o1 : Own ruleF 92 (n + 3) w1.heap.size w1 (.slice a1 rules.length c1) rules := ho.wide (by omega) (Nat.le_refl _)
  clear kb ho A0 Z0 C0 hb0
  have x1 := cell_heap (j := 1) C1 rfl
  have y1 := frozen_heap (j := 1) C1
  have p2 := cell_heap (j := 2) A1 rfl
  go_wp2_with fail
  have hs : (w1.setCell ⟨n + 1 + 1, 1, none⟩ (.slice a1 rules.length c1)).heap.size = w1.heap.size := by simp [World.setCell]
  replace hb1 := hb1.setCell (p := ⟨n + 1 + 1, 1, none⟩) (by show n ≤ n + 1 + 1; omega) (.slice a1 rules.length c1)
  replace A1 := heap_set_other (g := n + 1 + 1) (j := 1) (v := .slice a1 rules.length c1) (by omega) A1
  replace Z1 := heap_set_other (g := n + 1 + 1) (j := 1) (v := .slice a1 rules.length c1) (by omega) Z1
  replace C1 := heap_set_same (j := 1) (v := .slice a1 rules.length c1) C1
  replace o1 := o1.far (p := ⟨n + 1 + 1, 1, none⟩) (.inr (by show n + 1 + 1 < n + 3; omega)) (.slice a1 rules.length c1)
  rw [← hs] at o1
  clear x1 y1 p2
  have s2 : n + 3 ≤ (w1.setCell ⟨n + 1 + 1, 1, none⟩ (.slice a1 rules.length c1)).heap.size := by rw [hs]; omega
  clear hs s1
  generalize w1.setCell ⟨n + 1 + 1, 1, none⟩ (.slice a1 rules.length c1) = w2 at *
  have hb2 := hb1
  have A2 := A1
  have Z2 := Z1
  have C2 := C1
  clear hb1 A1 Z1 C1
  refine (toChunkS_any chunks _ lo hi _ (hc.below hb2 hh') (by omega) l2).mono ?_
  rintro e w3 ⟨u2, rfl, kb, ho⟩
  obtain ⟨a2, c2, rfl, _⟩ := ho.form
  have hb3 := hb2.trans (kb.mono (by omega))
  have s3 := kb.size
  have A3 := (kb.block n (by omega)).trans A2
  have Z3 := (kb.block (n + 1) (by omega)).trans Z2
  have C3 := (kb.block (n + 1 + 1) (by omega)).trans C2
  have o2 : Own chunkF 56 (n + 3) w3.heap.size w3 (.slice a2 chunks.length c2) chunks := ho.wide (by omega) (Nat.le_refl _)
  replace o1 := (o1.below kb (Nat.le_refl _)).wide (Nat.le_refl _) kb.size
  clear kb ho A2 Z2 C2 hb2
  have x2 := cell_heap (j := 2) C3 rfl
  have y2 := frozen_heap (j := 2) C3
  have p3 := cell_heap (j := 3) A3 rfl
  go_wp2_with fail
  have hs : (w3.setCell ⟨n + 1 + 1, 2, none⟩ (.slice a2 chunks.length c2)).heap.size = w3.heap.size := by simp [World.setCell]
  replace hb3 := hb3.setCell (p := ⟨n + 1 + 1, 2, none⟩) (by show n ≤ n + 1 + 1; omega) (.slice a2 chunks.length c2)
  replace A3 := heap_set_other (g := n + 1 + 1) (j := 2) (v := .slice a2 chunks.length c2) (by omega) A3
  replace Z3 := heap_set_other (g := n + 1 + 1) (j := 2) (v := .slice a2 chunks.length c2) (by omega) Z3
  replace C3 := heap_set_same (j := 2) (v := .slice a2 chunks.length c2) C3
  replace o1 := o1.far (p := ⟨n + 1 + 1, 2, none⟩) (.inr (by show n + 1 + 1 < n + 3; omega)) (.slice a2 chunks.length c2)
  replace o2 := o2.far (p := ⟨n + 1 + 1, 2, none⟩) (.inr (by show n + 1 + 1 < n + 3; omega)) (.slice a2 chunks.length c2)
  rw [← hs] at o1
  rw [← hs] at o2
  clear x2 y2 p3
  have s4 : n + 3 ≤ (w3.setCell ⟨n + 1 + 1, 2, none⟩ (.slice a2 chunks.length c2)).heap.size := by rw [hs]; omega
  clear hs s3
  generalize w3.setCell ⟨n + 1 + 1, 2, none⟩ (.slice a2 chunks.length c2) = w4 at *
  have hb4 := hb3
  have A4 := A3
  have Z4 := Z3
  have C4 := C3
  clear hb3 A3 Z3 C3
  refine (toSpanS_any spans _ lo hi _ (hsp.below hb4 hh') (by omega) l3).mono ?_
  rintro e w5 ⟨u3, rfl, kb, ho⟩
  obtain ⟨a3, c3, rfl, _⟩ := ho.form
  have hb5 := hb4.trans (kb.mono (by omega))
  have s5 := kb.size
  have A5 := (kb.block n (by omega)).trans A4
  have Z5 := (kb.block (n + 1) (by omega)).trans Z4
  have C5 := (kb.block (n + 1 + 1) (by omega)).trans C4
  have o3 : Own spanF 121 (n + 3) w5.heap.size w5 (.slice a3 spans.length c3) spans := ho.wide (by omega) (Nat.le_refl _)
  replace o1 := (o1.below kb (Nat.le_refl _)).wide (Nat.le_refl _) kb.size
  replace o2 := (o2.below kb (Nat.le_refl _)).wide (Nat.le_refl _) kb.size
  clear kb ho A4 Z4 C4 hb4
  have x3 := cell_heap (j := 3) C5 rfl
  have y3 := frozen_heap (j := 3) C5
  have p4 := cell_heap (j := 4) A5 rfl
  go_wp2_with fail
  have hs : (w5.setCell ⟨n + 1 + 1, 3, none⟩ (.slice a3 spans.length c3)).heap.size = w5.heap.size := by simp [World.setCell]
  replace hb5 := hb5.setCell (p := ⟨n + 1 + 1, 3, none⟩) (by show n ≤ n + 1 + 1; omega) (.slice a3 spans.length c3)
  replace A5 := heap_set_other (g := n + 1 + 1) (j := 3) (v := .slice a3 spans.length c3) (by omega) A5
  replace Z5 := heap_set_other (g := n + 1 + 1) (j := 3) (v := .slice a3 spans.length c3) (by omega) Z5
  replace C5 := heap_set_same (j := 3) (v := .slice a3 spans.length c3) C5
  replace o1 := o1.far (p := ⟨n + 1 + 1, 3, none⟩) (.inr (by show n + 1 + 1 < n + 3; omega)) (.slice a3 spans.length c3)
  replace o2 := o2.far (p := ⟨n + 1 + 1, 3, none⟩) (.inr (by show n + 1 + 1 < n + 3; omega)) (.slice a3 spans.length c3)
  replace o3 := o3.far (p := ⟨n + 1 + 1, 3, none⟩) (.inr (by show n + 1 + 1 < n + 3; omega)) (.slice a3 spans.length c3)
  rw [← hs] at o1
  rw [← hs] at o2
  rw [← hs] at o3
  clear x3 y3 p4
  have s6 : n + 3 ≤ (w5.setCell ⟨n + 1 + 1, 3, none⟩ (.slice a3 spans.length c3)).heap.size := by rw [hs]; omega
  clear hs s5
  generalize w5.setCell ⟨n + 1 + 1, 3, none⟩ (.slice a3 spans.length c3) = w6 at *
  have hb6 := hb5
  have A6 := A5
  have Z6 := Z5
  have C6 := C5
  clear hb5 A5 Z5 C5
  refine (toTieS_any ties _ lo hi _ (ht.below hb6 hh') (by omega) l4).mono ?_
  rintro e w7 ⟨u4, rfl, kb, ho⟩
  obtain ⟨a4, c4, rfl, _⟩ := ho.form
  have hb7 := hb6.trans (kb.mono (by omega))
  have s7 := kb.size
  have A7 := (kb.block n (by omega)).trans A6
  have Z7 := (kb.block (n + 1) (by omega)).trans Z6
  have C7 := (kb.block (n + 1 + 1) (by omega)).trans C6
  have o4 : Own tieF 101 (n + 3) w7.heap.size w7 (.slice a4 ties.length c4) ties := ho.wide (by omega) (Nat.le_refl _)
  replace o1 := (o1.below kb (Nat.le_refl _)).wide (Nat.le_refl _) kb.size
  replace o2 := (o2.below kb (Nat.le_refl _)).wide (Nat.le_refl _) kb.size
  replace o3 := (o3.below kb (Nat.le_refl _)).wide (Nat.le_refl _) kb.size
  clear kb ho A6 Z6 C6 hb6
  have x4 := cell_heap (j := 4) C7 rfl
  have y4 := frozen_heap (j := 4) C7
  have v0 := cell_heap (j := 0) C7 rfl
  have v1 := cell_heap (j := 1) C7 rfl
  have v2 := cell_heap (j := 2) C7 rfl
  have v3 := cell_heap (j := 3) C7 rfl
  have z0 := cell_heap (j := 0) Z7 rfl
  have z1 := cell_heap (j := 1) Z7 rfl
  have z2 := cell_heap (j := 2) Z7 rfl
  have z3 := cell_heap (j := 3) Z7 rfl
  have z4 := cell_heap (j := 4) Z7 rfl
  have f0 := frozen_heap (j := 0) Z7
  have f1 := frozen_heap (j := 1) Z7
  have f2 := frozen_heap (j := 2) Z7
  have f3 := frozen_heap (j := 3) Z7
  have f4 := frozen_heap (j := 4) Z7
  have hB : Below n w (storeAll (n + 1) [.int .i64 indent, .slice a1 rules.length c1, .slice a2 chunks.length c2, .slice a3 spans.length c3, .slice a4 ties.length c4] 0 (w7.setCell ⟨n + 1 + 1, 4, none⟩ (.slice a4 ties.length c4))) := blw_storeAll (hb7.setCell (p := ⟨n + 1 + 1, 4, none⟩) (by show n ≤ n + 1 + 1; omega) _) (by omega) _ _
  have hS : Same (n + 3) w7.heap.size w7 (storeAll (n + 1) [.int .i64 indent, .slice a1 rules.length c1, .slice a2 chunks.length c2, .slice a3 spans.length c3, .slice a4 ties.length c4] 0 (w7.setCell ⟨n + 1 + 1, 4, none⟩ (.slice a4 ties.length c4))) := by
    have h1 : Out n (n + 3) w7 (w7.setCell ⟨n + 1 + 1, 4, none⟩ (.slice a4 ties.length c4)) := (Out.refl _ _ _).setCell (p := ⟨n + 1 + 1, 4, none⟩) (by show n ≤ n + 1 + 1; omega) (by show n + 1 + 1 < n + 3; omega) _
    exact (h1.storeAll (g := n + 1) (by omega) (by omega) _ _).same (Nat.le_refl _) (.inr (Nat.le_refl _))
  have hsz : (storeAll (n + 1) [.int .i64 indent, .slice a1 rules.length c1, .slice a2 chunks.length c2, .slice a3 spans.length c3, .slice a4 ties.length c4] 0 (w7.setCell ⟨n + 1 + 1, 4, none⟩ (.slice a4 ties.length c4))).heap.size = w7.heap.size := by
    rw [size_storeAll]; simp [World.setCell]
  have h5 := storeAll_at (g := n + 1) [.int .i64 indent, .slice a1 rules.length c1, .slice a2 chunks.length c2, .slice a3 spans.length c3, .slice a4 ties.length c4] 0 (w7.setCell ⟨n + 1 + 1, 4, none⟩ (.slice a4 ties.length c4)) (fun j hj => by
    rw [Nat.zero_add, World.cell?_setCell_other _ _ _ _ (fun e => absurd (congrArg Addr.block e) (by show ¬ n + 1 + 1 = n + 1; omega))]
    have : j = 0 ∨ j = 1 ∨ j = 2 ∨ j = 3 ∨ j = 4 := by simp at hj; omega
    rcases this with rfl | rfl | rfl | rfl | rfl
    · exact ⟨_, z0⟩
    · exact ⟨_, z1⟩
    · exact ⟨_, z2⟩
    · exact ⟨_, z3⟩
    · exact ⟨_, z4⟩)
  have q0 := h5 0 _ rfl
  have q1 := h5 1 _ rfl
  have q2 := h5 2 _ rfl
  have q3 := h5 3 _ rfl
  have q4 := h5 4 _ rfl
  have HF : POwn ⟨indent, rules, chunks, spans, ties⟩ a1 c1 a2 c2 a3 c3 a4 c4 (n + 3) w7.heap.size w7 := ⟨o1, o2, o3, o4⟩
  have HF2 := HF.same hS
  rw [← hsz] at HF2
  clear o1 o2 o3 o4 HF h5 hS hsz A7 Z7 C7 hr hc hsp ht
  go_wp2
  change bodyPost _ _ _ _ _ (storeAll (n + 1) [.int .i64 indent, .slice a1 rules.length c1, .slice a2 chunks.length c2, .slice a3 spans.length c3, .slice a4 ties.length c4] 0 (w7.setCell ⟨n + 1 + 1, 4, none⟩ (.slice a4 ties.length c4)))
  clear x4 y4 v0 v1 v2 v3 z0 z1 z2 z3 z4 f0 f1 f2 f3 f4
  generalize storeAll (n + 1) [.int .i64 indent, .slice a1 rules.length c1, .slice a2 chunks.length c2, .slice a3 spans.length c3, .slice a4 ties.length c4] 0 (w7.setCell ⟨n + 1 + 1, 4, none⟩ (.slice a4 ties.length c4)) = w9 at *
  exact bodyPost_ret (v := .agg #[.int .i64 indent, .slice a1 rules.length c1, .slice a2 chunks.length c2, .slice a3 spans.length c3, .slice a4 ties.length c4]) (by simp [results, Try.results45, go_sem, q0, q1, q2, q3, q4]) rfl ⟨a1, c1, a2, c2, a3, c3, a4, c4, rfl, by rw [← hn.out]; exact hB, HF2.wide (by rw [← hn.out]; omega) (Nat.le_refl _)⟩
theorem toPiece_any (x : Piece) (ra ca sa ta : Option Addr) (rc cc sc tc lo hi : Nat) (w : World) (hp : PFour x ra rc ca cc sa sc ta tc lo hi w) (hh : hi ≤ w.heap.size) (l1 : x.rules.length ≤ 1048576) (l2 : x.chunks.length ≤ 1048576) (l3 : x.spans.length ≤ 1048576) (l4 : x.ties.length ≤ 1048576) :
    Calls Try.prog 45 #[x.v ra rc ca cc sa sc ta tc] w fun e w' => ∃ ra' rc' ca' cc' sa' sc' ta' tc', e = .returned (x.v ra' rc' ca' cc' sa' sc' ta' tc') ∧ Below w.heap.size w w' ∧ PFour x ra' rc' ca' cc' sa' sc' ta' tc' w.heap.size w'.heap.size w' :=
  (toPiece_own x ra ca sa ta rc cc sc tc lo hi w hp hh l1 l2 l3 l4).mono fun _ _ ⟨ra', rc', ca', cc', sa', sc', ta', tc', h1, h2, h3⟩ => ⟨ra', rc', ca', cc', sa', sc', ta', tc', h1, h2, h3.rd⟩
set_option maxHeartbeats 2000000 in
set_option maxRecDepth 100000 in
theorem eqPiece_any (x : Piece) (ra ca sa ta ra' ca' sa' ta' : Option Addr) (rc cc sc tc rc' cc' sc' tc' lo hi lo' hi' : Nat) (w : World) (hp : PFour x ra rc ca cc sa sc ta tc lo hi w) (hh : hi ≤ w.heap.size) (hp' : PFour x ra' rc' ca' cc' sa' sc' ta' tc' lo' hi' w) (hh' : hi' ≤ w.heap.size) :
    Calls Try.prog 47 #[x.v ra rc ca cc sa sc ta tc, x.v ra' rc' ca' cc' sa' sc' ta' tc'] w fun e w' => e = .returned (.bool true) ∧ Below w.heap.size w w' := by
  obtain ⟨indent, rules, chunks, spans, ties⟩ := x
  obtain ⟨hr, hc, hsp, ht⟩ := hp
  obtain ⟨hr', hc', hsp', ht'⟩ := hp'
  unfold Piece.v
  simp only at hr hc hsp ht hr' hc' hsp' ht' ⊢
  go_enter Try.func47, Try.ntmps47
  go_wp2_with fail
  generalize hA : Obj.cells #[Value.int IntKind.i64 indent, Value.slice ra rules.length rc, Value.slice ca chunks.length cc, Value.slice sa spans.length sc, Value.slice ta ties.length tc] 29 = A
  generalize hZ : Obj.cells #[Value.int IntKind.i64 indent, Value.slice ra' rules.length rc', Value.slice ca' chunks.length cc', Value.slice sa' spans.length sc', Value.slice ta' ties.length tc'] 29 = Z
  have hb0 : Below w.heap.size w ((w.alloc A).alloc Z) := ((Below.refl _ _).alloc (Nat.le_refl _) _).alloc (by simp) _
  obtain ⟨A0, Z0⟩ := heap_two w A Z
  replace A0 := A0.trans (congrArg some hA.symm)
  replace Z0 := Z0.trans (congrArg some hZ.symm)
  have p2 := cell_heap (j := 2) A0 rfl
  have q2 := cell_heap (j := 2) Z0 rfl
  have p3 := cell_heap (j := 3) A0 rfl
  have q3 := cell_heap (j := 3) Z0 rfl
  have p4 := cell_heap (j := 4) A0 rfl
  have q4 := cell_heap (j := 4) Z0 rfl
  have s0 := hb0.size
  clear A0 Z0 hA hZ
  generalize (w.alloc A).alloc Z = w0 at *
  refine (eqRuleS_any rules _ _ lo hi lo' hi' _ (hr.below hb0 hh) (by omega) (hr'.below hb0 hh') (by omega)).mono ?_
  rintro e w1 ⟨rfl, k1⟩
  have hb1 := hb0.trans (k1.mono s0)
  have s1 := hb1.size
  replace p2 := keepc p2 k1
  replace q2 := keepc q2 k1
  replace p3 := keepc p3 k1
  replace q3 := keepc q3 k1
  replace p4 := keepc p4 k1
  replace q4 := keepc q4 k1
  clear hb0 k1
  go_wp2_with fail
  refine (eqChunkS_any chunks _ _ lo hi lo' hi' _ (hc.below hb1 hh) (by omega) (hc'.below hb1 hh') (by omega)).mono ?_
  rintro e w2 ⟨rfl, k2⟩
  have hb2 := hb1.trans (k2.mono s1)
  have s2 := hb2.size
  replace p3 := keepc p3 k2
  replace q3 := keepc q3 k2
  replace p4 := keepc p4 k2
  replace q4 := keepc q4 k2
  clear hb1 k2
  go_wp2_with fail
  refine (eqSpanS_any spans _ _ lo hi lo' hi' _ (hsp.below hb2 hh) (by omega) (hsp'.below hb2 hh') (by omega)).mono ?_
  rintro e w3 ⟨rfl, k3⟩
  have hb3 := hb2.trans (k3.mono s2)
  have s3 := hb3.size
  replace p4 := keepc p4 k3
  replace q4 := keepc q4 k3
  clear hb2 k3
  go_wp2_with fail
  refine (eqTieS_any ties _ _ lo hi lo' hi' _ (ht.below hb3 hh) (by omega) (ht'.below hb3 hh') (by omega)).mono ?_
  rintro e w4 ⟨rfl, k4⟩
  have hb4 := hb3.trans (k4.mono s3)
  have s4 := hb4.size
  go_wp2
  go_ret
  exact ⟨rfl, hb4⟩
end Go.Proofs.Ytllpgomloblfjaa
