/- PieceOk of the reference. By mk_pieceoks.py. -/
import Derived.Test.YtllpgomloblfjaaPieceD
import Derived.Test.YtllpgomloblfjaaHeld
import Derived.Lib.Strings
namespace Go.Proofs.Ytllpgomloblfjaa
open Go.RowKit

theorem l01In_same (n a b : Int) (w : World) : Calls Try.prog 57 #[.int .i64 n, .int .i64 a, .int .i64 b] w fun e w' => e = .returned (.bool (inR n a b)) ∧ w' = w :=
  (l01In_any n a b w).mono fun _ _ ⟨h1, h2⟩ => ⟨h1, h2.symm⟩
set_option maxHeartbeats 2000000 in
set_option maxRecDepth 100000 in
theorem l08Split_any (x : Piece) (ra ca sa ta : Option Addr) (rc cc sc tc : Nat) (s : Split) (lo hi : Nat) (w : World) (hp : PFour x ra rc ca cc sa sc ta tc lo hi w) (hh : hi ≤ w.heap.size) (hv : ∀ i (h : i < x.rules.length), 2 ≤ x.rules[i].values ∧ x.rules[i].values ≤ 3) :
    Calls Try.prog 105 #[x.v ra rc ca cc sa sc ta tc, s.v] w fun e w' => e = .returned (.bool (splitOk x.rules s)) ∧ Below w.heap.size w w' := by
  obtain ⟨rule, fro, space, nest⟩ := s
  unfold Split.v
  obtain ⟨hr, hc, hsp, ht⟩ := hp
  obtain ⟨hrl, hr5⟩ := at_rule hr
  obtain ⟨B, HB⟩ : ∃ B, Hid (B = w.heap.size) := ⟨_, rfl⟩
  have hBw : B ≤ w.heap.size := Nat.le_of_eq HB.out
  have hBw' : w.heap.size ≤ B := Nat.le_of_eq HB.out.symm
  unfold Piece.v
  go_enter Try.func105, Try.ntmps105
  have hX0 := PBox.new x ra ca sa ta rc cc sc tc w
  have hb0 : Below B w (w.alloc (.cells #[.int .i64 x.indent, .slice ra x.rules.length rc, .slice ca x.chunks.length cc, .slice sa x.spans.length sc, .slice ta x.ties.length tc] 29)) := (Below.refl _ _).alloc hBw _
  have hX1 := hX0.alloc (.cells #[.int .i64 rule, .int .i64 fro, .bool space, .int .i64 nest] 54)
  have hb1 := hb0.alloc (by simp; omega) (.cells #[.int .i64 rule, .int .i64 fro, .bool space, .int .i64 nest] 54)
  have hS1 := heap_alloc_new (w.alloc (.cells #[.int .i64 x.indent, .slice ra x.rules.length rc, .slice ca x.chunks.length cc, .slice sa x.spans.length sc, .slice ta x.ties.length tc] 29)) (.cells #[.int .i64 rule, .int .i64 fro, .bool space, .int .i64 nest] 54)
  rw [show (w.alloc (.cells #[.int .i64 x.indent, .slice ra x.rules.length rc, .slice ca x.chunks.length cc, .slice sa x.spans.length sc, .slice ta x.ties.length tc] 29)).heap.size = w.heap.size + 1 by simp] at hS1
  have s0 := cell_heap (j := 0) hS1 rfl
  have s1 := cell_heap (j := 1) hS1 rfl
  have s3 := cell_heap (j := 3) hS1 rfl
  obtain ⟨p0, p1, p2, p3, p4⟩ := hX1.five
  clear hX0 hb0 hX1 hS1
  go_wp2_with fail
  generalize (w.alloc (.cells #[.int .i64 x.indent, .slice ra x.rules.length rc, .slice ca x.chunks.length cc, .slice sa x.spans.length sc, .slice ta x.ties.length tc] 29)).alloc (.cells #[.int .i64 rule, .int .i64 fro, .bool space, .int .i64 nest] 54) = w1 at *
  have wl : IntKind.i64.wrap ((x.rules.length : Int) - 1) = (x.rules.length : Int) - 1 := IntWalk.i64_in _ (by omega)
  cases g1 : inR rule 0 ((x.rules.length : Int) - 1) with
  | false =>
    have HF := Lib.hid (show splitOk x.rules ⟨rule, fro, space, nest⟩ = false by simp [splitOk, g1])
    refine wp_region_held_drew (S := fun w' => w' = w1.drew) (by kernel_rfl) ?_ (fun hHeld => ?_)
    · exact rfl
    refine wpAnyH_take (i := 0) (v := ?v1) (at_op rfl) (by kernel_rfl) (by kernel_rfl) (by kernel_rfl) (fun _ _ _ h => h) (Or.inl ⟨by rfl, ?y1⟩) (by assumption) ?r1
    case y1 =>
      intro wx hSx
      subst hSx
      go_simp
      try with_reducible rfl
    try simp only [Act.put, List.setIfInBounds_toArray, List.set_cons_zero, List.set_cons_succ]
    refine wpAnyH_take (i := 1) (v := ?v2) (at_op rfl) (by kernel_rfl) (by kernel_rfl) (by kernel_rfl) (fun _ _ _ h => h) (Or.inl ⟨by rfl, ?y2⟩) (by assumption) ?r2
    case y2 =>
      intro wx hSx
      subst hSx
      go_simp
      try with_reducible rfl
    try simp only [Act.put, List.setIfInBounds_toArray, List.set_cons_zero, List.set_cons_succ]
    refine wpAnyH_take (i := 2) (v := ?v3) (at_op rfl) (by kernel_rfl) (by kernel_rfl) (by kernel_rfl) (fun _ _ _ h => h) (Or.inl ⟨by rfl, ?y3⟩) (by assumption) ?r3
    case y3 =>
      intro wx hSx
      subst hSx
      go_simp
      try with_reducible rfl
    try simp only [Act.put, List.setIfInBounds_toArray, List.set_cons_zero, List.set_cons_succ]
    refine wpAnyH_take (i := 3) (v := ?v4) (at_op rfl) (by kernel_rfl) (by kernel_rfl) (by kernel_rfl) (fun _ _ _ h => h) (Or.inl ⟨by rfl, ?y4⟩) (by assumption) ?r4
    case y4 =>
      intro wx hSx
      subst hSx
      go_simp
      try with_reducible rfl
    try simp only [Act.put, List.setIfInBounds_toArray, List.set_cons_zero, List.set_cons_succ]
    refine wpAnyH_take (i := 4) (v := ?v5) (at_op rfl) (by kernel_rfl) (by kernel_rfl) (by kernel_rfl) (fun _ _ _ h => h) (Or.inl ⟨by rfl, ?y5⟩) (by assumption) ?r5
    case y5 =>
      intro wx hSx
      subst hSx
      go_simp
      try with_reducible rfl
    try simp only [Act.put, List.setIfInBounds_toArray, List.set_cons_zero, List.set_cons_succ]
    refine wpAnyH_take (i := 5) (v := ?v6) (at_op rfl) (by kernel_rfl) (by kernel_rfl) (by kernel_rfl) (fun _ _ _ h => h) (Or.inl ⟨by rfl, ?y6⟩) (by assumption) ?r6
    case y6 =>
      intro wx hSx
      subst hSx
      go_simp
      try with_reducible rfl
    try simp only [Act.put, List.setIfInBounds_toArray, List.set_cons_zero, List.set_cons_succ]
    refine wpAnyH_ready (rs := [6]) (by kernel_rfl) (by simp) ?_
    refine AllReadyH.cons (at_op rfl) (fun K hK => ?_) AllReadyH.nil
    go_simp
    refine (l01In_any _ _ _ _).mono ?_
    rintro e w' ⟨rfl, rfl⟩
    rw [g1]
    go_wp2_with fail
    refine hK.out _ _ rfl (fun _ => ?_)
    clear hK K
    try simp only [Act.put, List.setIfInBounds_toArray, List.set_cons_zero, List.set_cons_succ]
    refine wpAnyH_take (i := 7) (v := ?v7) (at_op rfl) (by kernel_rfl) (by kernel_rfl) (by kernel_rfl) (fun _ _ _ h => h) (Or.inl ⟨by rfl, ?y7⟩) (by assumption) ?r7
    case y7 =>
      intro wx hSx
      subst hSx
      go_simp
      try with_reducible rfl
    try simp only [Act.put, List.setIfInBounds_toArray, List.set_cons_zero, List.set_cons_succ]
    refine wpAnyH_take (i := 8) (v := undef) (at_op rfl) (by kernel_rfl) (by kernel_rfl) (by kernel_rfl) (fun _ _ _ h => h) (Or.inr ⟨by rfl, rfl⟩) (by assumption) ?_
    try simp only [Act.put, List.setIfInBounds_toArray, List.set_cons_zero, List.set_cons_succ]
    refine wpAnyH_take (i := 9) (v := undef) (at_op rfl) (by kernel_rfl) (by kernel_rfl) (by kernel_rfl) (fun _ _ _ h => h) (Or.inr ⟨by rfl, rfl⟩) (by assumption) ?_
    try simp only [Act.put, List.setIfInBounds_toArray, List.set_cons_zero, List.set_cons_succ]
    refine wpAnyH_take (i := 10) (v := undef) (at_op rfl) (by kernel_rfl) (by kernel_rfl) (by kernel_rfl) (fun _ _ _ h => h) (Or.inr ⟨by rfl, rfl⟩) (by assumption) ?_
    try simp only [Act.put, List.setIfInBounds_toArray, List.set_cons_zero, List.set_cons_succ]
    refine wpAnyH_take (i := 11) (v := undef) (at_op rfl) (by kernel_rfl) (by kernel_rfl) (by kernel_rfl) (fun _ _ _ h => h) (Or.inr ⟨by rfl, rfl⟩) (by assumption) ?_
    try simp only [Act.put, List.setIfInBounds_toArray, List.set_cons_zero, List.set_cons_succ]
    refine wpAnyH_take (i := 12) (v := undef) (at_op rfl) (by kernel_rfl) (by kernel_rfl) (by kernel_rfl) (fun _ _ _ h => h) (Or.inr ⟨by rfl, rfl⟩) (by assumption) ?_
    try simp only [Act.put, List.setIfInBounds_toArray, List.set_cons_zero, List.set_cons_succ]
    refine wpAnyH_take (i := 13) (v := undef) (at_op rfl) (by kernel_rfl) (by kernel_rfl) (by kernel_rfl) (fun _ _ _ h => h) (Or.inr ⟨by rfl, rfl⟩) (by assumption) ?_
    try simp only [Act.put, List.setIfInBounds_toArray, List.set_cons_zero, List.set_cons_succ]
    refine wpAnyH_take (i := 14) (v := undef) (at_op rfl) (by kernel_rfl) (by kernel_rfl) (by kernel_rfl) (fun _ _ _ h => h) (Or.inr ⟨by rfl, rfl⟩) (by assumption) ?_
    try simp only [Act.put, List.setIfInBounds_toArray, List.set_cons_zero, List.set_cons_succ]
    refine wpAnyH_take (i := 15) (v := undef) (at_op rfl) (by kernel_rfl) (by kernel_rfl) (by kernel_rfl) (fun _ _ _ h => h) (Or.inr ⟨by rfl, rfl⟩) (by assumption) ?_
    try simp only [Act.put, List.setIfInBounds_toArray, List.set_cons_zero, List.set_cons_succ]
    refine wpAnyH_take (i := 16) (v := undef) (at_op rfl) (by kernel_rfl) (by kernel_rfl) (by kernel_rfl) (fun _ _ _ h => h) (Or.inr ⟨by rfl, rfl⟩) (by assumption) ?_
    try simp only [Act.put, List.setIfInBounds_toArray, List.set_cons_zero, List.set_cons_succ]
    refine wpAnyH_take (i := 17) (v := undef) (at_op rfl) (by kernel_rfl) (by kernel_rfl) (by kernel_rfl) (fun _ _ _ h => h) (Or.inr ⟨by rfl, rfl⟩) (by assumption) ?_
    try simp only [Act.put, List.setIfInBounds_toArray, List.set_cons_zero, List.set_cons_succ]
    refine wpAnyH_take (i := 18) (v := undef) (at_op rfl) (by kernel_rfl) (by kernel_rfl) (by kernel_rfl) (fun _ _ _ h => h) (Or.inr ⟨by rfl, rfl⟩) (by assumption) ?_
    try simp only [Act.put, List.setIfInBounds_toArray, List.set_cons_zero, List.set_cons_succ]
    refine wpAnyH_take (i := 19) (v := ?v8) (at_op rfl) (by kernel_rfl) (by kernel_rfl) (by kernel_rfl) (fun _ _ _ h => h) (Or.inl ⟨by rfl, ?y8⟩) (by assumption) ?r8
    case y8 =>
      intro wx hSx
      subst hSx
      go_simp
      try with_reducible rfl
    try simp only [Act.put, List.setIfInBounds_toArray, List.set_cons_zero, List.set_cons_succ]
    refine wpAnyH_take (i := 20) (v := ?v9) (at_op rfl) (by kernel_rfl) (by kernel_rfl) (by kernel_rfl) (fun _ _ _ h => h) (Or.inl ⟨by rfl, ?y9⟩) (by assumption) ?r9
    case y9 =>
      intro wx hSx
      subst hSx
      go_simp
      try with_reducible rfl
    try simp only [Act.put, List.setIfInBounds_toArray, List.set_cons_zero, List.set_cons_succ]
    refine wpAnyH_take (i := 21) (v := undef) (at_op rfl) (by kernel_rfl) (by kernel_rfl) (by kernel_rfl) (fun _ _ _ h => h) (Or.inr ⟨by rfl, rfl⟩) (by assumption) ?_
    try simp only [Act.put, List.setIfInBounds_toArray, List.set_cons_zero, List.set_cons_succ]
    refine wpAnyH_take (i := 22) (v := undef) (at_op rfl) (by kernel_rfl) (by kernel_rfl) (by kernel_rfl) (fun _ _ _ h => h) (Or.inr ⟨by rfl, rfl⟩) (by assumption) ?_
    try simp only [Act.put, List.setIfInBounds_toArray, List.set_cons_zero, List.set_cons_succ]
    refine wpAnyH_take (i := 23) (v := undef) (at_op rfl) (by kernel_rfl) (by kernel_rfl) (by kernel_rfl) (fun _ _ _ h => h) (Or.inr ⟨by rfl, rfl⟩) (by assumption) ?_
    try simp only [Act.put, List.setIfInBounds_toArray, List.set_cons_zero, List.set_cons_succ]
    refine wpAnyH_take (i := 24) (v := ?v10) (at_op rfl) (by kernel_rfl) (by kernel_rfl) (by kernel_rfl) (fun _ _ _ h => h) (Or.inl ⟨by rfl, ?y10⟩) (by assumption) ?r10
    case y10 =>
      intro wx hSx
      subst hSx
      go_simp
      try with_reducible rfl
    try simp only [Act.put, List.setIfInBounds_toArray, List.set_cons_zero, List.set_cons_succ]
    refine wpAnyH_take (i := 25) (v := ?v11) (at_op rfl) (by kernel_rfl) (by kernel_rfl) (by kernel_rfl) (fun _ _ _ h => h) (Or.inl ⟨by rfl, ?y11⟩) (by assumption) ?r11
    case y11 =>
      intro wx hSx
      subst hSx
      go_simp
      try with_reducible rfl
    try simp only [Act.put, List.setIfInBounds_toArray, List.set_cons_zero, List.set_cons_succ]
    refine wpAnyH_done (by kernel_rfl) ?_ _
    go_wp2
    go_ret
    exact ⟨ret_bool HF.out.symm, by rw [← HB.out]; exact hb1.drew⟩
  | true =>
    obtain ⟨a1, a2⟩ := inR_of g1
    obtain ⟨rn, rfl⟩ := Int.eq_ofNat_of_zero_le a1
    have hlt : rn < x.rules.length := by omega
    obtain ⟨b, off, rfl, hlo, hhi, c0, c1⟩ := hr5 rn hlt
    have d0 := (hb1.cell (p := ⟨b, _, none⟩) (by show b < _; omega)).trans c0
    obtain ⟨v1, v2⟩ := hv rn hlt
    have HG : Hid (splitOk x.rules ⟨rn, fro, space, nest⟩ = (inR fro 1 (x.rules[rn].values - 1) && inR nest 0 40)) := by
      have e : x.rules.getD rn Rule.zero = x.rules[rn] := by simp [List.getD, hlt]
      simp only [Hid, splitOk, Int.toNat_natCast, e]
      simp [g1]
    have hrz : (0 : Int) ≤ (rn : Int) := by omega
    have hrl2 : (rn : Int) < (x.rules.length : Int) := by omega
    clear c0 c1 hr5
    generalize x.rules[rn] = r at *
    obtain ⟨values, cost⟩ := r
    simp only at d0 v1 v2 HG
    have wv : IntKind.i64.wrap (values - 1) = values - 1 := IntWalk.i64_in _ (by omega)
    cases g2 : inR fro 1 (values - 1) with
    | false =>
      have HF := Lib.hid (show splitOk x.rules ⟨rn, fro, space, nest⟩ = false by rw [HG.out, g2]; rfl)
      clear v1 v2 a1 a2
      refine wp_region_held_drew (S := fun w' => w' = w1.drew) (by kernel_rfl) ?_ (fun hHeld => ?_)
      · exact rfl
      refine wpAnyH_take (i := 0) (v := ?v12) (at_op rfl) (by kernel_rfl) (by kernel_rfl) (by kernel_rfl) (fun _ _ _ h => h) (Or.inl ⟨by rfl, ?y12⟩) (by assumption) ?r12
      case y12 =>
        intro wx hSx
        subst hSx
        go_simp
        try with_reducible rfl
      try simp only [Act.put, List.setIfInBounds_toArray, List.set_cons_zero, List.set_cons_succ]
      refine wpAnyH_take (i := 1) (v := ?v13) (at_op rfl) (by kernel_rfl) (by kernel_rfl) (by kernel_rfl) (fun _ _ _ h => h) (Or.inl ⟨by rfl, ?y13⟩) (by assumption) ?r13
      case y13 =>
        intro wx hSx
        subst hSx
        go_simp
        try with_reducible rfl
      try simp only [Act.put, List.setIfInBounds_toArray, List.set_cons_zero, List.set_cons_succ]
      refine wpAnyH_take (i := 2) (v := ?v14) (at_op rfl) (by kernel_rfl) (by kernel_rfl) (by kernel_rfl) (fun _ _ _ h => h) (Or.inl ⟨by rfl, ?y14⟩) (by assumption) ?r14
      case y14 =>
        intro wx hSx
        subst hSx
        go_simp
        try with_reducible rfl
      try simp only [Act.put, List.setIfInBounds_toArray, List.set_cons_zero, List.set_cons_succ]
      refine wpAnyH_take (i := 3) (v := ?v15) (at_op rfl) (by kernel_rfl) (by kernel_rfl) (by kernel_rfl) (fun _ _ _ h => h) (Or.inl ⟨by rfl, ?y15⟩) (by assumption) ?r15
      case y15 =>
        intro wx hSx
        subst hSx
        go_simp
        try with_reducible rfl
      try simp only [Act.put, List.setIfInBounds_toArray, List.set_cons_zero, List.set_cons_succ]
      refine wpAnyH_take (i := 4) (v := ?v16) (at_op rfl) (by kernel_rfl) (by kernel_rfl) (by kernel_rfl) (fun _ _ _ h => h) (Or.inl ⟨by rfl, ?y16⟩) (by assumption) ?r16
      case y16 =>
        intro wx hSx
        subst hSx
        go_simp
        try with_reducible rfl
      try simp only [Act.put, List.setIfInBounds_toArray, List.set_cons_zero, List.set_cons_succ]
      refine wpAnyH_take (i := 5) (v := ?v17) (at_op rfl) (by kernel_rfl) (by kernel_rfl) (by kernel_rfl) (fun _ _ _ h => h) (Or.inl ⟨by rfl, ?y17⟩) (by assumption) ?r17
      case y17 =>
        intro wx hSx
        subst hSx
        go_simp
        try with_reducible rfl
      try simp only [Act.put, List.setIfInBounds_toArray, List.set_cons_zero, List.set_cons_succ]
      refine wpAnyH_ready (rs := [6]) (by kernel_rfl) (by simp) ?_
      refine AllReadyH.cons (at_op rfl) (fun K hK => ?_) AllReadyH.nil
      go_simp
      refine (l01In_any _ _ _ _).mono ?_
      rintro e w' ⟨rfl, rfl⟩
      rw [g1]
      go_wp2_with fail
      refine hK.out _ _ rfl (fun _ => ?_)
      clear hK K
      try simp only [Act.put, List.setIfInBounds_toArray, List.set_cons_zero, List.set_cons_succ]
      refine wpAnyH_take (i := 7) (v := ?v18) (at_op rfl) (by kernel_rfl) (by kernel_rfl) (by kernel_rfl) (fun _ _ _ h => h) (Or.inl ⟨by rfl, ?y18⟩) (by assumption) ?r18
      case y18 =>
        intro wx hSx
        subst hSx
        go_simp
        try with_reducible rfl
      try simp only [Act.put, List.setIfInBounds_toArray, List.set_cons_zero, List.set_cons_succ]
      refine wpAnyH_take (i := 8) (v := ?v19) (at_op rfl) (by kernel_rfl) (by kernel_rfl) (by kernel_rfl) (fun _ _ _ h => h) (Or.inl ⟨by rfl, ?y19⟩) (by assumption) ?r19
      case y19 =>
        intro wx hSx
        subst hSx
        go_simp
        try with_reducible rfl
      try simp only [Act.put, List.setIfInBounds_toArray, List.set_cons_zero, List.set_cons_succ]
      refine wpAnyH_take (i := 9) (v := ?v20) (at_op rfl) (by kernel_rfl) (by kernel_rfl) (by kernel_rfl) (fun _ _ _ h => h) (Or.inl ⟨by rfl, ?y20⟩) (by assumption) ?r20
      case y20 =>
        intro wx hSx
        subst hSx
        go_simp
        try with_reducible rfl
      try simp only [Act.put, List.setIfInBounds_toArray, List.set_cons_zero, List.set_cons_succ]
      refine wpAnyH_take (i := 10) (v := ?v21) (at_op rfl) (by kernel_rfl) (by kernel_rfl) (by kernel_rfl) (fun _ _ _ h => h) (Or.inl ⟨by rfl, ?y21⟩) (by assumption) ?r21
      case y21 =>
        intro wx hSx
        subst hSx
        go_simp
        try with_reducible rfl
      try simp only [Act.put, List.setIfInBounds_toArray, List.set_cons_zero, List.set_cons_succ]
      refine wpAnyH_take (i := 11) (v := ?v22) (at_op rfl) (by kernel_rfl) (by kernel_rfl) (by kernel_rfl) (fun _ _ _ h => h) (Or.inl ⟨by rfl, ?y22⟩) (by assumption) ?r22
      case y22 =>
        intro wx hSx
        subst hSx
        go_simp
        try with_reducible rfl
      try simp only [Act.put, List.setIfInBounds_toArray, List.set_cons_zero, List.set_cons_succ]
      refine wpAnyH_take (i := 12) (v := ?v23) (at_op rfl) (by kernel_rfl) (by kernel_rfl) (by kernel_rfl) (fun _ _ _ h => h) (Or.inl ⟨by rfl, ?y23⟩) (by assumption) ?r23
      case y23 =>
        intro wx hSx
        subst hSx
        go_simp
        try with_reducible rfl
      try simp only [Act.put, List.setIfInBounds_toArray, List.set_cons_zero, List.set_cons_succ]
      refine wpAnyH_take (i := 13) (v := ?v24) (at_op rfl) (by kernel_rfl) (by kernel_rfl) (by kernel_rfl) (fun _ _ _ h => h) (Or.inl ⟨by rfl, ?y24⟩) (by assumption) ?r24
      case y24 =>
        intro wx hSx
        subst hSx
        go_simp
        try with_reducible rfl
      try simp only [Act.put, List.setIfInBounds_toArray, List.set_cons_zero, List.set_cons_succ]
      refine wpAnyH_take (i := 14) (v := ?v25) (at_op rfl) (by kernel_rfl) (by kernel_rfl) (by kernel_rfl) (fun _ _ _ h => h) (Or.inl ⟨by rfl, ?y25⟩) (by assumption) ?r25
      case y25 =>
        intro wx hSx
        subst hSx
        go_simp
        try with_reducible rfl
      try simp only [Act.put, List.setIfInBounds_toArray, List.set_cons_zero, List.set_cons_succ]
      refine wpAnyH_take (i := 15) (v := ?v26) (at_op rfl) (by kernel_rfl) (by kernel_rfl) (by kernel_rfl) (fun _ _ _ h => h) (Or.inl ⟨by rfl, ?y26⟩) (by assumption) ?r26
      case y26 =>
        intro wx hSx
        subst hSx
        go_simp
        try with_reducible rfl
      try simp only [Act.put, List.setIfInBounds_toArray, List.set_cons_zero, List.set_cons_succ]
      refine wpAnyH_take (i := 16) (v := ?v27) (at_op rfl) (by kernel_rfl) (by kernel_rfl) (by kernel_rfl) (fun _ _ _ h => h) (Or.inl ⟨by rfl, ?y27⟩) (by assumption) ?r27
      case y27 =>
        intro wx hSx
        subst hSx
        go_simp
        try with_reducible rfl
      try simp only [Act.put, List.setIfInBounds_toArray, List.set_cons_zero, List.set_cons_succ]
      refine wpAnyH_take (i := 17) (v := ?v28) (at_op rfl) (by kernel_rfl) (by kernel_rfl) (by kernel_rfl) (fun _ _ _ h => h) (Or.inl ⟨by rfl, ?y28⟩) (by assumption) ?r28
      case y28 =>
        intro wx hSx
        subst hSx
        go_simp
        try with_reducible rfl
      try simp only [Act.put, List.setIfInBounds_toArray, List.set_cons_zero, List.set_cons_succ]
      refine wpAnyH_ready (rs := [18]) (by kernel_rfl) (by simp) ?_
      refine AllReadyH.cons (at_op rfl) (fun K hK => ?_) AllReadyH.nil
      go_simp
      refine (l01In_any _ _ _ _).mono ?_
      rintro e w' ⟨rfl, rfl⟩
      rw [g2]
      go_wp2_with fail
      refine hK.out _ _ rfl (fun _ => ?_)
      clear hK K
      try simp only [Act.put, List.setIfInBounds_toArray, List.set_cons_zero, List.set_cons_succ]
      refine wpAnyH_take (i := 19) (v := ?v29) (at_op rfl) (by kernel_rfl) (by kernel_rfl) (by kernel_rfl) (fun _ _ _ h => h) (Or.inl ⟨by rfl, ?y29⟩) (by assumption) ?r29
      case y29 =>
        intro wx hSx
        subst hSx
        go_simp
        try with_reducible rfl
      try simp only [Act.put, List.setIfInBounds_toArray, List.set_cons_zero, List.set_cons_succ]
      refine wpAnyH_take (i := 20) (v := ?v30) (at_op rfl) (by kernel_rfl) (by kernel_rfl) (by kernel_rfl) (fun _ _ _ h => h) (Or.inl ⟨by rfl, ?y30⟩) (by assumption) ?r30
      case y30 =>
        intro wx hSx
        subst hSx
        go_simp
        try with_reducible rfl
      try simp only [Act.put, List.setIfInBounds_toArray, List.set_cons_zero, List.set_cons_succ]
      refine wpAnyH_take (i := 21) (v := undef) (at_op rfl) (by kernel_rfl) (by kernel_rfl) (by kernel_rfl) (fun _ _ _ h => h) (Or.inr ⟨by rfl, rfl⟩) (by assumption) ?_
      try simp only [Act.put, List.setIfInBounds_toArray, List.set_cons_zero, List.set_cons_succ]
      refine wpAnyH_take (i := 22) (v := undef) (at_op rfl) (by kernel_rfl) (by kernel_rfl) (by kernel_rfl) (fun _ _ _ h => h) (Or.inr ⟨by rfl, rfl⟩) (by assumption) ?_
      try simp only [Act.put, List.setIfInBounds_toArray, List.set_cons_zero, List.set_cons_succ]
      refine wpAnyH_take (i := 23) (v := undef) (at_op rfl) (by kernel_rfl) (by kernel_rfl) (by kernel_rfl) (fun _ _ _ h => h) (Or.inr ⟨by rfl, rfl⟩) (by assumption) ?_
      try simp only [Act.put, List.setIfInBounds_toArray, List.set_cons_zero, List.set_cons_succ]
      refine wpAnyH_take (i := 24) (v := ?v31) (at_op rfl) (by kernel_rfl) (by kernel_rfl) (by kernel_rfl) (fun _ _ _ h => h) (Or.inl ⟨by rfl, ?y31⟩) (by assumption) ?r31
      case y31 =>
        intro wx hSx
        subst hSx
        go_simp
        try with_reducible rfl
      try simp only [Act.put, List.setIfInBounds_toArray, List.set_cons_zero, List.set_cons_succ]
      refine wpAnyH_take (i := 25) (v := ?v32) (at_op rfl) (by kernel_rfl) (by kernel_rfl) (by kernel_rfl) (fun _ _ _ h => h) (Or.inl ⟨by rfl, ?y32⟩) (by assumption) ?r32
      case y32 =>
        intro wx hSx
        subst hSx
        go_simp
        try with_reducible rfl
      try simp only [Act.put, List.setIfInBounds_toArray, List.set_cons_zero, List.set_cons_succ]
      refine wpAnyH_done (by kernel_rfl) ?_ _
      go_wp2
      go_ret
      exact ⟨ret_bool HF.out.symm, by rw [← HB.out]; exact hb1.drew⟩
    | true =>
      have HF := Lib.hid (show splitOk x.rules ⟨rn, fro, space, nest⟩ = inR nest 0 40 by rw [HG.out, g2]; rfl)
      clear v1 v2 a1 a2
      refine wp_region_held_drew (S := fun w' => w' = w1.drew) (by kernel_rfl) ?_ (fun hHeld => ?_)
      · exact rfl
      refine wpAnyH_take (i := 0) (v := ?v33) (at_op rfl) (by kernel_rfl) (by kernel_rfl) (by kernel_rfl) (fun _ _ _ h => h) (Or.inl ⟨by rfl, ?y33⟩) (by assumption) ?r33
      case y33 =>
        intro wx hSx
        subst hSx
        go_simp
        try with_reducible rfl
      try simp only [Act.put, List.setIfInBounds_toArray, List.set_cons_zero, List.set_cons_succ]
      refine wpAnyH_take (i := 1) (v := ?v34) (at_op rfl) (by kernel_rfl) (by kernel_rfl) (by kernel_rfl) (fun _ _ _ h => h) (Or.inl ⟨by rfl, ?y34⟩) (by assumption) ?r34
      case y34 =>
        intro wx hSx
        subst hSx
        go_simp
        try with_reducible rfl
      try simp only [Act.put, List.setIfInBounds_toArray, List.set_cons_zero, List.set_cons_succ]
      refine wpAnyH_take (i := 2) (v := ?v35) (at_op rfl) (by kernel_rfl) (by kernel_rfl) (by kernel_rfl) (fun _ _ _ h => h) (Or.inl ⟨by rfl, ?y35⟩) (by assumption) ?r35
      case y35 =>
        intro wx hSx
        subst hSx
        go_simp
        try with_reducible rfl
      try simp only [Act.put, List.setIfInBounds_toArray, List.set_cons_zero, List.set_cons_succ]
      refine wpAnyH_take (i := 3) (v := ?v36) (at_op rfl) (by kernel_rfl) (by kernel_rfl) (by kernel_rfl) (fun _ _ _ h => h) (Or.inl ⟨by rfl, ?y36⟩) (by assumption) ?r36
      case y36 =>
        intro wx hSx
        subst hSx
        go_simp
        try with_reducible rfl
      try simp only [Act.put, List.setIfInBounds_toArray, List.set_cons_zero, List.set_cons_succ]
      refine wpAnyH_take (i := 4) (v := ?v37) (at_op rfl) (by kernel_rfl) (by kernel_rfl) (by kernel_rfl) (fun _ _ _ h => h) (Or.inl ⟨by rfl, ?y37⟩) (by assumption) ?r37
      case y37 =>
        intro wx hSx
        subst hSx
        go_simp
        try with_reducible rfl
      try simp only [Act.put, List.setIfInBounds_toArray, List.set_cons_zero, List.set_cons_succ]
      refine wpAnyH_take (i := 5) (v := ?v38) (at_op rfl) (by kernel_rfl) (by kernel_rfl) (by kernel_rfl) (fun _ _ _ h => h) (Or.inl ⟨by rfl, ?y38⟩) (by assumption) ?r38
      case y38 =>
        intro wx hSx
        subst hSx
        go_simp
        try with_reducible rfl
      try simp only [Act.put, List.setIfInBounds_toArray, List.set_cons_zero, List.set_cons_succ]
      refine wpAnyH_ready (rs := [6]) (by kernel_rfl) (by simp) ?_
      refine AllReadyH.cons (at_op rfl) (fun K hK => ?_) AllReadyH.nil
      go_simp
      refine (l01In_any _ _ _ _).mono ?_
      rintro e w' ⟨rfl, rfl⟩
      rw [g1]
      go_wp2_with fail
      refine hK.out _ _ rfl (fun _ => ?_)
      clear hK K
      try simp only [Act.put, List.setIfInBounds_toArray, List.set_cons_zero, List.set_cons_succ]
      refine wpAnyH_take (i := 7) (v := ?v39) (at_op rfl) (by kernel_rfl) (by kernel_rfl) (by kernel_rfl) (fun _ _ _ h => h) (Or.inl ⟨by rfl, ?y39⟩) (by assumption) ?r39
      case y39 =>
        intro wx hSx
        subst hSx
        go_simp
        try with_reducible rfl
      try simp only [Act.put, List.setIfInBounds_toArray, List.set_cons_zero, List.set_cons_succ]
      refine wpAnyH_take (i := 8) (v := ?v40) (at_op rfl) (by kernel_rfl) (by kernel_rfl) (by kernel_rfl) (fun _ _ _ h => h) (Or.inl ⟨by rfl, ?y40⟩) (by assumption) ?r40
      case y40 =>
        intro wx hSx
        subst hSx
        go_simp
        try with_reducible rfl
      try simp only [Act.put, List.setIfInBounds_toArray, List.set_cons_zero, List.set_cons_succ]
      refine wpAnyH_take (i := 9) (v := ?v41) (at_op rfl) (by kernel_rfl) (by kernel_rfl) (by kernel_rfl) (fun _ _ _ h => h) (Or.inl ⟨by rfl, ?y41⟩) (by assumption) ?r41
      case y41 =>
        intro wx hSx
        subst hSx
        go_simp
        try with_reducible rfl
      try simp only [Act.put, List.setIfInBounds_toArray, List.set_cons_zero, List.set_cons_succ]
      refine wpAnyH_take (i := 10) (v := ?v42) (at_op rfl) (by kernel_rfl) (by kernel_rfl) (by kernel_rfl) (fun _ _ _ h => h) (Or.inl ⟨by rfl, ?y42⟩) (by assumption) ?r42
      case y42 =>
        intro wx hSx
        subst hSx
        go_simp
        try with_reducible rfl
      try simp only [Act.put, List.setIfInBounds_toArray, List.set_cons_zero, List.set_cons_succ]
      refine wpAnyH_take (i := 11) (v := ?v43) (at_op rfl) (by kernel_rfl) (by kernel_rfl) (by kernel_rfl) (fun _ _ _ h => h) (Or.inl ⟨by rfl, ?y43⟩) (by assumption) ?r43
      case y43 =>
        intro wx hSx
        subst hSx
        go_simp
        try with_reducible rfl
      try simp only [Act.put, List.setIfInBounds_toArray, List.set_cons_zero, List.set_cons_succ]
      refine wpAnyH_take (i := 12) (v := ?v44) (at_op rfl) (by kernel_rfl) (by kernel_rfl) (by kernel_rfl) (fun _ _ _ h => h) (Or.inl ⟨by rfl, ?y44⟩) (by assumption) ?r44
      case y44 =>
        intro wx hSx
        subst hSx
        go_simp
        try with_reducible rfl
      try simp only [Act.put, List.setIfInBounds_toArray, List.set_cons_zero, List.set_cons_succ]
      refine wpAnyH_take (i := 13) (v := ?v45) (at_op rfl) (by kernel_rfl) (by kernel_rfl) (by kernel_rfl) (fun _ _ _ h => h) (Or.inl ⟨by rfl, ?y45⟩) (by assumption) ?r45
      case y45 =>
        intro wx hSx
        subst hSx
        go_simp
        try with_reducible rfl
      try simp only [Act.put, List.setIfInBounds_toArray, List.set_cons_zero, List.set_cons_succ]
      refine wpAnyH_take (i := 14) (v := ?v46) (at_op rfl) (by kernel_rfl) (by kernel_rfl) (by kernel_rfl) (fun _ _ _ h => h) (Or.inl ⟨by rfl, ?y46⟩) (by assumption) ?r46
      case y46 =>
        intro wx hSx
        subst hSx
        go_simp
        try with_reducible rfl
      try simp only [Act.put, List.setIfInBounds_toArray, List.set_cons_zero, List.set_cons_succ]
      refine wpAnyH_take (i := 15) (v := ?v47) (at_op rfl) (by kernel_rfl) (by kernel_rfl) (by kernel_rfl) (fun _ _ _ h => h) (Or.inl ⟨by rfl, ?y47⟩) (by assumption) ?r47
      case y47 =>
        intro wx hSx
        subst hSx
        go_simp
        try with_reducible rfl
      try simp only [Act.put, List.setIfInBounds_toArray, List.set_cons_zero, List.set_cons_succ]
      refine wpAnyH_take (i := 16) (v := ?v48) (at_op rfl) (by kernel_rfl) (by kernel_rfl) (by kernel_rfl) (fun _ _ _ h => h) (Or.inl ⟨by rfl, ?y48⟩) (by assumption) ?r48
      case y48 =>
        intro wx hSx
        subst hSx
        go_simp
        try with_reducible rfl
      try simp only [Act.put, List.setIfInBounds_toArray, List.set_cons_zero, List.set_cons_succ]
      refine wpAnyH_take (i := 17) (v := ?v49) (at_op rfl) (by kernel_rfl) (by kernel_rfl) (by kernel_rfl) (fun _ _ _ h => h) (Or.inl ⟨by rfl, ?y49⟩) (by assumption) ?r49
      case y49 =>
        intro wx hSx
        subst hSx
        go_simp
        try with_reducible rfl
      try simp only [Act.put, List.setIfInBounds_toArray, List.set_cons_zero, List.set_cons_succ]
      refine wpAnyH_ready (rs := [18]) (by kernel_rfl) (by simp) ?_
      refine AllReadyH.cons (at_op rfl) (fun K hK => ?_) AllReadyH.nil
      go_simp
      refine (l01In_any _ _ _ _).mono ?_
      rintro e w' ⟨rfl, rfl⟩
      rw [g2]
      go_wp2_with fail
      refine hK.out _ _ rfl (fun _ => ?_)
      clear hK K
      try simp only [Act.put, List.setIfInBounds_toArray, List.set_cons_zero, List.set_cons_succ]
      refine wpAnyH_take (i := 19) (v := ?v50) (at_op rfl) (by kernel_rfl) (by kernel_rfl) (by kernel_rfl) (fun _ _ _ h => h) (Or.inl ⟨by rfl, ?y50⟩) (by assumption) ?r50
      case y50 =>
        intro wx hSx
        subst hSx
        go_simp
        try with_reducible rfl
      try simp only [Act.put, List.setIfInBounds_toArray, List.set_cons_zero, List.set_cons_succ]
      refine wpAnyH_take (i := 20) (v := ?v51) (at_op rfl) (by kernel_rfl) (by kernel_rfl) (by kernel_rfl) (fun _ _ _ h => h) (Or.inl ⟨by rfl, ?y51⟩) (by assumption) ?r51
      case y51 =>
        intro wx hSx
        subst hSx
        go_simp
        try with_reducible rfl
      try simp only [Act.put, List.setIfInBounds_toArray, List.set_cons_zero, List.set_cons_succ]
      refine wpAnyH_take (i := 21) (v := ?v52) (at_op rfl) (by kernel_rfl) (by kernel_rfl) (by kernel_rfl) (fun _ _ _ h => h) (Or.inl ⟨by rfl, ?y52⟩) (by assumption) ?r52
      case y52 =>
        intro wx hSx
        subst hSx
        go_simp
        try with_reducible rfl
      try simp only [Act.put, List.setIfInBounds_toArray, List.set_cons_zero, List.set_cons_succ]
      refine wpAnyH_take (i := 22) (v := ?v53) (at_op rfl) (by kernel_rfl) (by kernel_rfl) (by kernel_rfl) (fun _ _ _ h => h) (Or.inl ⟨by rfl, ?y53⟩) (by assumption) ?r53
      case y53 =>
        intro wx hSx
        subst hSx
        go_simp
        try with_reducible rfl
      try simp only [Act.put, List.setIfInBounds_toArray, List.set_cons_zero, List.set_cons_succ]
      refine wpAnyH_ready (rs := [23]) (by kernel_rfl) (by simp) ?_
      refine AllReadyH.cons (at_op rfl) (fun K hK => ?_) AllReadyH.nil
      go_simp
      refine (l01In_any _ _ _ _).mono ?_
      rintro e w' ⟨rfl, rfl⟩
      go_wp2_with fail
      refine hK.out _ _ rfl (fun _ => ?_)
      clear hK K
      try simp only [Act.put, List.setIfInBounds_toArray, List.set_cons_zero, List.set_cons_succ]
      refine wpAnyH_take (i := 24) (v := ?v54) (at_op rfl) (by kernel_rfl) (by kernel_rfl) (by kernel_rfl) (fun _ _ _ h => h) (Or.inl ⟨by rfl, ?y54⟩) (by assumption) ?r54
      case y54 =>
        intro wx hSx
        subst hSx
        go_simp
        try with_reducible rfl
      try simp only [Act.put, List.setIfInBounds_toArray, List.set_cons_zero, List.set_cons_succ]
      refine wpAnyH_take (i := 25) (v := ?v55) (at_op rfl) (by kernel_rfl) (by kernel_rfl) (by kernel_rfl) (fun _ _ _ h => h) (Or.inl ⟨by rfl, ?y55⟩) (by assumption) ?r55
      case y55 =>
        intro wx hSx
        subst hSx
        go_simp
        try with_reducible rfl
      try simp only [Act.put, List.setIfInBounds_toArray, List.set_cons_zero, List.set_cons_succ]
      refine wpAnyH_done (by kernel_rfl) ?_ _
      go_wp2
      go_ret
      exact ⟨ret_bool HF.out.symm, by rw [← HB.out]; exact hb1.drew⟩
set_option maxHeartbeats 3000000 in
set_option maxRecDepth 100000 in
theorem pieceOk_spec (x : Piece) (ra ca sa ta : Option Addr) (rc cc sc tc : Nat) (lo hi : Nat) (w : World) (hp : PFour x ra rc ca cc sa sc ta tc lo hi w) (hh : hi ≤ w.heap.size) (hT : ∀ c ∈ x.chunks, c.text.size ≤ maxLen) :
    Calls Try.prog 58 #[x.v ra rc ca cc sa sc ta tc] w fun e w' => e = .returned (.bool (pieceOk x)) ∧ Below w.heap.size w w' := by
  have hp0 := hp
  obtain ⟨hr, hc, hsp, ht⟩ := hp
  obtain ⟨hrl, hr5⟩ := at_rule hr
  obtain ⟨hcl, hc5⟩ := at_chunk hc
  obtain ⟨hspl, hsp5⟩ := at_span hsp
  obtain ⟨htl, ht5⟩ := at_tie ht
  obtain ⟨B, HB⟩ : ∃ B, Hid (B = w.heap.size) := ⟨_, rfl⟩
  have hBw : B ≤ w.heap.size := Nat.le_of_eq HB.out
  have hBw' : w.heap.size ≤ B := Nat.le_of_eq HB.out.symm
  unfold Piece.v
  go_enter Try.func58, Try.ntmps58
  go_wp2_with fail
  have hX0 := PBox.new x ra ca sa ta rc cc sc tc w
  have hb0 : Below B w (w.alloc (.cells #[.int .i64 x.indent, .slice ra x.rules.length rc, .slice ca x.chunks.length cc, .slice sa x.spans.length sc, .slice ta x.ties.length tc] 29)) := (Below.refl _ _).alloc hBw _
  generalize w.alloc (.cells #[.int .i64 x.indent, .slice ra x.rules.length rc, .slice ca x.chunks.length cc, .slice sa x.spans.length sc, .slice ta x.ties.length tc] 29) = w0 at *
  have hl0 := hX0.lt
  obtain ⟨p0, p1, p2, p3, p4⟩ := hX0.five
  refine (l01In_any _ _ _ _).mono ?_
  rintro e w' ⟨rfl, rfl⟩
  cases g1 : inR x.indent 0 60 with
  | false =>
    have HF := Lib.hid (show pieceOk x = false by simp [pieceOk, g1])
    go_wp2
    go_ret
    exact ⟨ret_bool HF.out.symm, by rw [← HB.out]; exact hb0⟩
  | true =>
  by_cases g2 : (8 : Int) < (x.rules.length : Int)
  · have g2' : ¬ x.rules.length ≤ 8 := by omega
    have HF := Lib.hid (show pieceOk x = false by simp [pieceOk, g2'])
    go_wp2
    go_ret
    exact ⟨ret_bool HF.out.symm, by rw [← HB.out]; exact hb0⟩
  have g2d : decide ((8 : Int) < (x.rules.length : Int)) = false := decide_eq_false g2
  have g2' : x.rules.length ≤ 8 := by omega
  go_wp2_with fail
  refine (l01In_any _ _ _ _).mono ?_
  rintro e w' ⟨rfl, rfl⟩
  cases g3 : inR (x.chunks.length : Int) 1 80 with
  | false =>
    have HF := Lib.hid (show pieceOk x = false by simp [pieceOk, chunksOk, g3])
    go_wp2
    go_ret
    exact ⟨ret_bool HF.out.symm, by rw [← HB.out]; exact hb0⟩
  | true =>
  have hn := inR_of g3
  by_cases g4 : (40 : Int) < (x.spans.length : Int)
  · have g4' : ¬ x.spans.length ≤ 40 := by omega
    have HF := Lib.hid (show pieceOk x = false by simp [pieceOk, g4'])
    go_wp2
    go_ret
    exact ⟨ret_bool HF.out.symm, by rw [← HB.out]; exact hb0⟩
  by_cases g5 : (20 : Int) < (x.ties.length : Int)
  · have g5' : ¬ x.ties.length ≤ 20 := by omega
    have g4d : decide ((40 : Int) < (x.spans.length : Int)) = false := decide_eq_false g4
    have HF := Lib.hid (show pieceOk x = false by simp [pieceOk, g5'])
    go_wp2
    go_ret
    exact ⟨ret_bool HF.out.symm, by rw [← HB.out]; exact hb0⟩
  have g4d : decide ((40 : Int) < (x.spans.length : Int)) = false := decide_eq_false g4
  have g5d : decide ((20 : Int) < (x.ties.length : Int)) = false := decide_eq_false g5
  have g4' : x.spans.length ≤ 40 := by omega
  have g5' : x.ties.length ≤ 20 := by omega
  have HP := Lib.hid (show pieceOk x = (x.rules.all ruleOk && ((List.range x.chunks.length).all (chunkOk x.rules x.chunks) && lastOk x.chunks) && x.spans.all (spanOk x.chunks.length) && x.ties.all (tieOk x.rules.length)) by simp [pieceOk, chunksOk, g1, g2', g3, g4', g5'])
  have G3 := Lib.hid g3
  clear g1 g2' g3 g4' g5'
  go_wp2
  go_loopw [4] (fun i wr => ∃ k : Nat, k ≤ x.rules.length ∧ i = .int .i64 k ∧ Hid ((x.rules.take k).all ruleOk = true) ∧ Below B w wr ∧ PBox x ra rc ca cc sa sc ta tc w.heap.size wr) (fun i _ => x.rules.length - (intOf i).toNat)
  case atStart => exact ⟨0, Nat.zero_le _, rfl, rfl, hb0, hX0⟩
  case round =>
    obtain ⟨k, hk, rfl, HA, hb, hX⟩ := hrel
    have hsz := hb.size
    have hxl := hX.lt
    obtain ⟨p0, p1, p2, p3, p4⟩ := hX.five
    by_cases hlt : k < x.rules.length
    · have hki : (k : Int) < (x.rules.length : Int) := by omega
      have hkz : (0 : Int) ≤ (k : Int) := by omega
      obtain ⟨b, off, rfl, hlo, hhi, c0, c1⟩ := hr5 k hlt
      have d0 := (hb.cell (p := ⟨b, _, none⟩) (by show b < _; omega)).trans c0
      have d1 := (hb.cell (p := ⟨b, _, none⟩) (by show b < _; omega)).trans c1
      have HT := Lib.hid (List.take_succ_eq_append_getElem hlt)
      have HN := Lib.hid (fun h : ruleOk x.rules[k] = false => (allp_no hlt h : x.rules.all (ruleOk) = false))
      clear c0 c1
      generalize x.rules[k] = r at *
      obtain ⟨values, cost⟩ := r
      simp only at d0 d1
      cases f1 : inR values 2 3 with
      | false =>
        have HF := Lib.hid (show pieceOk x = false by rw [HP.out, HN.out (by simp [ruleOk, f1])]; rfl)
        go_wp2_with (first | (go_at_call 57; refine (l01In_any _ _ _ _).mono ?_; rintro e w' ⟨rfl, rfl⟩) | fail)
        go_ret
        exact ⟨ret_bool HF.out.symm, by rw [← HB.out]; exact hb⟩
      | true =>
        cases f2 : inR cost 0 9 with
        | false =>
          have HF := Lib.hid (show pieceOk x = false by rw [HP.out, HN.out (by simp [ruleOk, f1, f2])]; rfl)
          go_wp2_with (first | (go_at_call 57; refine (l01In_any _ _ _ _).mono ?_; rintro e w' ⟨rfl, rfl⟩) | fail)
          go_ret
          exact ⟨ret_bool HF.out.symm, by rw [← HB.out]; exact hb⟩
        | true =>
          have HF := Lib.hid (show ruleOk ⟨values, cost⟩ = true by simp [ruleOk, f1, f2])
          go_wp2_with (first | (go_at_call 57; refine (l01In_any _ _ _ _).mono ?_; rintro e w' ⟨rfl, rfl⟩) | fail)
          go_roundw
          case rel => exact ⟨k + 1, by omega, by go_num, allp_succ HT.out HA.out HF.out, hb, hX⟩
          case measure => simp [intOf]; omega
    · have hki : ¬ (k : Int) < (x.rules.length : Int) := by omega
      have HR : Hid (x.rules.all ruleOk = true) := by have e := HA.out; rw [List.take_of_length_le (by omega)] at e; exact e
      have hv : ∀ i (h : i < x.rules.length), 2 ≤ x.rules[i].values ∧ x.rules[i].values ≤ 3 := fun i h => by
        have := List.all_eq_true.1 HR.out _ (List.getElem_mem h)
        simp only [ruleOk, Bool.and_eq_true] at this
        exact inR_of this.1
      have HQ := Lib.hid (show pieceOk x = (((List.range x.chunks.length).all (chunkOk x.rules x.chunks) && lastOk x.chunks) && x.spans.all (spanOk x.chunks.length) && x.ties.all (tieOk x.rules.length)) by rw [HP.out, HR.out]; simp)
      clear HA hr5
      go_wp2
      go_loopw [5] (fun i wr => ∃ k : Nat, k ≤ x.chunks.length ∧ i = .int .i64 k ∧ Hid ((List.range k).all (chunkOk x.rules x.chunks) = true) ∧ Below B w wr ∧ PBox x ra rc ca cc sa sc ta tc w.heap.size wr) (fun i _ => x.chunks.length - (intOf i).toNat)
      case atStart => exact ⟨0, Nat.zero_le _, rfl, rfl, hb, hX⟩
      case round =>
        obtain ⟨k, hk, rfl, HA, hb, hX⟩ := hrel
        have hsz := hb.size
        have hxl := hX.lt
        obtain ⟨p0, p1, p2, p3, p4⟩ := hX.five
        by_cases hlt : k < x.chunks.length
        · have hki : (k : Int) < (x.chunks.length : Int) := by omega
          have hkz : (0 : Int) ≤ (k : Int) := by omega
          obtain ⟨b, off, rfl, hlo, hhi, c0, c1, c2, c3, c4⟩ := hc5 k hlt
          have HN := Lib.hid (fun h : chunkOk x.rules x.chunks k = false => (range_all_no hlt h : (List.range x.chunks.length).all (chunkOk x.rules x.chunks) = false))
          have HC := Lib.hid (show chunkOk x.rules x.chunks k = (plainB x.chunks[k].text && (decide (x.chunks.length ≤ k + 1) || splitOk x.rules x.chunks[k].split)) by rw [chunkOk, chunkAt_lt hlt])
          have htx := hT _ (List.getElem_mem hlt)
          unfold maxLen at htx
          clear p0 p1 p2 p3 p4
          generalize x.chunks[k] = ck at *
          obtain ⟨text, rule, fro, space, nest⟩ := ck
          simp only at c0 c1 c2 c3 c4 htx
          have wk : IntKind.i64.wrap ((k : Int) + 1) = (k : Int) + 1 := IntWalk.i64_in _ (by omega)
          go_wp2_with fail
          cases f1 : plainB text with
          | false =>
            have HF := Lib.hid (show pieceOk x = false by rw [HQ.out, HN.out (by rw [HC.out]; simp [f1])]; simp)
            refine wp_region_held_drew (S := fun w' => PBox x ra rc (some ⟨b, off, none⟩) cc sa sc ta tc w.heap.size w' ∧ Below B w w') (by kernel_rfl) ?_ (fun hHeld => ?_)
            · exact ⟨hX, hb.drew⟩
            refine wpAnyH_take (i := 0) (v := ?v56) (at_op rfl) (by kernel_rfl) (by kernel_rfl) (by kernel_rfl) (fun _ _ _ h => h) (Or.inl ⟨by rfl, ?y56⟩) (by assumption) ?r56
            case y56 =>
              intro wx hSx
              go_simp
              try with_reducible rfl
            try simp only [Act.put, List.setIfInBounds_toArray, List.set_cons_zero, List.set_cons_succ]
            refine wpAnyH_take (i := 1) (v := ?v57) (at_op rfl) (by kernel_rfl) (by kernel_rfl) (by kernel_rfl) (fun _ _ _ h => h) (Or.inl ⟨by rfl, ?y57⟩) (by assumption) ?r57
            case y57 =>
              intro wx hSx
              obtain ⟨p0, p1, p2, p3, p4⟩ := hSx.1.five
              go_simp
              try with_reducible rfl
            try simp only [Act.put, List.setIfInBounds_toArray, List.set_cons_zero, List.set_cons_succ]
            refine wpAnyH_take (i := 2) (v := ?v58) (at_op rfl) (by kernel_rfl) (by kernel_rfl) (by kernel_rfl) (fun _ _ _ h => h) (Or.inl ⟨by rfl, ?y58⟩) (by assumption) ?r58
            case y58 =>
              intro wx hSx
              go_simp
              try with_reducible rfl
            try simp only [Act.put, List.setIfInBounds_toArray, List.set_cons_zero, List.set_cons_succ]
            refine wpAnyH_take (i := 3) (v := ?v59) (at_op rfl) (by kernel_rfl) (by kernel_rfl) (by kernel_rfl) (fun _ _ _ h => h) (Or.inl ⟨by rfl, ?y59⟩) (by assumption) ?r59
            case y59 =>
              intro wx hSx
              go_simp
              try with_reducible rfl
            try simp only [Act.put, List.setIfInBounds_toArray, List.set_cons_zero, List.set_cons_succ]
            refine wpAnyH_take (i := 4) (v := ?v60) (at_op rfl) (by kernel_rfl) (by kernel_rfl) (by kernel_rfl) (fun _ _ _ h => h) (Or.inl ⟨by rfl, ?y60⟩) (by assumption) ?r60
            case y60 =>
              intro wx hSx
              go_simp
              try with_reducible rfl
            try simp only [Act.put, List.setIfInBounds_toArray, List.set_cons_zero, List.set_cons_succ]
            refine wpAnyH_take (i := 5) (v := ?v61) (at_op rfl) (by kernel_rfl) (by kernel_rfl) (by kernel_rfl) (fun _ _ _ h => h) (Or.inl ⟨by rfl, ?y61⟩) (by assumption) ?r61
            case y61 =>
              intro wx hSx
              have d0 := (hSx.2.cell (p := ⟨b, _, none⟩) (by show b < _; omega)).trans c0
              go_simp
              try with_reducible rfl
            try simp only [Act.put, List.setIfInBounds_toArray, List.set_cons_zero, List.set_cons_succ]
            refine wpAnyH_ready (rs := [6]) (by kernel_rfl) (by simp) ?_
            refine AllReadyH.cons (at_op rfl) (fun K hK => ?_) AllReadyH.nil
            go_simp
            refine (l08Plain_any text _ htx).mono ?_
            rintro e w' ⟨rfl, rfl⟩
            rw [f1]
            go_wp2_with fail
            refine hK.out _ _ hHeld (fun _ => ?_)
            clear hK K
            try simp only [Act.put, List.setIfInBounds_toArray, List.set_cons_zero, List.set_cons_succ]
            refine wpAnyH_take (i := 7) (v := ?v62) (at_op rfl) (by kernel_rfl) (by kernel_rfl) (by kernel_rfl) (fun _ _ _ h => h) (Or.inl ⟨by rfl, ?y62⟩) (by assumption) ?r62
            case y62 =>
              intro wx hSx
              go_simp
              try with_reducible rfl
            try simp only [Act.put, List.setIfInBounds_toArray, List.set_cons_zero, List.set_cons_succ]
            refine wpAnyH_take (i := 8) (v := ?v63) (at_op rfl) (by kernel_rfl) (by kernel_rfl) (by kernel_rfl) (fun _ _ _ h => h) (Or.inl ⟨by rfl, ?y63⟩) (by assumption) ?r63
            case y63 =>
              intro wx hSx
              go_simp
              try with_reducible rfl
            try simp only [Act.put, List.setIfInBounds_toArray, List.set_cons_zero, List.set_cons_succ]
            refine wpAnyH_take (i := 9) (v := undef) (at_op rfl) (by kernel_rfl) (by kernel_rfl) (by kernel_rfl) (fun _ _ _ h => h) (Or.inr ⟨by rfl, rfl⟩) (by assumption) ?_
            try simp only [Act.put, List.setIfInBounds_toArray, List.set_cons_zero, List.set_cons_succ]
            refine wpAnyH_take (i := 10) (v := undef) (at_op rfl) (by kernel_rfl) (by kernel_rfl) (by kernel_rfl) (fun _ _ _ h => h) (Or.inr ⟨by rfl, rfl⟩) (by assumption) ?_
            try simp only [Act.put, List.setIfInBounds_toArray, List.set_cons_zero, List.set_cons_succ]
            refine wpAnyH_take (i := 11) (v := undef) (at_op rfl) (by kernel_rfl) (by kernel_rfl) (by kernel_rfl) (fun _ _ _ h => h) (Or.inr ⟨by rfl, rfl⟩) (by assumption) ?_
            try simp only [Act.put, List.setIfInBounds_toArray, List.set_cons_zero, List.set_cons_succ]
            refine wpAnyH_take (i := 12) (v := undef) (at_op rfl) (by kernel_rfl) (by kernel_rfl) (by kernel_rfl) (fun _ _ _ h => h) (Or.inr ⟨by rfl, rfl⟩) (by assumption) ?_
            try simp only [Act.put, List.setIfInBounds_toArray, List.set_cons_zero, List.set_cons_succ]
            refine wpAnyH_take (i := 13) (v := undef) (at_op rfl) (by kernel_rfl) (by kernel_rfl) (by kernel_rfl) (fun _ _ _ h => h) (Or.inr ⟨by rfl, rfl⟩) (by assumption) ?_
            try simp only [Act.put, List.setIfInBounds_toArray, List.set_cons_zero, List.set_cons_succ]
            refine wpAnyH_take (i := 14) (v := undef) (at_op rfl) (by kernel_rfl) (by kernel_rfl) (by kernel_rfl) (fun _ _ _ h => h) (Or.inr ⟨by rfl, rfl⟩) (by assumption) ?_
            try simp only [Act.put, List.setIfInBounds_toArray, List.set_cons_zero, List.set_cons_succ]
            refine wpAnyH_take (i := 15) (v := undef) (at_op rfl) (by kernel_rfl) (by kernel_rfl) (by kernel_rfl) (fun _ _ _ h => h) (Or.inr ⟨by rfl, rfl⟩) (by assumption) ?_
            try simp only [Act.put, List.setIfInBounds_toArray, List.set_cons_zero, List.set_cons_succ]
            refine wpAnyH_take (i := 16) (v := undef) (at_op rfl) (by kernel_rfl) (by kernel_rfl) (by kernel_rfl) (fun _ _ _ h => h) (Or.inr ⟨by rfl, rfl⟩) (by assumption) ?_
            try simp only [Act.put, List.setIfInBounds_toArray, List.set_cons_zero, List.set_cons_succ]
            refine wpAnyH_take (i := 17) (v := undef) (at_op rfl) (by kernel_rfl) (by kernel_rfl) (by kernel_rfl) (fun _ _ _ h => h) (Or.inr ⟨by rfl, rfl⟩) (by assumption) ?_
            try simp only [Act.put, List.setIfInBounds_toArray, List.set_cons_zero, List.set_cons_succ]
            refine wpAnyH_take (i := 18) (v := undef) (at_op rfl) (by kernel_rfl) (by kernel_rfl) (by kernel_rfl) (fun _ _ _ h => h) (Or.inr ⟨by rfl, rfl⟩) (by assumption) ?_
            try simp only [Act.put, List.setIfInBounds_toArray, List.set_cons_zero, List.set_cons_succ]
            refine wpAnyH_take (i := 19) (v := undef) (at_op rfl) (by kernel_rfl) (by kernel_rfl) (by kernel_rfl) (fun _ _ _ h => h) (Or.inr ⟨by rfl, rfl⟩) (by assumption) ?_
            try simp only [Act.put, List.setIfInBounds_toArray, List.set_cons_zero, List.set_cons_succ]
            refine wpAnyH_take (i := 20) (v := undef) (at_op rfl) (by kernel_rfl) (by kernel_rfl) (by kernel_rfl) (fun _ _ _ h => h) (Or.inr ⟨by rfl, rfl⟩) (by assumption) ?_
            try simp only [Act.put, List.setIfInBounds_toArray, List.set_cons_zero, List.set_cons_succ]
            refine wpAnyH_take (i := 21) (v := undef) (at_op rfl) (by kernel_rfl) (by kernel_rfl) (by kernel_rfl) (fun _ _ _ h => h) (Or.inr ⟨by rfl, rfl⟩) (by assumption) ?_
            try simp only [Act.put, List.setIfInBounds_toArray, List.set_cons_zero, List.set_cons_succ]
            refine wpAnyH_take (i := 22) (v := undef) (at_op rfl) (by kernel_rfl) (by kernel_rfl) (by kernel_rfl) (fun _ _ _ h => h) (Or.inr ⟨by rfl, rfl⟩) (by assumption) ?_
            try simp only [Act.put, List.setIfInBounds_toArray, List.set_cons_zero, List.set_cons_succ]
            refine wpAnyH_take (i := 23) (v := undef) (at_op rfl) (by kernel_rfl) (by kernel_rfl) (by kernel_rfl) (fun _ _ _ h => h) (Or.inr ⟨by rfl, rfl⟩) (by assumption) ?_
            try simp only [Act.put, List.setIfInBounds_toArray, List.set_cons_zero, List.set_cons_succ]
            refine wpAnyH_take (i := 24) (v := ?v64) (at_op rfl) (by kernel_rfl) (by kernel_rfl) (by kernel_rfl) (fun _ _ _ h => h) (Or.inl ⟨by rfl, ?y64⟩) (by assumption) ?r64
            case y64 =>
              intro wx hSx
              go_simp
              try with_reducible rfl
            try simp only [Act.put, List.setIfInBounds_toArray, List.set_cons_zero, List.set_cons_succ]
            refine wpAnyH_done (by kernel_rfl) ?_ _
            go_wp2
            go_ret
            exact ⟨ret_bool HF.out.symm, by rw [← HB.out]; exact hb.drew⟩
          | true =>
          by_cases f2 : (k : Int) + 1 < (x.chunks.length : Int)
          · have f2d : decide ((k : Int) + 1 < (x.chunks.length : Int)) = true := decide_eq_true f2
            cases f3 : splitOk x.rules ⟨rule, fro, space, nest⟩ with
            | false =>
              have HF := Lib.hid (show pieceOk x = false by rw [HQ.out, HN.out (by rw [HC.out]; simp [f1, Chunk.split, f3]; omega)]; simp)
              refine wp_region_held_drew (S := fun w' => PBox x ra rc (some ⟨b, off, none⟩) cc sa sc ta tc w.heap.size w' ∧ Below B w w') (by kernel_rfl) ?_ (fun hHeld => ?_)
              · exact ⟨hX, hb.drew⟩
              refine wpAnyH_take (i := 0) (v := ?v65) (at_op rfl) (by kernel_rfl) (by kernel_rfl) (by kernel_rfl) (fun _ _ _ h => h) (Or.inl ⟨by rfl, ?y65⟩) (by assumption) ?r65
              case y65 =>
                intro wx hSx
                go_simp
                try with_reducible rfl
              try simp only [Act.put, List.setIfInBounds_toArray, List.set_cons_zero, List.set_cons_succ]
              refine wpAnyH_take (i := 1) (v := ?v66) (at_op rfl) (by kernel_rfl) (by kernel_rfl) (by kernel_rfl) (fun _ _ _ h => h) (Or.inl ⟨by rfl, ?y66⟩) (by assumption) ?r66
              case y66 =>
                intro wx hSx
                obtain ⟨p0, p1, p2, p3, p4⟩ := hSx.1.five
                go_simp
                try with_reducible rfl
              try simp only [Act.put, List.setIfInBounds_toArray, List.set_cons_zero, List.set_cons_succ]
              refine wpAnyH_take (i := 2) (v := ?v67) (at_op rfl) (by kernel_rfl) (by kernel_rfl) (by kernel_rfl) (fun _ _ _ h => h) (Or.inl ⟨by rfl, ?y67⟩) (by assumption) ?r67
              case y67 =>
                intro wx hSx
                go_simp
                try with_reducible rfl
              try simp only [Act.put, List.setIfInBounds_toArray, List.set_cons_zero, List.set_cons_succ]
              refine wpAnyH_take (i := 3) (v := ?v68) (at_op rfl) (by kernel_rfl) (by kernel_rfl) (by kernel_rfl) (fun _ _ _ h => h) (Or.inl ⟨by rfl, ?y68⟩) (by assumption) ?r68
              case y68 =>
                intro wx hSx
                go_simp
                try with_reducible rfl
              try simp only [Act.put, List.setIfInBounds_toArray, List.set_cons_zero, List.set_cons_succ]
              refine wpAnyH_take (i := 4) (v := ?v69) (at_op rfl) (by kernel_rfl) (by kernel_rfl) (by kernel_rfl) (fun _ _ _ h => h) (Or.inl ⟨by rfl, ?y69⟩) (by assumption) ?r69
              case y69 =>
                intro wx hSx
                go_simp
                try with_reducible rfl
              try simp only [Act.put, List.setIfInBounds_toArray, List.set_cons_zero, List.set_cons_succ]
              refine wpAnyH_take (i := 5) (v := ?v70) (at_op rfl) (by kernel_rfl) (by kernel_rfl) (by kernel_rfl) (fun _ _ _ h => h) (Or.inl ⟨by rfl, ?y70⟩) (by assumption) ?r70
              case y70 =>
                intro wx hSx
                have d0 := (hSx.2.cell (p := ⟨b, _, none⟩) (by show b < _; omega)).trans c0
                go_simp
                try with_reducible rfl
              try simp only [Act.put, List.setIfInBounds_toArray, List.set_cons_zero, List.set_cons_succ]
              refine wpAnyH_ready (rs := [6]) (by kernel_rfl) (by simp) ?_
              refine AllReadyH.cons (at_op rfl) (fun K hK => ?_) AllReadyH.nil
              go_simp
              refine (l08Plain_any text _ htx).mono ?_
              rintro e w' ⟨rfl, rfl⟩
              rw [f1]
              go_wp2_with fail
              refine hK.out _ _ hHeld (fun _ => ?_)
              clear hK K
              try simp only [Act.put, List.setIfInBounds_toArray, List.set_cons_zero, List.set_cons_succ]
              refine wpAnyH_take (i := 7) (v := ?v71) (at_op rfl) (by kernel_rfl) (by kernel_rfl) (by kernel_rfl) (fun _ _ _ h => h) (Or.inl ⟨by rfl, ?y71⟩) (by assumption) ?r71
              case y71 =>
                intro wx hSx
                go_simp
                try with_reducible rfl
              try simp only [Act.put, List.setIfInBounds_toArray, List.set_cons_zero, List.set_cons_succ]
              refine wpAnyH_take (i := 8) (v := ?v72) (at_op rfl) (by kernel_rfl) (by kernel_rfl) (by kernel_rfl) (fun _ _ _ h => h) (Or.inl ⟨by rfl, ?y72⟩) (by assumption) ?r72
              case y72 =>
                intro wx hSx
                go_simp
                try with_reducible rfl
              try simp only [Act.put, List.setIfInBounds_toArray, List.set_cons_zero, List.set_cons_succ]
              refine wpAnyH_take (i := 9) (v := ?v73) (at_op rfl) (by kernel_rfl) (by kernel_rfl) (by kernel_rfl) (fun _ _ _ h => h) (Or.inl ⟨by rfl, ?y73⟩) (by assumption) ?r73
              case y73 =>
                intro wx hSx
                go_simp
                try with_reducible rfl
              try simp only [Act.put, List.setIfInBounds_toArray, List.set_cons_zero, List.set_cons_succ]
              refine wpAnyH_take (i := 10) (v := ?v74) (at_op rfl) (by kernel_rfl) (by kernel_rfl) (by kernel_rfl) (fun _ _ _ h => h) (Or.inl ⟨by rfl, ?y74⟩) (by assumption) ?r74
              case y74 =>
                intro wx hSx
                go_simp
                try with_reducible rfl
              try simp only [Act.put, List.setIfInBounds_toArray, List.set_cons_zero, List.set_cons_succ]
              refine wpAnyH_take (i := 11) (v := ?v75) (at_op rfl) (by kernel_rfl) (by kernel_rfl) (by kernel_rfl) (fun _ _ _ h => h) (Or.inl ⟨by rfl, ?y75⟩) (by assumption) ?r75
              case y75 =>
                intro wx hSx
                go_simp
                try with_reducible rfl
              try simp only [Act.put, List.setIfInBounds_toArray, List.set_cons_zero, List.set_cons_succ]
              refine wpAnyH_take (i := 12) (v := ?v76) (at_op rfl) (by kernel_rfl) (by kernel_rfl) (by kernel_rfl) (fun _ _ _ h => h) (Or.inl ⟨by rfl, ?y76⟩) (by assumption) ?r76
              case y76 =>
                intro wx hSx
                go_simp
                try with_reducible rfl
              try simp only [Act.put, List.setIfInBounds_toArray, List.set_cons_zero, List.set_cons_succ]
              refine wpAnyH_take (i := 13) (v := ?v77) (at_op rfl) (by kernel_rfl) (by kernel_rfl) (by kernel_rfl) (fun _ _ _ h => h) (Or.inl ⟨by rfl, ?y77⟩) (by assumption) ?r77
              case y77 =>
                intro wx hSx
                go_simp
                try with_reducible rfl
              try simp only [Act.put, List.setIfInBounds_toArray, List.set_cons_zero, List.set_cons_succ]
              refine wpAnyH_take (i := 14) (v := ?v78) (at_op rfl) (by kernel_rfl) (by kernel_rfl) (by kernel_rfl) (fun _ _ _ h => h) (Or.inl ⟨by rfl, ?y78⟩) (by assumption) ?r78
              case y78 =>
                intro wx hSx
                obtain ⟨p0, p1, p2, p3, p4⟩ := hSx.1.five
                go_simp
                try with_reducible rfl
              try simp only [Act.put, List.setIfInBounds_toArray, List.set_cons_zero, List.set_cons_succ]
              refine wpAnyH_take (i := 15) (v := ?v79) (at_op rfl) (by kernel_rfl) (by kernel_rfl) (by kernel_rfl) (fun _ _ _ h => h) (Or.inl ⟨by rfl, ?y79⟩) (by assumption) ?r79
              case y79 =>
                intro wx hSx
                go_simp
                try with_reducible rfl
              try simp only [Act.put, List.setIfInBounds_toArray, List.set_cons_zero, List.set_cons_succ]
              refine wpAnyH_take (i := 16) (v := ?v80) (at_op rfl) (by kernel_rfl) (by kernel_rfl) (by kernel_rfl) (fun _ _ _ h => h) (Or.inl ⟨by rfl, ?y80⟩) (by assumption) ?r80
              case y80 =>
                intro wx hSx
                obtain ⟨p0, p1, p2, p3, p4⟩ := hSx.1.five
                go_simp
                try with_reducible rfl
              try simp only [Act.put, List.setIfInBounds_toArray, List.set_cons_zero, List.set_cons_succ]
              refine wpAnyH_take (i := 17) (v := ?v81) (at_op rfl) (by kernel_rfl) (by kernel_rfl) (by kernel_rfl) (fun _ _ _ h => h) (Or.inl ⟨by rfl, ?y81⟩) (by assumption) ?r81
              case y81 =>
                intro wx hSx
                go_simp
                try with_reducible rfl
              try simp only [Act.put, List.setIfInBounds_toArray, List.set_cons_zero, List.set_cons_succ]
              refine wpAnyH_take (i := 18) (v := ?v82) (at_op rfl) (by kernel_rfl) (by kernel_rfl) (by kernel_rfl) (fun _ _ _ h => h) (Or.inl ⟨by rfl, ?y82⟩) (by assumption) ?r82
              case y82 =>
                intro wx hSx
                go_simp
                try with_reducible rfl
              try simp only [Act.put, List.setIfInBounds_toArray, List.set_cons_zero, List.set_cons_succ]
              refine wpAnyH_take (i := 19) (v := ?v83) (at_op rfl) (by kernel_rfl) (by kernel_rfl) (by kernel_rfl) (fun _ _ _ h => h) (Or.inl ⟨by rfl, ?y83⟩) (by assumption) ?r83
              case y83 =>
                intro wx hSx
                go_simp
                try with_reducible rfl
              try simp only [Act.put, List.setIfInBounds_toArray, List.set_cons_zero, List.set_cons_succ]
              refine wpAnyH_take (i := 20) (v := ?v84) (at_op rfl) (by kernel_rfl) (by kernel_rfl) (by kernel_rfl) (fun _ _ _ h => h) (Or.inl ⟨by rfl, ?y84⟩) (by assumption) ?r84
              case y84 =>
                intro wx hSx
                have d1 := (hSx.2.cell (p := ⟨b, _, none⟩) (by show b < _; omega)).trans c1
                have d2 := (hSx.2.cell (p := ⟨b, _, none⟩) (by show b < _; omega)).trans c2
                have d3 := (hSx.2.cell (p := ⟨b, _, none⟩) (by show b < _; omega)).trans c3
                have d4 := (hSx.2.cell (p := ⟨b, _, none⟩) (by show b < _; omega)).trans c4
                go_simp
                try with_reducible rfl
              try simp only [Act.put, List.setIfInBounds_toArray, List.set_cons_zero, List.set_cons_succ]
              refine wpAnyH_ready (rs := [21]) (by kernel_rfl) (by simp) ?_
              refine AllReadyH.cons (at_op rfl) (fun K hK => ?_) AllReadyH.nil
              go_simp
              refine (l08Split_any x _ _ _ _ _ _ _ _ ⟨rule, fro, space, nest⟩ lo hi _ (hp0.below hHeld.2 (by omega)) (by have := hHeld.2.size; omega) hv).mono ?_
              rintro e w2 ⟨rfl, k2⟩
              rw [f3]
              have hS2 : PBox x ra rc (some ⟨b, off, none⟩) cc sa sc ta tc w.heap.size w2 ∧ Below B w w2 := ⟨hHeld.1.below k2, hHeld.2.trans (k2.mono (by have := hHeld.2.size; omega))⟩
              go_wp2_with fail
              refine hK.out _ _ hS2 (fun _ => ?_)
              clear hK K
              try simp only [Act.put, List.setIfInBounds_toArray, List.set_cons_zero, List.set_cons_succ]
              refine wpAnyH_take (i := 22) (v := ?v85) (at_op rfl) (by kernel_rfl) (by kernel_rfl) (by kernel_rfl) (fun _ _ _ h => h) (Or.inl ⟨by rfl, ?y85⟩) (by assumption) ?r85
              case y85 =>
                intro wx hSx
                go_simp
                try with_reducible rfl
              try simp only [Act.put, List.setIfInBounds_toArray, List.set_cons_zero, List.set_cons_succ]
              refine wpAnyH_take (i := 23) (v := ?v86) (at_op rfl) (by kernel_rfl) (by kernel_rfl) (by kernel_rfl) (fun _ _ _ h => h) (Or.inl ⟨by rfl, ?y86⟩) (by assumption) ?r86
              case y86 =>
                intro wx hSx
                go_simp
                try with_reducible rfl
              try simp only [Act.put, List.setIfInBounds_toArray, List.set_cons_zero, List.set_cons_succ]
              refine wpAnyH_take (i := 24) (v := ?v87) (at_op rfl) (by kernel_rfl) (by kernel_rfl) (by kernel_rfl) (fun _ _ _ h => h) (Or.inl ⟨by rfl, ?y87⟩) (by assumption) ?r87
              case y87 =>
                intro wx hSx
                go_simp
                try with_reducible rfl
              try simp only [Act.put, List.setIfInBounds_toArray, List.set_cons_zero, List.set_cons_succ]
              refine wpAnyH_done (by kernel_rfl) ?_ _
              go_wp2
              go_ret
              exact ⟨ret_bool HF.out.symm, by rw [← HB.out]; exact hS2.2⟩
            | true =>
              have HF := Lib.hid (show chunkOk x.rules x.chunks k = true by rw [HC.out]; simp [f1, Chunk.split, f3])
              refine wp_region_held_drew (S := fun w' => PBox x ra rc (some ⟨b, off, none⟩) cc sa sc ta tc w.heap.size w' ∧ Below B w w') (by kernel_rfl) ?_ (fun hHeld => ?_)
              · exact ⟨hX, hb.drew⟩
              refine wpAnyH_take (i := 0) (v := ?v88) (at_op rfl) (by kernel_rfl) (by kernel_rfl) (by kernel_rfl) (fun _ _ _ h => h) (Or.inl ⟨by rfl, ?y88⟩) (by assumption) ?r88
              case y88 =>
                intro wx hSx
                go_simp
                try with_reducible rfl
              try simp only [Act.put, List.setIfInBounds_toArray, List.set_cons_zero, List.set_cons_succ]
              refine wpAnyH_take (i := 1) (v := ?v89) (at_op rfl) (by kernel_rfl) (by kernel_rfl) (by kernel_rfl) (fun _ _ _ h => h) (Or.inl ⟨by rfl, ?y89⟩) (by assumption) ?r89
              case y89 =>
                intro wx hSx
                obtain ⟨p0, p1, p2, p3, p4⟩ := hSx.1.five
                go_simp
                try with_reducible rfl
              try simp only [Act.put, List.setIfInBounds_toArray, List.set_cons_zero, List.set_cons_succ]
              refine wpAnyH_take (i := 2) (v := ?v90) (at_op rfl) (by kernel_rfl) (by kernel_rfl) (by kernel_rfl) (fun _ _ _ h => h) (Or.inl ⟨by rfl, ?y90⟩) (by assumption) ?r90
              case y90 =>
                intro wx hSx
                go_simp
                try with_reducible rfl
              try simp only [Act.put, List.setIfInBounds_toArray, List.set_cons_zero, List.set_cons_succ]
              refine wpAnyH_take (i := 3) (v := ?v91) (at_op rfl) (by kernel_rfl) (by kernel_rfl) (by kernel_rfl) (fun _ _ _ h => h) (Or.inl ⟨by rfl, ?y91⟩) (by assumption) ?r91
              case y91 =>
                intro wx hSx
                go_simp
                try with_reducible rfl
              try simp only [Act.put, List.setIfInBounds_toArray, List.set_cons_zero, List.set_cons_succ]
              refine wpAnyH_take (i := 4) (v := ?v92) (at_op rfl) (by kernel_rfl) (by kernel_rfl) (by kernel_rfl) (fun _ _ _ h => h) (Or.inl ⟨by rfl, ?y92⟩) (by assumption) ?r92
              case y92 =>
                intro wx hSx
                go_simp
                try with_reducible rfl
              try simp only [Act.put, List.setIfInBounds_toArray, List.set_cons_zero, List.set_cons_succ]
              refine wpAnyH_take (i := 5) (v := ?v93) (at_op rfl) (by kernel_rfl) (by kernel_rfl) (by kernel_rfl) (fun _ _ _ h => h) (Or.inl ⟨by rfl, ?y93⟩) (by assumption) ?r93
              case y93 =>
                intro wx hSx
                have d0 := (hSx.2.cell (p := ⟨b, _, none⟩) (by show b < _; omega)).trans c0
                go_simp
                try with_reducible rfl
              try simp only [Act.put, List.setIfInBounds_toArray, List.set_cons_zero, List.set_cons_succ]
              refine wpAnyH_ready (rs := [6]) (by kernel_rfl) (by simp) ?_
              refine AllReadyH.cons (at_op rfl) (fun K hK => ?_) AllReadyH.nil
              go_simp
              refine (l08Plain_any text _ htx).mono ?_
              rintro e w' ⟨rfl, rfl⟩
              rw [f1]
              go_wp2_with fail
              refine hK.out _ _ hHeld (fun _ => ?_)
              clear hK K
              try simp only [Act.put, List.setIfInBounds_toArray, List.set_cons_zero, List.set_cons_succ]
              refine wpAnyH_take (i := 7) (v := ?v94) (at_op rfl) (by kernel_rfl) (by kernel_rfl) (by kernel_rfl) (fun _ _ _ h => h) (Or.inl ⟨by rfl, ?y94⟩) (by assumption) ?r94
              case y94 =>
                intro wx hSx
                go_simp
                try with_reducible rfl
              try simp only [Act.put, List.setIfInBounds_toArray, List.set_cons_zero, List.set_cons_succ]
              refine wpAnyH_take (i := 8) (v := ?v95) (at_op rfl) (by kernel_rfl) (by kernel_rfl) (by kernel_rfl) (fun _ _ _ h => h) (Or.inl ⟨by rfl, ?y95⟩) (by assumption) ?r95
              case y95 =>
                intro wx hSx
                go_simp
                try with_reducible rfl
              try simp only [Act.put, List.setIfInBounds_toArray, List.set_cons_zero, List.set_cons_succ]
              refine wpAnyH_take (i := 9) (v := ?v96) (at_op rfl) (by kernel_rfl) (by kernel_rfl) (by kernel_rfl) (fun _ _ _ h => h) (Or.inl ⟨by rfl, ?y96⟩) (by assumption) ?r96
              case y96 =>
                intro wx hSx
                go_simp
                try with_reducible rfl
              try simp only [Act.put, List.setIfInBounds_toArray, List.set_cons_zero, List.set_cons_succ]
              refine wpAnyH_take (i := 10) (v := ?v97) (at_op rfl) (by kernel_rfl) (by kernel_rfl) (by kernel_rfl) (fun _ _ _ h => h) (Or.inl ⟨by rfl, ?y97⟩) (by assumption) ?r97
              case y97 =>
                intro wx hSx
                go_simp
                try with_reducible rfl
              try simp only [Act.put, List.setIfInBounds_toArray, List.set_cons_zero, List.set_cons_succ]
              refine wpAnyH_take (i := 11) (v := ?v98) (at_op rfl) (by kernel_rfl) (by kernel_rfl) (by kernel_rfl) (fun _ _ _ h => h) (Or.inl ⟨by rfl, ?y98⟩) (by assumption) ?r98
              case y98 =>
                intro wx hSx
                go_simp
                try with_reducible rfl
              try simp only [Act.put, List.setIfInBounds_toArray, List.set_cons_zero, List.set_cons_succ]
              refine wpAnyH_take (i := 12) (v := ?v99) (at_op rfl) (by kernel_rfl) (by kernel_rfl) (by kernel_rfl) (fun _ _ _ h => h) (Or.inl ⟨by rfl, ?y99⟩) (by assumption) ?r99
              case y99 =>
                intro wx hSx
                go_simp
                try with_reducible rfl
              try simp only [Act.put, List.setIfInBounds_toArray, List.set_cons_zero, List.set_cons_succ]
              refine wpAnyH_take (i := 13) (v := ?v100) (at_op rfl) (by kernel_rfl) (by kernel_rfl) (by kernel_rfl) (fun _ _ _ h => h) (Or.inl ⟨by rfl, ?y100⟩) (by assumption) ?r100
              case y100 =>
                intro wx hSx
                go_simp
                try with_reducible rfl
              try simp only [Act.put, List.setIfInBounds_toArray, List.set_cons_zero, List.set_cons_succ]
              refine wpAnyH_take (i := 14) (v := ?v101) (at_op rfl) (by kernel_rfl) (by kernel_rfl) (by kernel_rfl) (fun _ _ _ h => h) (Or.inl ⟨by rfl, ?y101⟩) (by assumption) ?r101
              case y101 =>
                intro wx hSx
                obtain ⟨p0, p1, p2, p3, p4⟩ := hSx.1.five
                go_simp
                try with_reducible rfl
              try simp only [Act.put, List.setIfInBounds_toArray, List.set_cons_zero, List.set_cons_succ]
              refine wpAnyH_take (i := 15) (v := ?v102) (at_op rfl) (by kernel_rfl) (by kernel_rfl) (by kernel_rfl) (fun _ _ _ h => h) (Or.inl ⟨by rfl, ?y102⟩) (by assumption) ?r102
              case y102 =>
                intro wx hSx
                go_simp
                try with_reducible rfl
              try simp only [Act.put, List.setIfInBounds_toArray, List.set_cons_zero, List.set_cons_succ]
              refine wpAnyH_take (i := 16) (v := ?v103) (at_op rfl) (by kernel_rfl) (by kernel_rfl) (by kernel_rfl) (fun _ _ _ h => h) (Or.inl ⟨by rfl, ?y103⟩) (by assumption) ?r103
              case y103 =>
                intro wx hSx
                obtain ⟨p0, p1, p2, p3, p4⟩ := hSx.1.five
                go_simp
                try with_reducible rfl
              try simp only [Act.put, List.setIfInBounds_toArray, List.set_cons_zero, List.set_cons_succ]
              refine wpAnyH_take (i := 17) (v := ?v104) (at_op rfl) (by kernel_rfl) (by kernel_rfl) (by kernel_rfl) (fun _ _ _ h => h) (Or.inl ⟨by rfl, ?y104⟩) (by assumption) ?r104
              case y104 =>
                intro wx hSx
                go_simp
                try with_reducible rfl
              try simp only [Act.put, List.setIfInBounds_toArray, List.set_cons_zero, List.set_cons_succ]
              refine wpAnyH_take (i := 18) (v := ?v105) (at_op rfl) (by kernel_rfl) (by kernel_rfl) (by kernel_rfl) (fun _ _ _ h => h) (Or.inl ⟨by rfl, ?y105⟩) (by assumption) ?r105
              case y105 =>
                intro wx hSx
                go_simp
                try with_reducible rfl
              try simp only [Act.put, List.setIfInBounds_toArray, List.set_cons_zero, List.set_cons_succ]
              refine wpAnyH_take (i := 19) (v := ?v106) (at_op rfl) (by kernel_rfl) (by kernel_rfl) (by kernel_rfl) (fun _ _ _ h => h) (Or.inl ⟨by rfl, ?y106⟩) (by assumption) ?r106
              case y106 =>
                intro wx hSx
                go_simp
                try with_reducible rfl
              try simp only [Act.put, List.setIfInBounds_toArray, List.set_cons_zero, List.set_cons_succ]
              refine wpAnyH_take (i := 20) (v := ?v107) (at_op rfl) (by kernel_rfl) (by kernel_rfl) (by kernel_rfl) (fun _ _ _ h => h) (Or.inl ⟨by rfl, ?y107⟩) (by assumption) ?r107
              case y107 =>
                intro wx hSx
                have d1 := (hSx.2.cell (p := ⟨b, _, none⟩) (by show b < _; omega)).trans c1
                have d2 := (hSx.2.cell (p := ⟨b, _, none⟩) (by show b < _; omega)).trans c2
                have d3 := (hSx.2.cell (p := ⟨b, _, none⟩) (by show b < _; omega)).trans c3
                have d4 := (hSx.2.cell (p := ⟨b, _, none⟩) (by show b < _; omega)).trans c4
                go_simp
                try with_reducible rfl
              try simp only [Act.put, List.setIfInBounds_toArray, List.set_cons_zero, List.set_cons_succ]
              refine wpAnyH_ready (rs := [21]) (by kernel_rfl) (by simp) ?_
              refine AllReadyH.cons (at_op rfl) (fun K hK => ?_) AllReadyH.nil
              go_simp
              refine (l08Split_any x _ _ _ _ _ _ _ _ ⟨rule, fro, space, nest⟩ lo hi _ (hp0.below hHeld.2 (by omega)) (by have := hHeld.2.size; omega) hv).mono ?_
              rintro e w2 ⟨rfl, k2⟩
              rw [f3]
              have hS2 : PBox x ra rc (some ⟨b, off, none⟩) cc sa sc ta tc w.heap.size w2 ∧ Below B w w2 := ⟨hHeld.1.below k2, hHeld.2.trans (k2.mono (by have := hHeld.2.size; omega))⟩
              go_wp2_with fail
              refine hK.out _ _ hS2 (fun _ => ?_)
              clear hK K
              try simp only [Act.put, List.setIfInBounds_toArray, List.set_cons_zero, List.set_cons_succ]
              refine wpAnyH_take (i := 22) (v := ?v108) (at_op rfl) (by kernel_rfl) (by kernel_rfl) (by kernel_rfl) (fun _ _ _ h => h) (Or.inl ⟨by rfl, ?y108⟩) (by assumption) ?r108
              case y108 =>
                intro wx hSx
                go_simp
                try with_reducible rfl
              try simp only [Act.put, List.setIfInBounds_toArray, List.set_cons_zero, List.set_cons_succ]
              refine wpAnyH_take (i := 23) (v := ?v109) (at_op rfl) (by kernel_rfl) (by kernel_rfl) (by kernel_rfl) (fun _ _ _ h => h) (Or.inl ⟨by rfl, ?y109⟩) (by assumption) ?r109
              case y109 =>
                intro wx hSx
                go_simp
                try with_reducible rfl
              try simp only [Act.put, List.setIfInBounds_toArray, List.set_cons_zero, List.set_cons_succ]
              refine wpAnyH_take (i := 24) (v := ?v110) (at_op rfl) (by kernel_rfl) (by kernel_rfl) (by kernel_rfl) (fun _ _ _ h => h) (Or.inl ⟨by rfl, ?y110⟩) (by assumption) ?r110
              case y110 =>
                intro wx hSx
                go_simp
                try with_reducible rfl
              try simp only [Act.put, List.setIfInBounds_toArray, List.set_cons_zero, List.set_cons_succ]
              refine wpAnyH_done (by kernel_rfl) ?_ _
              clear wk
              go_wp2
              go_roundw
              case rel => exact ⟨k + 1, by omega, by go_num, range_all_succ HA.out HF.out, hS2.2, hS2.1⟩
              case measure => simp [intOf]; omega
          · have f2d : decide ((k : Int) + 1 < (x.chunks.length : Int)) = false := decide_eq_false f2
            have HF := Lib.hid (show chunkOk x.rules x.chunks k = true by rw [HC.out]; simp [f1]; omega)
            refine wp_region_held_drew (S := fun w' => PBox x ra rc (some ⟨b, off, none⟩) cc sa sc ta tc w.heap.size w' ∧ Below B w w') (by kernel_rfl) ?_ (fun hHeld => ?_)
            · exact ⟨hX, hb.drew⟩
            refine wpAnyH_take (i := 0) (v := ?v111) (at_op rfl) (by kernel_rfl) (by kernel_rfl) (by kernel_rfl) (fun _ _ _ h => h) (Or.inl ⟨by rfl, ?y111⟩) (by assumption) ?r111
            case y111 =>
              intro wx hSx
              go_simp
              try with_reducible rfl
            try simp only [Act.put, List.setIfInBounds_toArray, List.set_cons_zero, List.set_cons_succ]
            refine wpAnyH_take (i := 1) (v := ?v112) (at_op rfl) (by kernel_rfl) (by kernel_rfl) (by kernel_rfl) (fun _ _ _ h => h) (Or.inl ⟨by rfl, ?y112⟩) (by assumption) ?r112
            case y112 =>
              intro wx hSx
              obtain ⟨p0, p1, p2, p3, p4⟩ := hSx.1.five
              go_simp
              try with_reducible rfl
            try simp only [Act.put, List.setIfInBounds_toArray, List.set_cons_zero, List.set_cons_succ]
            refine wpAnyH_take (i := 2) (v := ?v113) (at_op rfl) (by kernel_rfl) (by kernel_rfl) (by kernel_rfl) (fun _ _ _ h => h) (Or.inl ⟨by rfl, ?y113⟩) (by assumption) ?r113
            case y113 =>
              intro wx hSx
              go_simp
              try with_reducible rfl
            try simp only [Act.put, List.setIfInBounds_toArray, List.set_cons_zero, List.set_cons_succ]
            refine wpAnyH_take (i := 3) (v := ?v114) (at_op rfl) (by kernel_rfl) (by kernel_rfl) (by kernel_rfl) (fun _ _ _ h => h) (Or.inl ⟨by rfl, ?y114⟩) (by assumption) ?r114
            case y114 =>
              intro wx hSx
              go_simp
              try with_reducible rfl
            try simp only [Act.put, List.setIfInBounds_toArray, List.set_cons_zero, List.set_cons_succ]
            refine wpAnyH_take (i := 4) (v := ?v115) (at_op rfl) (by kernel_rfl) (by kernel_rfl) (by kernel_rfl) (fun _ _ _ h => h) (Or.inl ⟨by rfl, ?y115⟩) (by assumption) ?r115
            case y115 =>
              intro wx hSx
              go_simp
              try with_reducible rfl
            try simp only [Act.put, List.setIfInBounds_toArray, List.set_cons_zero, List.set_cons_succ]
            refine wpAnyH_take (i := 5) (v := ?v116) (at_op rfl) (by kernel_rfl) (by kernel_rfl) (by kernel_rfl) (fun _ _ _ h => h) (Or.inl ⟨by rfl, ?y116⟩) (by assumption) ?r116
            case y116 =>
              intro wx hSx
              have d0 := (hSx.2.cell (p := ⟨b, _, none⟩) (by show b < _; omega)).trans c0
              go_simp
              try with_reducible rfl
            try simp only [Act.put, List.setIfInBounds_toArray, List.set_cons_zero, List.set_cons_succ]
            refine wpAnyH_ready (rs := [6]) (by kernel_rfl) (by simp) ?_
            refine AllReadyH.cons (at_op rfl) (fun K hK => ?_) AllReadyH.nil
            go_simp
            refine (l08Plain_any text _ htx).mono ?_
            rintro e w' ⟨rfl, rfl⟩
            rw [f1]
            go_wp2_with fail
            refine hK.out _ _ hHeld (fun _ => ?_)
            clear hK K
            try simp only [Act.put, List.setIfInBounds_toArray, List.set_cons_zero, List.set_cons_succ]
            refine wpAnyH_take (i := 7) (v := ?v117) (at_op rfl) (by kernel_rfl) (by kernel_rfl) (by kernel_rfl) (fun _ _ _ h => h) (Or.inl ⟨by rfl, ?y117⟩) (by assumption) ?r117
            case y117 =>
              intro wx hSx
              go_simp
              try with_reducible rfl
            try simp only [Act.put, List.setIfInBounds_toArray, List.set_cons_zero, List.set_cons_succ]
            refine wpAnyH_take (i := 8) (v := ?v118) (at_op rfl) (by kernel_rfl) (by kernel_rfl) (by kernel_rfl) (fun _ _ _ h => h) (Or.inl ⟨by rfl, ?y118⟩) (by assumption) ?r118
            case y118 =>
              intro wx hSx
              go_simp
              try with_reducible rfl
            try simp only [Act.put, List.setIfInBounds_toArray, List.set_cons_zero, List.set_cons_succ]
            refine wpAnyH_take (i := 9) (v := ?v119) (at_op rfl) (by kernel_rfl) (by kernel_rfl) (by kernel_rfl) (fun _ _ _ h => h) (Or.inl ⟨by rfl, ?y119⟩) (by assumption) ?r119
            case y119 =>
              intro wx hSx
              go_simp
              try with_reducible rfl
            try simp only [Act.put, List.setIfInBounds_toArray, List.set_cons_zero, List.set_cons_succ]
            refine wpAnyH_take (i := 10) (v := ?v120) (at_op rfl) (by kernel_rfl) (by kernel_rfl) (by kernel_rfl) (fun _ _ _ h => h) (Or.inl ⟨by rfl, ?y120⟩) (by assumption) ?r120
            case y120 =>
              intro wx hSx
              go_simp
              try with_reducible rfl
            try simp only [Act.put, List.setIfInBounds_toArray, List.set_cons_zero, List.set_cons_succ]
            refine wpAnyH_take (i := 11) (v := ?v121) (at_op rfl) (by kernel_rfl) (by kernel_rfl) (by kernel_rfl) (fun _ _ _ h => h) (Or.inl ⟨by rfl, ?y121⟩) (by assumption) ?r121
            case y121 =>
              intro wx hSx
              go_simp
              try with_reducible rfl
            try simp only [Act.put, List.setIfInBounds_toArray, List.set_cons_zero, List.set_cons_succ]
            refine wpAnyH_take (i := 12) (v := ?v122) (at_op rfl) (by kernel_rfl) (by kernel_rfl) (by kernel_rfl) (fun _ _ _ h => h) (Or.inl ⟨by rfl, ?y122⟩) (by assumption) ?r122
            case y122 =>
              intro wx hSx
              go_simp
              try with_reducible rfl
            try simp only [Act.put, List.setIfInBounds_toArray, List.set_cons_zero, List.set_cons_succ]
            refine wpAnyH_take (i := 13) (v := ?v123) (at_op rfl) (by kernel_rfl) (by kernel_rfl) (by kernel_rfl) (fun _ _ _ h => h) (Or.inl ⟨by rfl, ?y123⟩) (by assumption) ?r123
            case y123 =>
              intro wx hSx
              go_simp
              try with_reducible rfl
            try simp only [Act.put, List.setIfInBounds_toArray, List.set_cons_zero, List.set_cons_succ]
            refine wpAnyH_take (i := 14) (v := undef) (at_op rfl) (by kernel_rfl) (by kernel_rfl) (by kernel_rfl) (fun _ _ _ h => h) (Or.inr ⟨by rfl, rfl⟩) (by assumption) ?_
            try simp only [Act.put, List.setIfInBounds_toArray, List.set_cons_zero, List.set_cons_succ]
            refine wpAnyH_take (i := 15) (v := undef) (at_op rfl) (by kernel_rfl) (by kernel_rfl) (by kernel_rfl) (fun _ _ _ h => h) (Or.inr ⟨by rfl, rfl⟩) (by assumption) ?_
            try simp only [Act.put, List.setIfInBounds_toArray, List.set_cons_zero, List.set_cons_succ]
            refine wpAnyH_take (i := 16) (v := undef) (at_op rfl) (by kernel_rfl) (by kernel_rfl) (by kernel_rfl) (fun _ _ _ h => h) (Or.inr ⟨by rfl, rfl⟩) (by assumption) ?_
            try simp only [Act.put, List.setIfInBounds_toArray, List.set_cons_zero, List.set_cons_succ]
            refine wpAnyH_take (i := 17) (v := undef) (at_op rfl) (by kernel_rfl) (by kernel_rfl) (by kernel_rfl) (fun _ _ _ h => h) (Or.inr ⟨by rfl, rfl⟩) (by assumption) ?_
            try simp only [Act.put, List.setIfInBounds_toArray, List.set_cons_zero, List.set_cons_succ]
            refine wpAnyH_take (i := 18) (v := undef) (at_op rfl) (by kernel_rfl) (by kernel_rfl) (by kernel_rfl) (fun _ _ _ h => h) (Or.inr ⟨by rfl, rfl⟩) (by assumption) ?_
            try simp only [Act.put, List.setIfInBounds_toArray, List.set_cons_zero, List.set_cons_succ]
            refine wpAnyH_take (i := 19) (v := undef) (at_op rfl) (by kernel_rfl) (by kernel_rfl) (by kernel_rfl) (fun _ _ _ h => h) (Or.inr ⟨by rfl, rfl⟩) (by assumption) ?_
            try simp only [Act.put, List.setIfInBounds_toArray, List.set_cons_zero, List.set_cons_succ]
            refine wpAnyH_take (i := 20) (v := undef) (at_op rfl) (by kernel_rfl) (by kernel_rfl) (by kernel_rfl) (fun _ _ _ h => h) (Or.inr ⟨by rfl, rfl⟩) (by assumption) ?_
            try simp only [Act.put, List.setIfInBounds_toArray, List.set_cons_zero, List.set_cons_succ]
            refine wpAnyH_take (i := 21) (v := undef) (at_op rfl) (by kernel_rfl) (by kernel_rfl) (by kernel_rfl) (fun _ _ _ h => h) (Or.inr ⟨by rfl, rfl⟩) (by assumption) ?_
            try simp only [Act.put, List.setIfInBounds_toArray, List.set_cons_zero, List.set_cons_succ]
            refine wpAnyH_take (i := 22) (v := undef) (at_op rfl) (by kernel_rfl) (by kernel_rfl) (by kernel_rfl) (fun _ _ _ h => h) (Or.inr ⟨by rfl, rfl⟩) (by assumption) ?_
            try simp only [Act.put, List.setIfInBounds_toArray, List.set_cons_zero, List.set_cons_succ]
            refine wpAnyH_take (i := 23) (v := ?v124) (at_op rfl) (by kernel_rfl) (by kernel_rfl) (by kernel_rfl) (fun _ _ _ h => h) (Or.inl ⟨by rfl, ?y124⟩) (by assumption) ?r124
            case y124 =>
              intro wx hSx
              go_simp
              try with_reducible rfl
            try simp only [Act.put, List.setIfInBounds_toArray, List.set_cons_zero, List.set_cons_succ]
            refine wpAnyH_take (i := 24) (v := ?v125) (at_op rfl) (by kernel_rfl) (by kernel_rfl) (by kernel_rfl) (fun _ _ _ h => h) (Or.inl ⟨by rfl, ?y125⟩) (by assumption) ?r125
            case y125 =>
              intro wx hSx
              go_simp
              try with_reducible rfl
            try simp only [Act.put, List.setIfInBounds_toArray, List.set_cons_zero, List.set_cons_succ]
            refine wpAnyH_done (by kernel_rfl) ?_ _
            clear wk
            go_wp2
            go_roundw
            case rel => exact ⟨k + 1, by omega, by go_num, range_all_succ HA.out HF.out, hb.drew, hX.drew⟩
            case measure => simp [intOf]; omega
        · have hki : ¬ (k : Int) < (x.chunks.length : Int) := by omega
          have HF : Hid ((List.range x.chunks.length).all (chunkOk x.rules x.chunks) = true) := by have e := HA.out; rw [show k = x.chunks.length by omega] at e; exact e
          have hm : x.chunks.length - 1 < x.chunks.length := by omega
          obtain ⟨b, off, rfl, hlo, hhi, c0, c1, c2, c3, c4⟩ := hc5 _ hm
          have d1 := (hb.cell (p := ⟨b, _, none⟩) (by show b < _; omega)).trans c1
          have d2 := (hb.cell (p := ⟨b, _, none⟩) (by show b < _; omega)).trans c2
          have d3 := (hb.cell (p := ⟨b, _, none⟩) (by show b < _; omega)).trans c3
          have d4 := (hb.cell (p := ⟨b, _, none⟩) (by show b < _; omega)).trans c4
          have HL := Lib.hid (show lastOk x.chunks = (decide (x.chunks[x.chunks.length - 1].rule = 0) && decide (x.chunks[x.chunks.length - 1].fro = 0) && !x.chunks[x.chunks.length - 1].space && decide (x.chunks[x.chunks.length - 1].nest = 0)) by rw [lastOk, chunkAt_lt hm])
          have e1 : ((x.chunks.length : Int) - 1).toNat = x.chunks.length - 1 := by omega
          have e2 : (0 : Int) ≤ (x.chunks.length : Int) - 1 := by omega
          have e3 : (x.chunks.length : Int) - 1 < (x.chunks.length : Int) := by omega
          clear c0 c1 c2 c3 c4
          generalize x.chunks[x.chunks.length - 1] = ck at *
          obtain ⟨text, rule, fro, space, nest⟩ := ck
          simp only at d1 d2 d3 d4 HL
          have d2' : wr.cell? ⟨b, off + (x.chunks.length - 1) * 5 + 1 + 1, none⟩ = some (.int .i64 fro) := d2
          have d3' : wr.cell? ⟨b, off + (x.chunks.length - 1) * 5 + 1 + 2, none⟩ = some (.bool space) := d3
          have d4' : wr.cell? ⟨b, off + (x.chunks.length - 1) * 5 + 1 + 3, none⟩ = some (.int .i64 nest) := d4
          clear d2 d3 d4 HA hv
          have HV := Lib.hid (show pieceOk x = (lastOk x.chunks && x.spans.all (spanOk x.chunks.length) && x.ties.all (tieOk x.rules.length)) by rw [HQ.out, HF.out]; simp)
          cases hl : lastOk x.chunks with
          | false =>
            have HF2 := Lib.hid (show pieceOk x = false by rw [HV.out, hl]; simp)
            rw [HL.out] at hl
            have hl' : ¬ (rule = 0 ∧ fro = 0 ∧ space = false ∧ nest = 0) := by
              rintro ⟨rfl, rfl, rfl, rfl⟩
              cases hl
            clear HL hl
            go_wp2
            all_goals first | (exfalso; apply hl'; simp [*]; done) | (go_ret; exact ⟨ret_bool HF2.out.symm, by rw [← HB.out]; exact hb⟩)
          | true =>
            have HU := Lib.hid (show pieceOk x = (x.spans.all (spanOk x.chunks.length) && x.ties.all (tieOk x.rules.length)) by rw [HV.out, hl]; simp)
            rw [HL.out] at hl
            simp only [Bool.and_eq_true, decide_eq_true_eq, Bool.not_eq_true'] at hl
            obtain ⟨⟨⟨rfl, rfl⟩, rfl⟩, rfl⟩ := hl
            clear HL HV HQ HP
            go_wp2
            go_loopw [6] (fun i wr => ∃ k : Nat, k ≤ x.spans.length ∧ i = .int .i64 k ∧ Hid ((x.spans.take k).all (spanOk x.chunks.length) = true) ∧ Below B w wr ∧ PBox x ra rc (some ⟨b, off, none⟩) cc sa sc ta tc w.heap.size wr) (fun i _ => x.spans.length - (intOf i).toNat)
            case atStart => exact ⟨0, Nat.zero_le _, rfl, rfl, hb, hX⟩
            case round =>
              obtain ⟨k, hk, rfl, HA, hb, hX⟩ := hrel
              have hsz := hb.size
              have hxl := hX.lt
              obtain ⟨p0, p1, p2, p3, p4⟩ := hX.five
              by_cases hlt : k < x.spans.length
              · have hki : (k : Int) < (x.spans.length : Int) := by omega
                have hkz : (0 : Int) ≤ (k : Int) := by omega
                obtain ⟨b, off, rfl, hlo, hhi, c0, c1, c2⟩ := hsp5 k hlt
                have d0 := (hb.cell (p := ⟨b, _, none⟩) (by show b < _; omega)).trans c0
                have d1 := (hb.cell (p := ⟨b, _, none⟩) (by show b < _; omega)).trans c1
                have d2 := (hb.cell (p := ⟨b, _, none⟩) (by show b < _; omega)).trans c2
                have HT := Lib.hid (List.take_succ_eq_append_getElem hlt)
                have HN := Lib.hid (fun h : spanOk x.chunks.length x.spans[k] = false => (allp_no hlt h : x.spans.all (spanOk x.chunks.length) = false))
                clear c0 c1 c2
                generalize x.spans[k] = sp at *
                obtain ⟨fro, til, cost⟩ := sp
                simp only at d0 d1 d2
                have hX1 := hX.alloc (.cells #[.int .i64 fro, .int .i64 til, .int .i64 cost] 121)
                have hb1 := hb.alloc (by omega) (.cells #[.int .i64 fro, .int .i64 til, .int .i64 cost] 121)
                have hl3 := hX1.lt
                cases f1 : inR til 0 ((x.chunks.length : Int) - 2) with
                | false =>
                  have HF := Lib.hid (show pieceOk x = false by rw [HU.out, HN.out (by simp [spanOk, f1])]; rfl)
                  go_wp2_with (first | (go_at_call 57; refine (l01In_any _ _ _ _).mono ?_; rintro e w' ⟨rfl, rfl⟩) | fail)
                  go_ret
                  exact ⟨ret_bool HF.out.symm, by rw [← HB.out]; exact hb1⟩
                | true =>
                  cases f2 : inR fro 0 til with
                  | false =>
                    have HF := Lib.hid (show pieceOk x = false by rw [HU.out, HN.out (by simp [spanOk, f1, f2])]; rfl)
                    go_wp2_with (first | (go_at_call 57; refine (l01In_any _ _ _ _).mono ?_; rintro e w' ⟨rfl, rfl⟩) | fail)
                    go_ret
                    exact ⟨ret_bool HF.out.symm, by rw [← HB.out]; exact hb1⟩
                  | true =>
                    cases f3 : inR cost 0 9 with
                    | false =>
                      have HF := Lib.hid (show pieceOk x = false by rw [HU.out, HN.out (by simp [spanOk, f1, f2, f3])]; rfl)
                      go_wp2_with (first | (go_at_call 57; refine (l01In_any _ _ _ _).mono ?_; rintro e w' ⟨rfl, rfl⟩) | fail)
                      go_ret
                      exact ⟨ret_bool HF.out.symm, by rw [← HB.out]; exact hb1⟩
                    | true =>
                      have HF := Lib.hid (show spanOk x.chunks.length ⟨fro, til, cost⟩ = true by simp [spanOk, f1, f2, f3])
                      go_wp2_with (first | (go_at_call 57; refine (l01In_any _ _ _ _).mono ?_; rintro e w' ⟨rfl, rfl⟩) | fail)
                      go_roundw
                      case rel => exact ⟨k + 1, by omega, by go_num, allp_succ HT.out HA.out HF.out, hb1, hX1⟩
                      case measure => simp [intOf]; omega
              · have hki : ¬ (k : Int) < (x.spans.length : Int) := by omega
                have HS : Hid (x.spans.all (spanOk x.chunks.length) = true) := by have e := HA.out; rw [List.take_of_length_le (by omega)] at e; exact e
                have HW := Lib.hid (show pieceOk x = x.ties.all (tieOk x.rules.length) by rw [HU.out, HS.out]; simp)
                clear HA
                go_wp2
                go_loopw [8] (fun i wr => ∃ k : Nat, k ≤ x.ties.length ∧ i = .int .i64 k ∧ Hid ((x.ties.take k).all (tieOk x.rules.length) = true) ∧ Below B w wr ∧ PBox x ra rc (some ⟨b, off, none⟩) cc sa sc ta tc w.heap.size wr) (fun i _ => x.ties.length - (intOf i).toNat)
                case atStart => exact ⟨0, Nat.zero_le _, rfl, rfl, hb, hX⟩
                case round =>
                  obtain ⟨k, hk, rfl, HA, hb, hX⟩ := hrel
                  have hsz := hb.size
                  have hxl := hX.lt
                  obtain ⟨p0, p1, p2, p3, p4⟩ := hX.five
                  by_cases hlt : k < x.ties.length
                  · have hki : (k : Int) < (x.ties.length : Int) := by omega
                    have hkz : (0 : Int) ≤ (k : Int) := by omega
                    obtain ⟨b, off, rfl, hlo, hhi, c0, c1⟩ := ht5 k hlt
                    have d0 := (hb.cell (p := ⟨b, _, none⟩) (by show b < _; omega)).trans c0
                    have d1 := (hb.cell (p := ⟨b, _, none⟩) (by show b < _; omega)).trans c1
                    have HT := Lib.hid (List.take_succ_eq_append_getElem hlt)
                    have HN := Lib.hid (fun h : tieOk x.rules.length x.ties[k] = false => (allp_no hlt h : x.ties.all (tieOk x.rules.length) = false))
                    clear c0 c1
                    generalize x.ties[k] = tt at *
                    obtain ⟨kid, up⟩ := tt
                    simp only at d0 d1
                    have hX1 := hX.alloc (.cells #[.int .i64 kid, .int .i64 up] 101)
                    have hb1 := hb.alloc (by omega) (.cells #[.int .i64 kid, .int .i64 up] 101)
                    obtain ⟨q0, q1, q2, q3, q4⟩ := hX1.five
                    have hl3 := hX1.lt
                    cases f1 : inR kid 0 ((x.rules.length : Int) - 1) with
                    | false =>
                      have HF := Lib.hid (show pieceOk x = false by rw [HW.out, HN.out (by simp [tieOk, f1])])
                      go_wp2_with (first | (go_at_call 57; refine (l01In_any _ _ _ _).mono ?_; rintro e w' ⟨rfl, rfl⟩) | fail)
                      go_ret
                      exact ⟨ret_bool HF.out.symm, by rw [← HB.out]; exact hb1⟩
                    | true =>
                      cases f2 : inR up 0 ((x.rules.length : Int) - 1) with
                      | false =>
                        have HF := Lib.hid (show pieceOk x = false by rw [HW.out, HN.out (by simp [tieOk, f1, f2])])
                        go_wp2_with (first | (go_at_call 57; refine (l01In_any _ _ _ _).mono ?_; rintro e w' ⟨rfl, rfl⟩) | fail)
                        go_ret
                        exact ⟨ret_bool HF.out.symm, by rw [← HB.out]; exact hb1⟩
                      | true =>
                        by_cases f3 : kid = up
                        · have f3d : decide (kid = up) = true := decide_eq_true f3
                          have HF := Lib.hid (show pieceOk x = false by rw [HW.out, HN.out (by simp [tieOk, f3])])
                          have f3e : (kid == up) = true := by rw [f3]; simp
                          clear f3
                          go_wp2_with (first | (go_at_call 57; refine (l01In_any _ _ _ _).mono ?_; rintro e w' ⟨rfl, rfl⟩) | fail)
                          go_ret
                          exact ⟨ret_bool HF.out.symm, by rw [← HB.out]; exact hb1⟩
                        · have f3d : decide (kid = up) = false := decide_eq_false f3
                          have HF := Lib.hid (show tieOk x.rules.length ⟨kid, up⟩ = true by simp [tieOk, f1, f2, f3])
                          have f3e : (kid == up) = false := beq_eq_false_iff_ne.2 f3
                          clear f3 f3d
                          go_wp2_with (first | (go_at_call 57; refine (l01In_any _ _ _ _).mono ?_; rintro e w' ⟨rfl, rfl⟩) | fail)
                          go_roundw
                          case rel => exact ⟨k + 1, by omega, by go_num, allp_succ HT.out HA.out HF.out, hb1, hX1⟩
                          case measure => simp [intOf]; omega
                  · have hki : ¬ (k : Int) < (x.ties.length : Int) := by omega
                    have HF : Hid (pieceOk x = true) := by have e := HA.out; rw [List.take_of_length_le (by omega)] at e; unfold Hid; rw [HW.out, e]
                    go_wp2
                    go_ret
                    exact ⟨ret_bool HF.out.symm, by rw [← HB.out]; exact hb⟩
end Go.Proofs.Ytllpgomloblfjaa
