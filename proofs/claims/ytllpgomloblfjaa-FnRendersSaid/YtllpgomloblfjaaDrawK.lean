/- spec.l08Any: a piece that is drawn, and may be wrong. -/
import Derived.Test.YtllpgomloblfjaaDrawL
namespace Go.Proofs.Ytllpgomloblfjaa
open Go.RowKit

/-- a drawn region of finitely many states: each is walked with those behind it -/
theorem any_states {G : Nat → Array Bool → Act → World → Prop} {σ : Type} (rank : σ → Nat) (L : σ → Array Bool) (I : σ → Act → World → Prop)
    (h : ∀ s a w, I s a w → (∀ s' a' w', rank s' < rank s → I s' a' w' → G (rank s') (L s') a' w') → G (rank s) (L s) a w) : ∀ (n : Nat) (s : σ), rank s = n → ∀ a w, I s a w → G (rank s) (L s) a w := by
  intro n
  induction n using Nat.strongRecOn with
  | ind n ih => intro s hs a w hI; exact h s a w hI (fun s' a' w' hr hI' => ih (rank s') (by omega) s' rfl a' w' hI')
theorem stored5 {g : Nat} {u0 u1 u2 u3 u4 : Value} {T : TypeId} {w : World} (h : w.heap[g]? = some (.cells #[u0, u1, u2, u3, u4] T)) : ∀ (vs : List Value), vs.length = 5 → ((storeAll g vs 0 w).cell? ⟨g, 0, none⟩ = vs[0]? ∧ (storeAll g vs 0 w).cell? ⟨g, 1, none⟩ = vs[1]? ∧ (storeAll g vs 0 w).cell? ⟨g, 2, none⟩ = vs[2]? ∧ (storeAll g vs 0 w).cell? ⟨g, 3, none⟩ = vs[3]? ∧ (storeAll g vs 0 w).cell? ⟨g, 4, none⟩ = vs[4]?) := by
  intro vs hv
  have z0 := cell_heap (j := 0) h rfl
  have z1 := cell_heap (j := 1) h rfl
  have z2 := cell_heap (j := 2) h rfl
  have z3 := cell_heap (j := 3) h rfl
  have z4 := cell_heap (j := 4) h rfl
  have h6 := storeAll_at (g := g) vs 0 w (fun j hj => by
    rw [Nat.zero_add]
    have : j = 0 ∨ j = 1 ∨ j = 2 ∨ j = 3 ∨ j = 4 := by omega
    rcases this with rfl | rfl | rfl | rfl | rfl
    · exact ⟨_, z0⟩
    · exact ⟨_, z1⟩
    · exact ⟨_, z2⟩
    · exact ⟨_, z3⟩
    · exact ⟨_, z4⟩)
  have k : ∀ j, j < 5 → (storeAll g vs 0 w).cell? ⟨g, j, none⟩ = vs[j]? := fun j hj => by
    have h7 := h6 j (vs[j]'(by omega)) (List.getElem?_eq_getElem (by omega))
    rw [Nat.zero_add] at h7
    rw [h7, List.getElem?_eq_getElem]
  exact ⟨k 0 (by omega), k 1 (by omega), k 2 (by omega), k 3 (by omega), k 4 (by omega)⟩
theorem AllReadyN.app {P : Program} {md : Region.Mode} {ops : Array Oper} {Q : Exit → Act → World → Prop} {S : World → Prop} {N fuel : Nat} {listed : Array Bool} {a : Act} {w : World} {i : Nat} {rs : List Nat} (h : AllReadyN P md ops Q S N fuel listed a w [i]) (hs : AllReadyN P md ops Q S N fuel listed a w rs) : AllReadyN P md ops Q S N fuel listed a w (i :: rs) := fun j hj => by
  rcases List.mem_cons.1 hj with rfl | hj
  · exact h j (by simp)
  · exact hs j hj
inductive C8 where
  | c0000
  | c0001
  | c0010
  | c0011
  | c0100
  | c0101
  | c0110
  | c0111
  | c1000
  | c1001
  | c1010
  | c1011
  | c1100
  | c1101
  | c1110
  | c1111
  | c2000
  | c2001
  | c2010
  | c2011
  | c2100
  | c2101
  | c2110
  | c2111
  | c2200
  | c2201
  | c2210
  | c2211
  | c2220
  | c2221
  | c2222
def C8.listed : C8 → Array Bool
  | .c0000 => #[true, true, false, true, true, false, false, true, true, false, false, true, true, false, false, true, true, false, false, false]
  | .c0001 => #[true, true, false, true, true, false, false, true, true, false, false, true, true, false, true, true, true, false, false, false]
  | .c0010 => #[true, true, false, true, true, false, false, true, true, false, true, true, true, false, false, true, true, false, false, false]
  | .c0011 => #[true, true, false, true, true, false, false, true, true, false, true, true, true, false, true, true, true, false, false, false]
  | .c0100 => #[true, true, false, true, true, false, true, true, true, false, false, true, true, false, false, true, true, false, false, false]
  | .c0101 => #[true, true, false, true, true, false, true, true, true, false, false, true, true, false, true, true, true, false, false, false]
  | .c0110 => #[true, true, false, true, true, false, true, true, true, false, true, true, true, false, false, true, true, false, false, false]
  | .c0111 => #[true, true, false, true, true, false, true, true, true, false, true, true, true, false, true, true, true, false, false, false]
  | .c1000 => #[true, true, true, true, true, false, false, true, true, false, false, true, true, false, false, true, true, false, false, false]
  | .c1001 => #[true, true, true, true, true, false, false, true, true, false, false, true, true, false, true, true, true, false, false, false]
  | .c1010 => #[true, true, true, true, true, false, false, true, true, false, true, true, true, false, false, true, true, false, false, false]
  | .c1011 => #[true, true, true, true, true, false, false, true, true, false, true, true, true, false, true, true, true, false, false, false]
  | .c1100 => #[true, true, true, true, true, false, true, true, true, false, false, true, true, false, false, true, true, false, false, false]
  | .c1101 => #[true, true, true, true, true, false, true, true, true, false, false, true, true, false, true, true, true, false, false, false]
  | .c1110 => #[true, true, true, true, true, false, true, true, true, false, true, true, true, false, false, true, true, false, false, false]
  | .c1111 => #[true, true, true, true, true, false, true, true, true, false, true, true, true, false, true, true, true, false, false, false]
  | .c2000 => #[true, true, true, true, true, true, false, true, true, false, false, true, true, false, false, true, true, false, false, false]
  | .c2001 => #[true, true, true, true, true, true, false, true, true, false, false, true, true, false, true, true, true, false, false, false]
  | .c2010 => #[true, true, true, true, true, true, false, true, true, false, true, true, true, false, false, true, true, false, false, false]
  | .c2011 => #[true, true, true, true, true, true, false, true, true, false, true, true, true, false, true, true, true, false, false, false]
  | .c2100 => #[true, true, true, true, true, true, true, true, true, false, false, true, true, false, false, true, true, false, false, false]
  | .c2101 => #[true, true, true, true, true, true, true, true, true, false, false, true, true, false, true, true, true, false, false, false]
  | .c2110 => #[true, true, true, true, true, true, true, true, true, false, true, true, true, false, false, true, true, false, false, false]
  | .c2111 => #[true, true, true, true, true, true, true, true, true, false, true, true, true, false, true, true, true, false, false, false]
  | .c2200 => #[true, true, true, true, true, true, true, true, true, true, false, true, true, false, false, true, true, false, false, false]
  | .c2201 => #[true, true, true, true, true, true, true, true, true, true, false, true, true, false, true, true, true, false, false, false]
  | .c2210 => #[true, true, true, true, true, true, true, true, true, true, true, true, true, false, false, true, true, false, false, false]
  | .c2211 => #[true, true, true, true, true, true, true, true, true, true, true, true, true, false, true, true, true, false, false, false]
  | .c2220 => #[true, true, true, true, true, true, true, true, true, true, true, true, true, true, false, true, true, false, false, false]
  | .c2221 => #[true, true, true, true, true, true, true, true, true, true, true, true, true, true, true, true, true, false, false, false]
  | .c2222 => #[true, true, true, true, true, true, true, true, true, true, true, true, true, true, true, true, true, true, false, false]
def C8.rank : C8 → Nat
  | .c0000 => 10
  | .c0001 => 9
  | .c0010 => 9
  | .c0011 => 8
  | .c0100 => 9
  | .c0101 => 8
  | .c0110 => 8
  | .c0111 => 7
  | .c1000 => 9
  | .c1001 => 8
  | .c1010 => 8
  | .c1011 => 7
  | .c1100 => 8
  | .c1101 => 7
  | .c1110 => 7
  | .c1111 => 6
  | .c2000 => 8
  | .c2001 => 7
  | .c2010 => 7
  | .c2011 => 6
  | .c2100 => 7
  | .c2101 => 6
  | .c2110 => 6
  | .c2111 => 5
  | .c2200 => 6
  | .c2201 => 5
  | .c2210 => 5
  | .c2211 => 4
  | .c2220 => 4
  | .c2221 => 3
  | .c2222 => 2
def C8.st : C8 → Nat × Nat × Nat × Nat
  | .c0000 => (0, 0, 0, 0)
  | .c0001 => (0, 0, 0, 1)
  | .c0010 => (0, 0, 1, 0)
  | .c0011 => (0, 0, 1, 1)
  | .c0100 => (0, 1, 0, 0)
  | .c0101 => (0, 1, 0, 1)
  | .c0110 => (0, 1, 1, 0)
  | .c0111 => (0, 1, 1, 1)
  | .c1000 => (1, 0, 0, 0)
  | .c1001 => (1, 0, 0, 1)
  | .c1010 => (1, 0, 1, 0)
  | .c1011 => (1, 0, 1, 1)
  | .c1100 => (1, 1, 0, 0)
  | .c1101 => (1, 1, 0, 1)
  | .c1110 => (1, 1, 1, 0)
  | .c1111 => (1, 1, 1, 1)
  | .c2000 => (2, 0, 0, 0)
  | .c2001 => (2, 0, 0, 1)
  | .c2010 => (2, 0, 1, 0)
  | .c2011 => (2, 0, 1, 1)
  | .c2100 => (2, 1, 0, 0)
  | .c2101 => (2, 1, 0, 1)
  | .c2110 => (2, 1, 1, 0)
  | .c2111 => (2, 1, 1, 1)
  | .c2200 => (2, 2, 0, 0)
  | .c2201 => (2, 2, 0, 1)
  | .c2210 => (2, 2, 1, 0)
  | .c2211 => (2, 2, 1, 1)
  | .c2220 => (2, 2, 2, 0)
  | .c2221 => (2, 2, 2, 1)
  | .c2222 => (2, 2, 2, 2)
/-- how far a row is: not begun, an empty slice, the copy -/
def RowSt {α : Type} (F : Flat α) (T B : Nat) (w : World) (t s : Value) (xs : List α) : Nat → Prop
  | 0 => True
  | 1 => Own F T B w.heap.size w t []
  | _ => ∃ a c, s = .slice a xs.length c ∧ Own F T B w.heap.size w (.slice a xs.length c) xs
def C8.fr (x : Piece) (ra : Option Addr) (rc : Nat) (ca : Option Addr) (cc : Nat) (sa : Option Addr) (sc : Nat) (ta : Option Addr) (tc : Nat) (A W : Nat) (t1 s1 t2 s2 t3 s3 t4 s4 : Value) : Act :=
  { tmps := #[.agg #[.int .i64 x.indent, .slice ra x.rules.length rc, .slice ca x.chunks.length cc, .slice sa x.spans.length sc, .slice ta x.ties.length tc], .pointer (some ⟨A, 0, none⟩), .pointer (some ⟨W, 0, none⟩), .pointer (some ⟨A, 0, none⟩), .int .i64 x.indent, t1, .pointer (some ⟨A, 1, none⟩), .slice ra x.rules.length rc, s1, t2, .pointer (some ⟨A, 2, none⟩), .slice ca x.chunks.length cc, s2, t3, .pointer (some ⟨A, 3, none⟩), .slice sa x.spans.length sc, s3, t4, .pointer (some ⟨A, 4, none⟩), .slice ta x.ties.length tc, s4, undef], defers := [] }
/-- the state of the copy: B: the rows are from block B on -/
structure C8.In (x : Piece) (ra : Option Addr) (rc : Nat) (ca : Option Addr) (cc : Nat) (sa : Option Addr) (sc : Nat) (ta : Option Addr) (tc : Nat) (A W B : Nat) (w0 : World) (n : Nat × Nat × Nat × Nat) (t1 s1 t2 s2 t3 s3 t4 s4 : Value) (w : World) : Prop where
  bel : Below B w0 w
  le : B ≤ w.heap.size
  r : RowSt ruleF 92 B w t1 s1 x.rules n.1
  c : RowSt chunkF 56 B w t2 s2 x.chunks n.2.1
  s : RowSt spanF 121 B w t3 s3 x.spans n.2.2.1
  t : RowSt tieF 101 B w t4 s4 x.ties n.2.2.2
theorem RowSt.alloc {α : Type} {F : Flat α} {T B : Nat} {w : World} {t s : Value} {xs : List α} (o : Obj) : ∀ {n : Nat}, RowSt F T B w t s xs n → RowSt F T B (w.alloc o) t s xs n
  | 0, _ => trivial
  | 1, h => (Own.alloc h o).wide (Nat.le_refl _) (by simp)
  | _ + 2, ⟨a, c, e, h⟩ => ⟨a, c, e, (h.alloc o).wide (Nat.le_refl _) (by simp)⟩
theorem RowSt.kept {α β : Type} {F : Flat α} {G : Flat β} {T T' B : Nat} {w w' : World} {t s u : Value} {xs : List α} {ys : List β} (k : Own G T' B w.heap.size w u ys) (hT : T ≠ T') (hg : w.grownBy w' u.ownBlock) : ∀ {n : Nat}, RowSt F T B w t s xs n → RowSt F T B w' t s xs n
  | 0, _ => trivial
  | 1, h => (own_kept h k hT hg (Nat.le_refl _)).wide (Nat.le_refl _) hg.size
  | _ + 2, ⟨a, c, e, h⟩ => ⟨a, c, e, (own_kept h k hT hg (Nat.le_refl _)).wide (Nat.le_refl _) hg.size⟩
section
variable {α : Type} {P : Program} {F : Flat α} {T : TypeId} {B : Nat} {hi : Nat} {w : World} {ops : Array Oper} {rest : List Oper} {o : Oper} {a : Act} {Q : Exit → Act → World → Prop} {v : Value} {xs : List α}
/-- 'out = append(out, ys...)', and nothing but out's own block turns -/
theorem wp_appAllgC (hgd : o.guard = none) (s x : Operand) (t : TypeId) (ho : o.op = .call { callee := .builtin .append, args := #[s, x], argTypes := #[t, t] })
    {i : TypeInfo} {z : Value} {bytes : Nat} (ht : P.underlying t = some (.slice T)) (hi0 : P.info? T = some i) (hz : i.zero = some z) (hsize : i.size = F.size) (hby : i.bytes = bytes) (hzs : z.cells.size = F.size) (hsz : 0 < F.size)
    (hs : a.eval s = v) (hO : Own F T B hi w v xs) {u : Value} {ys : List α} {lo' hi' : Nat} (hx : a.eval x = u) (hr : Rd F.shape lo' hi' w u ys)
    (hbytes : (xs.length + ys.length) * bytes ≤ 140737488355328) (h63 : xs.length + ys.length ≤ 1000000000000) (hbase : B ≤ w.heap.size)
    (h : ∀ v' w', Own F T B w'.heap.size w' v' (xs ++ ys) → Below B w w' → w.grownBy w' v.ownBlock → wpList P ops Q rest (a.put o.dst v') w') : wpList P ops Q (o :: rest) a w := by
  obtain ⟨ao, c, rfl, h2, h3, h4, h5⟩ := hr
  cases ao with
  | none =>
    have hc := h4 rfl
    have hy : ys = [] := List.eq_nil_of_length_eq_zero (by omega)
    subst hy
    subst hc
    refine wpList_append_own_none (w := w) hgd s x t ho B T i F.size ht hi0 v xs.length (F.cells xs) hs hO.1 hx ?_
    have hv := h v w (by rw [List.append_nil]; exact hO.up) (Below.refl _ _) (World.grownBy.refl _ _)
    exact hv
  | some ad =>
    refine wpList_append_own w hgd s x t ho B T i z F.size bytes ht hi0 hz hsize hby hzs hsz v xs.length (F.cells xs) hs hO.1 ad ys.length c (F.cells ys) hx Flat.cells_len ?_ Flat.cells_oneCell ?_ hbytes hbase ?_
    · intro j q hq
      have hj : j < ys.length * F.size := by
        have := (List.getElem?_eq_some_iff.1 hq).1
        rwa [Flat.cells_len] at this
      have hk : j / F.size < ys.length := Nat.div_lt_of_lt_mul (by rw [Nat.mul_comm]; exact hj)
      have hm : j % F.size < F.size := Nat.mod_lt _ hsz
      have e : j = j / F.size * F.size + j % F.size := by rw [Nat.mul_comm]; exact (Nat.div_add_mod j F.size).symm
      obtain ⟨b, off, cs, e1, _, _, rfl, e5⟩ := h5 _ hk
      obtain rfl := Option.some.inj e1
      have h6 := e5 (j % F.size) q (by
        rw [e, Flat.cells_at hk hm] at hq
        exact hq)
      rw [Addr.add_lit]
      have e2 : off + j / F.size * F.shape.size + j % F.size = off + j := by
        show off + j / F.size * F.size + j % F.size = off + j
        omega
      rwa [e2] at h6
    · unfold maxLen; omega
    · intro v' w' h1 h2 _
      exact h v' w' (Own.of_row h1 (by simp) Flat.cells_append.symm (Nat.le_refl _)) (grown_below h2 (fun g hg => (hO.1.lt g hg).1) hbase) h2
end
set_option maxHeartbeats 8000000 in
set_option maxRecDepth 100000 in
theorem l08Copy_any (x : Piece) (ra ca sa ta : Option Addr) (rc cc sc tc lo hi : Nat) (w : World) (hp : PFour x ra rc ca cc sa sc ta tc lo hi w) (hh : hi ≤ w.heap.size) (l1 : x.rules.length ≤ 1048576) (l2 : x.chunks.length ≤ 1048576) (l3 : x.spans.length ≤ 1048576) (l4 : x.ties.length ≤ 1048576) :
    Calls Try.prog 109 #[x.v ra rc ca cc sa sc ta tc] w fun e w' => ∃ ra' rc' ca' cc' sa' sc' ta' tc', e = .returned (x.v ra' rc' ca' cc' sa' sc' ta' tc') ∧ Below w.heap.size w w' ∧ POwn x ra' rc' ca' cc' sa' sc' ta' tc' w.heap.size w'.heap.size w' := by
  obtain ⟨i0, hi0, hz0, hz1, hz2⟩ := info_parts Try.infoRuleD
  obtain ⟨i1, hi1, hy0, hy1, hy2⟩ := info_parts Try.infoChunkD
  obtain ⟨i2, hi2, hx0, hx1, hx2⟩ := info_parts Try.infoSpanD
  obtain ⟨i3, hi3, hu0, hu1, hu2⟩ := info_parts Try.infoTieD
  unfold Piece.v
  go_enter Try.func109, Try.ntmps109
  go_upto_region 1 with fail
  have hA := heap_alloc_new w (.cells #[.int .i64 x.indent, .slice ra x.rules.length rc, .slice ca x.chunks.length cc, .slice sa x.spans.length sc, .slice ta x.ties.length tc] 29)
  have kA : Below w.heap.size w (w.alloc (.cells #[.int .i64 x.indent, .slice ra x.rules.length rc, .slice ca x.chunks.length cc, .slice sa x.spans.length sc, .slice ta x.ties.length tc] 29)) := (Below.refl _ _).alloc (Nat.le_refl _) _
  have sA : (w.alloc (.cells #[.int .i64 x.indent, .slice ra x.rules.length rc, .slice ca x.chunks.length cc, .slice sa x.spans.length sc, .slice ta x.ties.length tc] 29)).heap.size = w.heap.size + 1 := by simp
  generalize w.alloc (.cells #[.int .i64 x.indent, .slice ra x.rules.length rc, .slice ca x.chunks.length cc, .slice sa x.spans.length sc, .slice ta x.ties.length tc] 29) = wq at *
  have hW := heap_alloc_new wq (.cells #[.int .i64 0, .slice none 0 0, .slice none 0 0, .slice none 0 0, .slice none 0 0] 29)
  have kW : Below wq.heap.size wq (wq.alloc (.cells #[.int .i64 0, .slice none 0 0, .slice none 0 0, .slice none 0 0, .slice none 0 0] 29)) := (Below.refl _ _).alloc (Nat.le_refl _) _
  have sW : (wq.alloc (.cells #[.int .i64 0, .slice none 0 0, .slice none 0 0, .slice none 0 0, .slice none 0 0] 29)).heap.size = wq.heap.size + 1 := by simp
  generalize wq.alloc (.cells #[.int .i64 0, .slice none 0 0, .slice none 0 0, .slice none 0 0, .slice none 0 0] 29) = w1 at *
  rw [sA] at hW
  obtain ⟨A, hAe⟩ : ∃ A, A = w.heap.size := ⟨_, rfl⟩
  have hA1 := blk kW hA
  have hb1 : Below A w w1 := by rw [hAe]; exact kA.trans (kW.mono (by omega))
  have hbx : PBox x ra rc ca cc sa sc ta tc A w1 := by rw [hAe]; exact hA1
  have hp1 := hp.below hb1 (by omega)
  have hhA : hi ≤ A := by omega
  obtain ⟨B, hB⟩ : ∃ B, Hid (B = A + 2) := ⟨_, rfl⟩
  have hB1 : B = w1.heap.size := by have := hB.out; omega
  rw [← hAe] at hW ⊢
  clear hA kA kW hA1 sA sW hp hh
  have HAe := Lib.hid hAe
  clear hAe
  refine wp_regionN_drew (S := fun w' => PBox x ra rc ca cc sa sc ta tc A w') 19 (by kernel_rfl) ?_ (fun hHeld => ?_)
  · exact hbx.drew
  refine wpAnyN_take (i := 0) (v := ?v1) (at_op rfl) (by kernel_rfl) (by kernel_rfl) (by kernel_rfl) (by kernel_rfl) (fun _ _ _ h => h) (Or.inl ⟨by rfl, ?y1⟩) (by assumption) ?r1
  case y1 =>
    intro wx hSx
    obtain ⟨p0, p1, p2, p3, p4⟩ := hSx.five
    go_simp
    try with_reducible rfl
  try simp only [Act.put, List.setIfInBounds_toArray, List.set_cons_zero, List.set_cons_succ]
  refine wpAnyN_take (i := 1) (v := ?v2) (at_op rfl) (by kernel_rfl) (by kernel_rfl) (by kernel_rfl) (by kernel_rfl) (fun _ _ _ h => h) (Or.inl ⟨by rfl, ?y2⟩) (by assumption) ?r2
  case y2 =>
    intro wx hSx
    obtain ⟨p0, p1, p2, p3, p4⟩ := hSx.five
    go_simp
    try with_reducible rfl
  try simp only [Act.put, List.setIfInBounds_toArray, List.set_cons_zero, List.set_cons_succ]
  refine wpAnyN_take (i := 3) (v := ?v3) (at_op rfl) (by kernel_rfl) (by kernel_rfl) (by kernel_rfl) (by kernel_rfl) (fun _ _ _ h => h) (Or.inl ⟨by rfl, ?y3⟩) (by assumption) ?r3
  case y3 =>
    intro wx hSx
    obtain ⟨p0, p1, p2, p3, p4⟩ := hSx.five
    go_simp
    try with_reducible rfl
  try simp only [Act.put, List.setIfInBounds_toArray, List.set_cons_zero, List.set_cons_succ]
  refine wpAnyN_take (i := 4) (v := ?v4) (at_op rfl) (by kernel_rfl) (by kernel_rfl) (by kernel_rfl) (by kernel_rfl) (fun _ _ _ h => h) (Or.inl ⟨by rfl, ?y4⟩) (by assumption) ?r4
  case y4 =>
    intro wx hSx
    obtain ⟨p0, p1, p2, p3, p4⟩ := hSx.five
    go_simp
    try with_reducible rfl
  try simp only [Act.put, List.setIfInBounds_toArray, List.set_cons_zero, List.set_cons_succ]
  refine wpAnyN_take (i := 7) (v := ?v5) (at_op rfl) (by kernel_rfl) (by kernel_rfl) (by kernel_rfl) (by kernel_rfl) (fun _ _ _ h => h) (Or.inl ⟨by rfl, ?y5⟩) (by assumption) ?r5
  case y5 =>
    intro wx hSx
    obtain ⟨p0, p1, p2, p3, p4⟩ := hSx.five
    go_simp
    try with_reducible rfl
  try simp only [Act.put, List.setIfInBounds_toArray, List.set_cons_zero, List.set_cons_succ]
  refine wpAnyN_take (i := 8) (v := ?v6) (at_op rfl) (by kernel_rfl) (by kernel_rfl) (by kernel_rfl) (by kernel_rfl) (fun _ _ _ h => h) (Or.inl ⟨by rfl, ?y6⟩) (by assumption) ?r6
  case y6 =>
    intro wx hSx
    obtain ⟨p0, p1, p2, p3, p4⟩ := hSx.five
    go_simp
    try with_reducible rfl
  try simp only [Act.put, List.setIfInBounds_toArray, List.set_cons_zero, List.set_cons_succ]
  refine wpAnyN_take (i := 11) (v := ?v7) (at_op rfl) (by kernel_rfl) (by kernel_rfl) (by kernel_rfl) (by kernel_rfl) (fun _ _ _ h => h) (Or.inl ⟨by rfl, ?y7⟩) (by assumption) ?r7
  case y7 =>
    intro wx hSx
    obtain ⟨p0, p1, p2, p3, p4⟩ := hSx.five
    go_simp
    try with_reducible rfl
  try simp only [Act.put, List.setIfInBounds_toArray, List.set_cons_zero, List.set_cons_succ]
  refine wpAnyN_take (i := 12) (v := ?v8) (at_op rfl) (by kernel_rfl) (by kernel_rfl) (by kernel_rfl) (by kernel_rfl) (fun _ _ _ h => h) (Or.inl ⟨by rfl, ?y8⟩) (by assumption) ?r8
  case y8 =>
    intro wx hSx
    obtain ⟨p0, p1, p2, p3, p4⟩ := hSx.five
    go_simp
    try with_reducible rfl
  try simp only [Act.put, List.setIfInBounds_toArray, List.set_cons_zero, List.set_cons_succ]
  refine wpAnyN_take (i := 15) (v := ?v9) (at_op rfl) (by kernel_rfl) (by kernel_rfl) (by kernel_rfl) (by kernel_rfl) (fun _ _ _ h => h) (Or.inl ⟨by rfl, ?y9⟩) (by assumption) ?r9
  case y9 =>
    intro wx hSx
    obtain ⟨p0, p1, p2, p3, p4⟩ := hSx.five
    go_simp
    try with_reducible rfl
  try simp only [Act.put, List.setIfInBounds_toArray, List.set_cons_zero, List.set_cons_succ]
  refine wpAnyN_take (i := 16) (v := ?v10) (at_op rfl) (by kernel_rfl) (by kernel_rfl) (by kernel_rfl) (by kernel_rfl) (fun _ _ _ h => h) (Or.inl ⟨by rfl, ?y10⟩) (by assumption) ?r10
  case y10 =>
    intro wx hSx
    obtain ⟨p0, p1, p2, p3, p4⟩ := hSx.five
    go_simp
    try with_reducible rfl
  try simp only [Act.put, List.setIfInBounds_toArray, List.set_cons_zero, List.set_cons_succ]
  have hBx : ∀ w', Below B w1 w' → PBox x ra rc ca cc sa sc ta tc A w' := fun w' hb => (hb.block A (by have := hB.out; omega)).trans hbx
  replace hBx := Lib.hid hBx
  replace hp1 := Lib.hid hp1
  refine any_states (G := wpAnyN _ _ _ _ _ _) C8.rank C8.listed (fun s a wv => ∃ t1 s1 t2 s2 t3 s3 t4 s4, a = C8.fr x ra rc ca cc sa sc ta tc A (A + 1) t1 s1 t2 s2 t3 s3 t4 s4 ∧ C8.In x ra rc ca cc sa sc ta tc A (A + 1) B w1 (C8.st s) t1 s1 t2 s2 t3 s3 t4 s4 wv) ?step 10 .c0000 rfl _ _ ⟨_, _, _, _, _, _, _, _, rfl, ⟨(Below.refl B w1).drew, Nat.le_of_eq hB1, trivial, trivial, trivial, trivial⟩⟩
  case step =>
    intro s a wv hI IH
    obtain ⟨t1, s1, t2, s2, t3, s3, t4, s4, rfl, hI⟩ := hI
    clear hHeld
    cases s
    case c0000 =>
      refine wpAnyN_ready (fuel := 9) (listed := #[true, true, false, true, true, false, false, true, true, false, false, true, true, false, false, true, true, false, false, false]) (rs := [2, 6, 10, 14]) (by kernel_rfl) (by simp) ?_
      unfold C8.fr
      refine AllReadyN.app ?_ ?_
      · refine AllReadyN.cons (at_op rfl) (fun K hK => ?_) AllReadyN.nil
        go_simp
        have hb9 := hI.bel.alloc hI.le (.cells #[] 92)
        refine hK.out _ _ (fun _ => hBx.out _ hb9) (fun hSb => ?_)
        clear hK K hSb
        try simp only [Act.put, List.setIfInBounds_toArray, List.set_cons_zero, List.set_cons_succ]
        exact IH .c1000 _ _ (by decide) ⟨_, s1, t2, s2, t3, s3, t4, s4, rfl, ⟨hb9, Nat.le_trans hI.le (by simp), Own.empty ruleF 92 B wv hI.le, RowSt.alloc _ hI.c, RowSt.alloc _ hI.s, RowSt.alloc _ hI.t⟩⟩
      refine AllReadyN.app ?_ ?_
      · refine AllReadyN.cons (at_op rfl) (fun K hK => ?_) AllReadyN.nil
        go_simp
        have hb9 := hI.bel.alloc hI.le (.cells #[] 56)
        refine hK.out _ _ (fun _ => hBx.out _ hb9) (fun hSb => ?_)
        clear hK K hSb
        try simp only [Act.put, List.setIfInBounds_toArray, List.set_cons_zero, List.set_cons_succ]
        exact IH .c0100 _ _ (by decide) ⟨t1, s1, _, s2, t3, s3, t4, s4, rfl, ⟨hb9, Nat.le_trans hI.le (by simp), RowSt.alloc _ hI.r, Own.empty chunkF 56 B wv hI.le, RowSt.alloc _ hI.s, RowSt.alloc _ hI.t⟩⟩
      refine AllReadyN.app ?_ ?_
      · refine AllReadyN.cons (at_op rfl) (fun K hK => ?_) AllReadyN.nil
        go_simp
        have hb9 := hI.bel.alloc hI.le (.cells #[] 121)
        refine hK.out _ _ (fun _ => hBx.out _ hb9) (fun hSb => ?_)
        clear hK K hSb
        try simp only [Act.put, List.setIfInBounds_toArray, List.set_cons_zero, List.set_cons_succ]
        exact IH .c0010 _ _ (by decide) ⟨t1, s1, t2, s2, _, s3, t4, s4, rfl, ⟨hb9, Nat.le_trans hI.le (by simp), RowSt.alloc _ hI.r, RowSt.alloc _ hI.c, Own.empty spanF 121 B wv hI.le, RowSt.alloc _ hI.t⟩⟩
      refine AllReadyN.app ?_ ?_
      · refine AllReadyN.cons (at_op rfl) (fun K hK => ?_) AllReadyN.nil
        go_simp
        have hb9 := hI.bel.alloc hI.le (.cells #[] 101)
        refine hK.out _ _ (fun _ => hBx.out _ hb9) (fun hSb => ?_)
        clear hK K hSb
        try simp only [Act.put, List.setIfInBounds_toArray, List.set_cons_zero, List.set_cons_succ]
        exact IH .c0001 _ _ (by decide) ⟨t1, s1, t2, s2, t3, s3, _, s4, rfl, ⟨hb9, Nat.le_trans hI.le (by simp), RowSt.alloc _ hI.r, RowSt.alloc _ hI.c, RowSt.alloc _ hI.s, Own.empty tieF 101 B wv hI.le⟩⟩
      exact AllReadyN.nil
    case c0001 =>
      refine wpAnyN_ready (fuel := 8) (listed := #[true, true, false, true, true, false, false, true, true, false, false, true, true, false, true, true, true, false, false, false]) (rs := [2, 6, 10]) (by kernel_rfl) (by simp) ?_
      unfold C8.fr
      refine AllReadyN.app ?_ ?_
      · refine AllReadyN.cons (at_op rfl) (fun K hK => ?_) AllReadyN.nil
        go_simp
        have hb9 := hI.bel.alloc hI.le (.cells #[] 92)
        refine hK.out _ _ (fun _ => hBx.out _ hb9) (fun hSb => ?_)
        clear hK K hSb
        try simp only [Act.put, List.setIfInBounds_toArray, List.set_cons_zero, List.set_cons_succ]
        exact IH .c1001 _ _ (by decide) ⟨_, s1, t2, s2, t3, s3, t4, s4, rfl, ⟨hb9, Nat.le_trans hI.le (by simp), Own.empty ruleF 92 B wv hI.le, RowSt.alloc _ hI.c, RowSt.alloc _ hI.s, RowSt.alloc _ hI.t⟩⟩
      refine AllReadyN.app ?_ ?_
      · refine AllReadyN.cons (at_op rfl) (fun K hK => ?_) AllReadyN.nil
        go_simp
        have hb9 := hI.bel.alloc hI.le (.cells #[] 56)
        refine hK.out _ _ (fun _ => hBx.out _ hb9) (fun hSb => ?_)
        clear hK K hSb
        try simp only [Act.put, List.setIfInBounds_toArray, List.set_cons_zero, List.set_cons_succ]
        exact IH .c0101 _ _ (by decide) ⟨t1, s1, _, s2, t3, s3, t4, s4, rfl, ⟨hb9, Nat.le_trans hI.le (by simp), RowSt.alloc _ hI.r, Own.empty chunkF 56 B wv hI.le, RowSt.alloc _ hI.s, RowSt.alloc _ hI.t⟩⟩
      refine AllReadyN.app ?_ ?_
      · refine AllReadyN.cons (at_op rfl) (fun K hK => ?_) AllReadyN.nil
        go_simp
        have hb9 := hI.bel.alloc hI.le (.cells #[] 121)
        refine hK.out _ _ (fun _ => hBx.out _ hb9) (fun hSb => ?_)
        clear hK K hSb
        try simp only [Act.put, List.setIfInBounds_toArray, List.set_cons_zero, List.set_cons_succ]
        exact IH .c0011 _ _ (by decide) ⟨t1, s1, t2, s2, _, s3, t4, s4, rfl, ⟨hb9, Nat.le_trans hI.le (by simp), RowSt.alloc _ hI.r, RowSt.alloc _ hI.c, Own.empty spanF 121 B wv hI.le, RowSt.alloc _ hI.t⟩⟩
      exact AllReadyN.nil
    case c0010 =>
      refine wpAnyN_ready (fuel := 8) (listed := #[true, true, false, true, true, false, false, true, true, false, true, true, true, false, false, true, true, false, false, false]) (rs := [2, 6, 14]) (by kernel_rfl) (by simp) ?_
      unfold C8.fr
      refine AllReadyN.app ?_ ?_
      · refine AllReadyN.cons (at_op rfl) (fun K hK => ?_) AllReadyN.nil
        go_simp
        have hb9 := hI.bel.alloc hI.le (.cells #[] 92)
        refine hK.out _ _ (fun _ => hBx.out _ hb9) (fun hSb => ?_)
        clear hK K hSb
        try simp only [Act.put, List.setIfInBounds_toArray, List.set_cons_zero, List.set_cons_succ]
        exact IH .c1010 _ _ (by decide) ⟨_, s1, t2, s2, t3, s3, t4, s4, rfl, ⟨hb9, Nat.le_trans hI.le (by simp), Own.empty ruleF 92 B wv hI.le, RowSt.alloc _ hI.c, RowSt.alloc _ hI.s, RowSt.alloc _ hI.t⟩⟩
      refine AllReadyN.app ?_ ?_
      · refine AllReadyN.cons (at_op rfl) (fun K hK => ?_) AllReadyN.nil
        go_simp
        have hb9 := hI.bel.alloc hI.le (.cells #[] 56)
        refine hK.out _ _ (fun _ => hBx.out _ hb9) (fun hSb => ?_)
        clear hK K hSb
        try simp only [Act.put, List.setIfInBounds_toArray, List.set_cons_zero, List.set_cons_succ]
        exact IH .c0110 _ _ (by decide) ⟨t1, s1, _, s2, t3, s3, t4, s4, rfl, ⟨hb9, Nat.le_trans hI.le (by simp), RowSt.alloc _ hI.r, Own.empty chunkF 56 B wv hI.le, RowSt.alloc _ hI.s, RowSt.alloc _ hI.t⟩⟩
      refine AllReadyN.app ?_ ?_
      · refine AllReadyN.cons (at_op rfl) (fun K hK => ?_) AllReadyN.nil
        go_simp
        have hb9 := hI.bel.alloc hI.le (.cells #[] 101)
        refine hK.out _ _ (fun _ => hBx.out _ hb9) (fun hSb => ?_)
        clear hK K hSb
        try simp only [Act.put, List.setIfInBounds_toArray, List.set_cons_zero, List.set_cons_succ]
        exact IH .c0011 _ _ (by decide) ⟨t1, s1, t2, s2, t3, s3, _, s4, rfl, ⟨hb9, Nat.le_trans hI.le (by simp), RowSt.alloc _ hI.r, RowSt.alloc _ hI.c, RowSt.alloc _ hI.s, Own.empty tieF 101 B wv hI.le⟩⟩
      exact AllReadyN.nil
    case c0011 =>
      refine wpAnyN_ready (fuel := 7) (listed := #[true, true, false, true, true, false, false, true, true, false, true, true, true, false, true, true, true, false, false, false]) (rs := [2, 6]) (by kernel_rfl) (by simp) ?_
      unfold C8.fr
      refine AllReadyN.app ?_ ?_
      · refine AllReadyN.cons (at_op rfl) (fun K hK => ?_) AllReadyN.nil
        go_simp
        have hb9 := hI.bel.alloc hI.le (.cells #[] 92)
        refine hK.out _ _ (fun _ => hBx.out _ hb9) (fun hSb => ?_)
        clear hK K hSb
        try simp only [Act.put, List.setIfInBounds_toArray, List.set_cons_zero, List.set_cons_succ]
        exact IH .c1011 _ _ (by decide) ⟨_, s1, t2, s2, t3, s3, t4, s4, rfl, ⟨hb9, Nat.le_trans hI.le (by simp), Own.empty ruleF 92 B wv hI.le, RowSt.alloc _ hI.c, RowSt.alloc _ hI.s, RowSt.alloc _ hI.t⟩⟩
      refine AllReadyN.app ?_ ?_
      · refine AllReadyN.cons (at_op rfl) (fun K hK => ?_) AllReadyN.nil
        go_simp
        have hb9 := hI.bel.alloc hI.le (.cells #[] 56)
        refine hK.out _ _ (fun _ => hBx.out _ hb9) (fun hSb => ?_)
        clear hK K hSb
        try simp only [Act.put, List.setIfInBounds_toArray, List.set_cons_zero, List.set_cons_succ]
        exact IH .c0111 _ _ (by decide) ⟨t1, s1, _, s2, t3, s3, t4, s4, rfl, ⟨hb9, Nat.le_trans hI.le (by simp), RowSt.alloc _ hI.r, Own.empty chunkF 56 B wv hI.le, RowSt.alloc _ hI.s, RowSt.alloc _ hI.t⟩⟩
      exact AllReadyN.nil
    case c0100 =>
      refine wpAnyN_ready (fuel := 8) (listed := #[true, true, false, true, true, false, true, true, true, false, false, true, true, false, false, true, true, false, false, false]) (rs := [2, 10, 14]) (by kernel_rfl) (by simp) ?_
      unfold C8.fr
      refine AllReadyN.app ?_ ?_
      · refine AllReadyN.cons (at_op rfl) (fun K hK => ?_) AllReadyN.nil
        go_simp
        have hb9 := hI.bel.alloc hI.le (.cells #[] 92)
        refine hK.out _ _ (fun _ => hBx.out _ hb9) (fun hSb => ?_)
        clear hK K hSb
        try simp only [Act.put, List.setIfInBounds_toArray, List.set_cons_zero, List.set_cons_succ]
        exact IH .c1100 _ _ (by decide) ⟨_, s1, t2, s2, t3, s3, t4, s4, rfl, ⟨hb9, Nat.le_trans hI.le (by simp), Own.empty ruleF 92 B wv hI.le, RowSt.alloc _ hI.c, RowSt.alloc _ hI.s, RowSt.alloc _ hI.t⟩⟩
      refine AllReadyN.app ?_ ?_
      · refine AllReadyN.cons (at_op rfl) (fun K hK => ?_) AllReadyN.nil
        go_simp
        have hb9 := hI.bel.alloc hI.le (.cells #[] 121)
        refine hK.out _ _ (fun _ => hBx.out _ hb9) (fun hSb => ?_)
        clear hK K hSb
        try simp only [Act.put, List.setIfInBounds_toArray, List.set_cons_zero, List.set_cons_succ]
        exact IH .c0110 _ _ (by decide) ⟨t1, s1, t2, s2, _, s3, t4, s4, rfl, ⟨hb9, Nat.le_trans hI.le (by simp), RowSt.alloc _ hI.r, RowSt.alloc _ hI.c, Own.empty spanF 121 B wv hI.le, RowSt.alloc _ hI.t⟩⟩
      refine AllReadyN.app ?_ ?_
      · refine AllReadyN.cons (at_op rfl) (fun K hK => ?_) AllReadyN.nil
        go_simp
        have hb9 := hI.bel.alloc hI.le (.cells #[] 101)
        refine hK.out _ _ (fun _ => hBx.out _ hb9) (fun hSb => ?_)
        clear hK K hSb
        try simp only [Act.put, List.setIfInBounds_toArray, List.set_cons_zero, List.set_cons_succ]
        exact IH .c0101 _ _ (by decide) ⟨t1, s1, t2, s2, t3, s3, _, s4, rfl, ⟨hb9, Nat.le_trans hI.le (by simp), RowSt.alloc _ hI.r, RowSt.alloc _ hI.c, RowSt.alloc _ hI.s, Own.empty tieF 101 B wv hI.le⟩⟩
      exact AllReadyN.nil
    case c0101 =>
      refine wpAnyN_ready (fuel := 7) (listed := #[true, true, false, true, true, false, true, true, true, false, false, true, true, false, true, true, true, false, false, false]) (rs := [2, 10]) (by kernel_rfl) (by simp) ?_
      unfold C8.fr
      refine AllReadyN.app ?_ ?_
      · refine AllReadyN.cons (at_op rfl) (fun K hK => ?_) AllReadyN.nil
        go_simp
        have hb9 := hI.bel.alloc hI.le (.cells #[] 92)
        refine hK.out _ _ (fun _ => hBx.out _ hb9) (fun hSb => ?_)
        clear hK K hSb
        try simp only [Act.put, List.setIfInBounds_toArray, List.set_cons_zero, List.set_cons_succ]
        exact IH .c1101 _ _ (by decide) ⟨_, s1, t2, s2, t3, s3, t4, s4, rfl, ⟨hb9, Nat.le_trans hI.le (by simp), Own.empty ruleF 92 B wv hI.le, RowSt.alloc _ hI.c, RowSt.alloc _ hI.s, RowSt.alloc _ hI.t⟩⟩
      refine AllReadyN.app ?_ ?_
      · refine AllReadyN.cons (at_op rfl) (fun K hK => ?_) AllReadyN.nil
        go_simp
        have hb9 := hI.bel.alloc hI.le (.cells #[] 121)
        refine hK.out _ _ (fun _ => hBx.out _ hb9) (fun hSb => ?_)
        clear hK K hSb
        try simp only [Act.put, List.setIfInBounds_toArray, List.set_cons_zero, List.set_cons_succ]
        exact IH .c0111 _ _ (by decide) ⟨t1, s1, t2, s2, _, s3, t4, s4, rfl, ⟨hb9, Nat.le_trans hI.le (by simp), RowSt.alloc _ hI.r, RowSt.alloc _ hI.c, Own.empty spanF 121 B wv hI.le, RowSt.alloc _ hI.t⟩⟩
      exact AllReadyN.nil
    case c0110 =>
      refine wpAnyN_ready (fuel := 7) (listed := #[true, true, false, true, true, false, true, true, true, false, true, true, true, false, false, true, true, false, false, false]) (rs := [2, 14]) (by kernel_rfl) (by simp) ?_
      unfold C8.fr
      refine AllReadyN.app ?_ ?_
      · refine AllReadyN.cons (at_op rfl) (fun K hK => ?_) AllReadyN.nil
        go_simp
        have hb9 := hI.bel.alloc hI.le (.cells #[] 92)
        refine hK.out _ _ (fun _ => hBx.out _ hb9) (fun hSb => ?_)
        clear hK K hSb
        try simp only [Act.put, List.setIfInBounds_toArray, List.set_cons_zero, List.set_cons_succ]
        exact IH .c1110 _ _ (by decide) ⟨_, s1, t2, s2, t3, s3, t4, s4, rfl, ⟨hb9, Nat.le_trans hI.le (by simp), Own.empty ruleF 92 B wv hI.le, RowSt.alloc _ hI.c, RowSt.alloc _ hI.s, RowSt.alloc _ hI.t⟩⟩
      refine AllReadyN.app ?_ ?_
      · refine AllReadyN.cons (at_op rfl) (fun K hK => ?_) AllReadyN.nil
        go_simp
        have hb9 := hI.bel.alloc hI.le (.cells #[] 101)
        refine hK.out _ _ (fun _ => hBx.out _ hb9) (fun hSb => ?_)
        clear hK K hSb
        try simp only [Act.put, List.setIfInBounds_toArray, List.set_cons_zero, List.set_cons_succ]
        exact IH .c0111 _ _ (by decide) ⟨t1, s1, t2, s2, t3, s3, _, s4, rfl, ⟨hb9, Nat.le_trans hI.le (by simp), RowSt.alloc _ hI.r, RowSt.alloc _ hI.c, RowSt.alloc _ hI.s, Own.empty tieF 101 B wv hI.le⟩⟩
      exact AllReadyN.nil
    case c0111 =>
      refine wpAnyN_ready (fuel := 6) (listed := #[true, true, false, true, true, false, true, true, true, false, true, true, true, false, true, true, true, false, false, false]) (rs := [2]) (by kernel_rfl) (by simp) ?_
      unfold C8.fr
      refine AllReadyN.app ?_ ?_
      · refine AllReadyN.cons (at_op rfl) (fun K hK => ?_) AllReadyN.nil
        go_simp
        have hb9 := hI.bel.alloc hI.le (.cells #[] 92)
        refine hK.out _ _ (fun _ => hBx.out _ hb9) (fun hSb => ?_)
        clear hK K hSb
        try simp only [Act.put, List.setIfInBounds_toArray, List.set_cons_zero, List.set_cons_succ]
        exact IH .c1111 _ _ (by decide) ⟨_, s1, t2, s2, t3, s3, t4, s4, rfl, ⟨hb9, Nat.le_trans hI.le (by simp), Own.empty ruleF 92 B wv hI.le, RowSt.alloc _ hI.c, RowSt.alloc _ hI.s, RowSt.alloc _ hI.t⟩⟩
      exact AllReadyN.nil
    case c1000 =>
      refine wpAnyN_ready (fuel := 8) (listed := #[true, true, true, true, true, false, false, true, true, false, false, true, true, false, false, true, true, false, false, false]) (rs := [5, 6, 10, 14]) (by kernel_rfl) (by simp) ?_
      unfold C8.fr
      refine AllReadyN.app ?_ ?_
      · refine readyN_list (at_op rfl) (fun K hK => ?_)
        have hOw : Own ruleF 92 B wv.heap.size wv t1 [] := hI.r
        refine wp_appAllgC (F := ruleF) (xs := []) (ys := x.rules) (P := Try.prog) rfl (.tmp 5) (.tmp 7) 24 rfl Try.underlying24 hi0 hz0 hz1 hz2 rfl (by decide) rfl hOw rfl ((hp1.out.r).below hI.bel (by have := hB.out; omega)) (by simp only [List.length_nil]; omega) (by simp only [List.length_nil]; omega) hI.le ?_
        intro v9 w9 hO9 hb9 hg9
        replace hO9 : Own ruleF 92 B w9.heap.size w9 v9 x.rules := hO9
        obtain ⟨a9, c9, rfl, -, -, -⟩ := hO9.form
        refine hK.out _ _ (fun _ => hBx.out _ (hI.bel.trans hb9)) (fun hSb => ?_)
        clear hK K hSb
        try simp only [Act.put, List.setIfInBounds_toArray, List.set_cons_zero, List.set_cons_succ]
        exact IH .c2000 _ _ (by decide) ⟨t1, _, t2, s2, t3, s3, t4, s4, rfl, ⟨hI.bel.trans hb9, Nat.le_trans hI.le hg9.size, ⟨a9, c9, rfl, hO9⟩, hI.c.kept hOw (by decide) hg9, hI.s.kept hOw (by decide) hg9, hI.t.kept hOw (by decide) hg9⟩⟩
      refine AllReadyN.app ?_ ?_
      · refine AllReadyN.cons (at_op rfl) (fun K hK => ?_) AllReadyN.nil
        go_simp
        have hb9 := hI.bel.alloc hI.le (.cells #[] 56)
        refine hK.out _ _ (fun _ => hBx.out _ hb9) (fun hSb => ?_)
        clear hK K hSb
        try simp only [Act.put, List.setIfInBounds_toArray, List.set_cons_zero, List.set_cons_succ]
        exact IH .c1100 _ _ (by decide) ⟨t1, s1, _, s2, t3, s3, t4, s4, rfl, ⟨hb9, Nat.le_trans hI.le (by simp), RowSt.alloc _ hI.r, Own.empty chunkF 56 B wv hI.le, RowSt.alloc _ hI.s, RowSt.alloc _ hI.t⟩⟩
      refine AllReadyN.app ?_ ?_
      · refine AllReadyN.cons (at_op rfl) (fun K hK => ?_) AllReadyN.nil
        go_simp
        have hb9 := hI.bel.alloc hI.le (.cells #[] 121)
        refine hK.out _ _ (fun _ => hBx.out _ hb9) (fun hSb => ?_)
        clear hK K hSb
        try simp only [Act.put, List.setIfInBounds_toArray, List.set_cons_zero, List.set_cons_succ]
        exact IH .c1010 _ _ (by decide) ⟨t1, s1, t2, s2, _, s3, t4, s4, rfl, ⟨hb9, Nat.le_trans hI.le (by simp), RowSt.alloc _ hI.r, RowSt.alloc _ hI.c, Own.empty spanF 121 B wv hI.le, RowSt.alloc _ hI.t⟩⟩
      refine AllReadyN.app ?_ ?_
      · refine AllReadyN.cons (at_op rfl) (fun K hK => ?_) AllReadyN.nil
        go_simp
        have hb9 := hI.bel.alloc hI.le (.cells #[] 101)
        refine hK.out _ _ (fun _ => hBx.out _ hb9) (fun hSb => ?_)
        clear hK K hSb
        try simp only [Act.put, List.setIfInBounds_toArray, List.set_cons_zero, List.set_cons_succ]
        exact IH .c1001 _ _ (by decide) ⟨t1, s1, t2, s2, t3, s3, _, s4, rfl, ⟨hb9, Nat.le_trans hI.le (by simp), RowSt.alloc _ hI.r, RowSt.alloc _ hI.c, RowSt.alloc _ hI.s, Own.empty tieF 101 B wv hI.le⟩⟩
      exact AllReadyN.nil
    case c1001 =>
      refine wpAnyN_ready (fuel := 7) (listed := #[true, true, true, true, true, false, false, true, true, false, false, true, true, false, true, true, true, false, false, false]) (rs := [5, 6, 10]) (by kernel_rfl) (by simp) ?_
      unfold C8.fr
      refine AllReadyN.app ?_ ?_
      · refine readyN_list (at_op rfl) (fun K hK => ?_)
        have hOw : Own ruleF 92 B wv.heap.size wv t1 [] := hI.r
        refine wp_appAllgC (F := ruleF) (xs := []) (ys := x.rules) (P := Try.prog) rfl (.tmp 5) (.tmp 7) 24 rfl Try.underlying24 hi0 hz0 hz1 hz2 rfl (by decide) rfl hOw rfl ((hp1.out.r).below hI.bel (by have := hB.out; omega)) (by simp only [List.length_nil]; omega) (by simp only [List.length_nil]; omega) hI.le ?_
        intro v9 w9 hO9 hb9 hg9
        replace hO9 : Own ruleF 92 B w9.heap.size w9 v9 x.rules := hO9
        obtain ⟨a9, c9, rfl, -, -, -⟩ := hO9.form
        refine hK.out _ _ (fun _ => hBx.out _ (hI.bel.trans hb9)) (fun hSb => ?_)
        clear hK K hSb
        try simp only [Act.put, List.setIfInBounds_toArray, List.set_cons_zero, List.set_cons_succ]
        exact IH .c2001 _ _ (by decide) ⟨t1, _, t2, s2, t3, s3, t4, s4, rfl, ⟨hI.bel.trans hb9, Nat.le_trans hI.le hg9.size, ⟨a9, c9, rfl, hO9⟩, hI.c.kept hOw (by decide) hg9, hI.s.kept hOw (by decide) hg9, hI.t.kept hOw (by decide) hg9⟩⟩
      refine AllReadyN.app ?_ ?_
      · refine AllReadyN.cons (at_op rfl) (fun K hK => ?_) AllReadyN.nil
        go_simp
        have hb9 := hI.bel.alloc hI.le (.cells #[] 56)
        refine hK.out _ _ (fun _ => hBx.out _ hb9) (fun hSb => ?_)
        clear hK K hSb
        try simp only [Act.put, List.setIfInBounds_toArray, List.set_cons_zero, List.set_cons_succ]
        exact IH .c1101 _ _ (by decide) ⟨t1, s1, _, s2, t3, s3, t4, s4, rfl, ⟨hb9, Nat.le_trans hI.le (by simp), RowSt.alloc _ hI.r, Own.empty chunkF 56 B wv hI.le, RowSt.alloc _ hI.s, RowSt.alloc _ hI.t⟩⟩
      refine AllReadyN.app ?_ ?_
      · refine AllReadyN.cons (at_op rfl) (fun K hK => ?_) AllReadyN.nil
        go_simp
        have hb9 := hI.bel.alloc hI.le (.cells #[] 121)
        refine hK.out _ _ (fun _ => hBx.out _ hb9) (fun hSb => ?_)
        clear hK K hSb
        try simp only [Act.put, List.setIfInBounds_toArray, List.set_cons_zero, List.set_cons_succ]
        exact IH .c1011 _ _ (by decide) ⟨t1, s1, t2, s2, _, s3, t4, s4, rfl, ⟨hb9, Nat.le_trans hI.le (by simp), RowSt.alloc _ hI.r, RowSt.alloc _ hI.c, Own.empty spanF 121 B wv hI.le, RowSt.alloc _ hI.t⟩⟩
      exact AllReadyN.nil
    case c1010 =>
      refine wpAnyN_ready (fuel := 7) (listed := #[true, true, true, true, true, false, false, true, true, false, true, true, true, false, false, true, true, false, false, false]) (rs := [5, 6, 14]) (by kernel_rfl) (by simp) ?_
      unfold C8.fr
      refine AllReadyN.app ?_ ?_
      · refine readyN_list (at_op rfl) (fun K hK => ?_)
        have hOw : Own ruleF 92 B wv.heap.size wv t1 [] := hI.r
        refine wp_appAllgC (F := ruleF) (xs := []) (ys := x.rules) (P := Try.prog) rfl (.tmp 5) (.tmp 7) 24 rfl Try.underlying24 hi0 hz0 hz1 hz2 rfl (by decide) rfl hOw rfl ((hp1.out.r).below hI.bel (by have := hB.out; omega)) (by simp only [List.length_nil]; omega) (by simp only [List.length_nil]; omega) hI.le ?_
        intro v9 w9 hO9 hb9 hg9
        replace hO9 : Own ruleF 92 B w9.heap.size w9 v9 x.rules := hO9
        obtain ⟨a9, c9, rfl, -, -, -⟩ := hO9.form
        refine hK.out _ _ (fun _ => hBx.out _ (hI.bel.trans hb9)) (fun hSb => ?_)
        clear hK K hSb
        try simp only [Act.put, List.setIfInBounds_toArray, List.set_cons_zero, List.set_cons_succ]
        exact IH .c2010 _ _ (by decide) ⟨t1, _, t2, s2, t3, s3, t4, s4, rfl, ⟨hI.bel.trans hb9, Nat.le_trans hI.le hg9.size, ⟨a9, c9, rfl, hO9⟩, hI.c.kept hOw (by decide) hg9, hI.s.kept hOw (by decide) hg9, hI.t.kept hOw (by decide) hg9⟩⟩
      refine AllReadyN.app ?_ ?_
      · refine AllReadyN.cons (at_op rfl) (fun K hK => ?_) AllReadyN.nil
        go_simp
        have hb9 := hI.bel.alloc hI.le (.cells #[] 56)
        refine hK.out _ _ (fun _ => hBx.out _ hb9) (fun hSb => ?_)
        clear hK K hSb
        try simp only [Act.put, List.setIfInBounds_toArray, List.set_cons_zero, List.set_cons_succ]
        exact IH .c1110 _ _ (by decide) ⟨t1, s1, _, s2, t3, s3, t4, s4, rfl, ⟨hb9, Nat.le_trans hI.le (by simp), RowSt.alloc _ hI.r, Own.empty chunkF 56 B wv hI.le, RowSt.alloc _ hI.s, RowSt.alloc _ hI.t⟩⟩
      refine AllReadyN.app ?_ ?_
      · refine AllReadyN.cons (at_op rfl) (fun K hK => ?_) AllReadyN.nil
        go_simp
        have hb9 := hI.bel.alloc hI.le (.cells #[] 101)
        refine hK.out _ _ (fun _ => hBx.out _ hb9) (fun hSb => ?_)
        clear hK K hSb
        try simp only [Act.put, List.setIfInBounds_toArray, List.set_cons_zero, List.set_cons_succ]
        exact IH .c1011 _ _ (by decide) ⟨t1, s1, t2, s2, t3, s3, _, s4, rfl, ⟨hb9, Nat.le_trans hI.le (by simp), RowSt.alloc _ hI.r, RowSt.alloc _ hI.c, RowSt.alloc _ hI.s, Own.empty tieF 101 B wv hI.le⟩⟩
      exact AllReadyN.nil
    case c1011 =>
      refine wpAnyN_ready (fuel := 6) (listed := #[true, true, true, true, true, false, false, true, true, false, true, true, true, false, true, true, true, false, false, false]) (rs := [5, 6]) (by kernel_rfl) (by simp) ?_
      unfold C8.fr
      refine AllReadyN.app ?_ ?_
      · refine readyN_list (at_op rfl) (fun K hK => ?_)
        have hOw : Own ruleF 92 B wv.heap.size wv t1 [] := hI.r
        refine wp_appAllgC (F := ruleF) (xs := []) (ys := x.rules) (P := Try.prog) rfl (.tmp 5) (.tmp 7) 24 rfl Try.underlying24 hi0 hz0 hz1 hz2 rfl (by decide) rfl hOw rfl ((hp1.out.r).below hI.bel (by have := hB.out; omega)) (by simp only [List.length_nil]; omega) (by simp only [List.length_nil]; omega) hI.le ?_
        intro v9 w9 hO9 hb9 hg9
        replace hO9 : Own ruleF 92 B w9.heap.size w9 v9 x.rules := hO9
        obtain ⟨a9, c9, rfl, -, -, -⟩ := hO9.form
        refine hK.out _ _ (fun _ => hBx.out _ (hI.bel.trans hb9)) (fun hSb => ?_)
        clear hK K hSb
        try simp only [Act.put, List.setIfInBounds_toArray, List.set_cons_zero, List.set_cons_succ]
        exact IH .c2011 _ _ (by decide) ⟨t1, _, t2, s2, t3, s3, t4, s4, rfl, ⟨hI.bel.trans hb9, Nat.le_trans hI.le hg9.size, ⟨a9, c9, rfl, hO9⟩, hI.c.kept hOw (by decide) hg9, hI.s.kept hOw (by decide) hg9, hI.t.kept hOw (by decide) hg9⟩⟩
      refine AllReadyN.app ?_ ?_
      · refine AllReadyN.cons (at_op rfl) (fun K hK => ?_) AllReadyN.nil
        go_simp
        have hb9 := hI.bel.alloc hI.le (.cells #[] 56)
        refine hK.out _ _ (fun _ => hBx.out _ hb9) (fun hSb => ?_)
        clear hK K hSb
        try simp only [Act.put, List.setIfInBounds_toArray, List.set_cons_zero, List.set_cons_succ]
        exact IH .c1111 _ _ (by decide) ⟨t1, s1, _, s2, t3, s3, t4, s4, rfl, ⟨hb9, Nat.le_trans hI.le (by simp), RowSt.alloc _ hI.r, Own.empty chunkF 56 B wv hI.le, RowSt.alloc _ hI.s, RowSt.alloc _ hI.t⟩⟩
      exact AllReadyN.nil
    case c1100 =>
      refine wpAnyN_ready (fuel := 7) (listed := #[true, true, true, true, true, false, true, true, true, false, false, true, true, false, false, true, true, false, false, false]) (rs := [5, 10, 14]) (by kernel_rfl) (by simp) ?_
      unfold C8.fr
      refine AllReadyN.app ?_ ?_
      · refine readyN_list (at_op rfl) (fun K hK => ?_)
        have hOw : Own ruleF 92 B wv.heap.size wv t1 [] := hI.r
        refine wp_appAllgC (F := ruleF) (xs := []) (ys := x.rules) (P := Try.prog) rfl (.tmp 5) (.tmp 7) 24 rfl Try.underlying24 hi0 hz0 hz1 hz2 rfl (by decide) rfl hOw rfl ((hp1.out.r).below hI.bel (by have := hB.out; omega)) (by simp only [List.length_nil]; omega) (by simp only [List.length_nil]; omega) hI.le ?_
        intro v9 w9 hO9 hb9 hg9
        replace hO9 : Own ruleF 92 B w9.heap.size w9 v9 x.rules := hO9
        obtain ⟨a9, c9, rfl, -, -, -⟩ := hO9.form
        refine hK.out _ _ (fun _ => hBx.out _ (hI.bel.trans hb9)) (fun hSb => ?_)
        clear hK K hSb
        try simp only [Act.put, List.setIfInBounds_toArray, List.set_cons_zero, List.set_cons_succ]
        exact IH .c2100 _ _ (by decide) ⟨t1, _, t2, s2, t3, s3, t4, s4, rfl, ⟨hI.bel.trans hb9, Nat.le_trans hI.le hg9.size, ⟨a9, c9, rfl, hO9⟩, hI.c.kept hOw (by decide) hg9, hI.s.kept hOw (by decide) hg9, hI.t.kept hOw (by decide) hg9⟩⟩
      refine AllReadyN.app ?_ ?_
      · refine AllReadyN.cons (at_op rfl) (fun K hK => ?_) AllReadyN.nil
        go_simp
        have hb9 := hI.bel.alloc hI.le (.cells #[] 121)
        refine hK.out _ _ (fun _ => hBx.out _ hb9) (fun hSb => ?_)
        clear hK K hSb
        try simp only [Act.put, List.setIfInBounds_toArray, List.set_cons_zero, List.set_cons_succ]
        exact IH .c1110 _ _ (by decide) ⟨t1, s1, t2, s2, _, s3, t4, s4, rfl, ⟨hb9, Nat.le_trans hI.le (by simp), RowSt.alloc _ hI.r, RowSt.alloc _ hI.c, Own.empty spanF 121 B wv hI.le, RowSt.alloc _ hI.t⟩⟩
      refine AllReadyN.app ?_ ?_
      · refine AllReadyN.cons (at_op rfl) (fun K hK => ?_) AllReadyN.nil
        go_simp
        have hb9 := hI.bel.alloc hI.le (.cells #[] 101)
        refine hK.out _ _ (fun _ => hBx.out _ hb9) (fun hSb => ?_)
        clear hK K hSb
        try simp only [Act.put, List.setIfInBounds_toArray, List.set_cons_zero, List.set_cons_succ]
        exact IH .c1101 _ _ (by decide) ⟨t1, s1, t2, s2, t3, s3, _, s4, rfl, ⟨hb9, Nat.le_trans hI.le (by simp), RowSt.alloc _ hI.r, RowSt.alloc _ hI.c, RowSt.alloc _ hI.s, Own.empty tieF 101 B wv hI.le⟩⟩
      exact AllReadyN.nil
    case c1101 =>
      refine wpAnyN_ready (fuel := 6) (listed := #[true, true, true, true, true, false, true, true, true, false, false, true, true, false, true, true, true, false, false, false]) (rs := [5, 10]) (by kernel_rfl) (by simp) ?_
      unfold C8.fr
      refine AllReadyN.app ?_ ?_
      · refine readyN_list (at_op rfl) (fun K hK => ?_)
        have hOw : Own ruleF 92 B wv.heap.size wv t1 [] := hI.r
        refine wp_appAllgC (F := ruleF) (xs := []) (ys := x.rules) (P := Try.prog) rfl (.tmp 5) (.tmp 7) 24 rfl Try.underlying24 hi0 hz0 hz1 hz2 rfl (by decide) rfl hOw rfl ((hp1.out.r).below hI.bel (by have := hB.out; omega)) (by simp only [List.length_nil]; omega) (by simp only [List.length_nil]; omega) hI.le ?_
        intro v9 w9 hO9 hb9 hg9
        replace hO9 : Own ruleF 92 B w9.heap.size w9 v9 x.rules := hO9
        obtain ⟨a9, c9, rfl, -, -, -⟩ := hO9.form
        refine hK.out _ _ (fun _ => hBx.out _ (hI.bel.trans hb9)) (fun hSb => ?_)
        clear hK K hSb
        try simp only [Act.put, List.setIfInBounds_toArray, List.set_cons_zero, List.set_cons_succ]
        exact IH .c2101 _ _ (by decide) ⟨t1, _, t2, s2, t3, s3, t4, s4, rfl, ⟨hI.bel.trans hb9, Nat.le_trans hI.le hg9.size, ⟨a9, c9, rfl, hO9⟩, hI.c.kept hOw (by decide) hg9, hI.s.kept hOw (by decide) hg9, hI.t.kept hOw (by decide) hg9⟩⟩
      refine AllReadyN.app ?_ ?_
      · refine AllReadyN.cons (at_op rfl) (fun K hK => ?_) AllReadyN.nil
        go_simp
        have hb9 := hI.bel.alloc hI.le (.cells #[] 121)
        refine hK.out _ _ (fun _ => hBx.out _ hb9) (fun hSb => ?_)
        clear hK K hSb
        try simp only [Act.put, List.setIfInBounds_toArray, List.set_cons_zero, List.set_cons_succ]
        exact IH .c1111 _ _ (by decide) ⟨t1, s1, t2, s2, _, s3, t4, s4, rfl, ⟨hb9, Nat.le_trans hI.le (by simp), RowSt.alloc _ hI.r, RowSt.alloc _ hI.c, Own.empty spanF 121 B wv hI.le, RowSt.alloc _ hI.t⟩⟩
      exact AllReadyN.nil
    case c1110 =>
      refine wpAnyN_ready (fuel := 6) (listed := #[true, true, true, true, true, false, true, true, true, false, true, true, true, false, false, true, true, false, false, false]) (rs := [5, 14]) (by kernel_rfl) (by simp) ?_
      unfold C8.fr
      refine AllReadyN.app ?_ ?_
      · refine readyN_list (at_op rfl) (fun K hK => ?_)
        have hOw : Own ruleF 92 B wv.heap.size wv t1 [] := hI.r
        refine wp_appAllgC (F := ruleF) (xs := []) (ys := x.rules) (P := Try.prog) rfl (.tmp 5) (.tmp 7) 24 rfl Try.underlying24 hi0 hz0 hz1 hz2 rfl (by decide) rfl hOw rfl ((hp1.out.r).below hI.bel (by have := hB.out; omega)) (by simp only [List.length_nil]; omega) (by simp only [List.length_nil]; omega) hI.le ?_
        intro v9 w9 hO9 hb9 hg9
        replace hO9 : Own ruleF 92 B w9.heap.size w9 v9 x.rules := hO9
        obtain ⟨a9, c9, rfl, -, -, -⟩ := hO9.form
        refine hK.out _ _ (fun _ => hBx.out _ (hI.bel.trans hb9)) (fun hSb => ?_)
        clear hK K hSb
        try simp only [Act.put, List.setIfInBounds_toArray, List.set_cons_zero, List.set_cons_succ]
        exact IH .c2110 _ _ (by decide) ⟨t1, _, t2, s2, t3, s3, t4, s4, rfl, ⟨hI.bel.trans hb9, Nat.le_trans hI.le hg9.size, ⟨a9, c9, rfl, hO9⟩, hI.c.kept hOw (by decide) hg9, hI.s.kept hOw (by decide) hg9, hI.t.kept hOw (by decide) hg9⟩⟩
      refine AllReadyN.app ?_ ?_
      · refine AllReadyN.cons (at_op rfl) (fun K hK => ?_) AllReadyN.nil
        go_simp
        have hb9 := hI.bel.alloc hI.le (.cells #[] 101)
        refine hK.out _ _ (fun _ => hBx.out _ hb9) (fun hSb => ?_)
        clear hK K hSb
        try simp only [Act.put, List.setIfInBounds_toArray, List.set_cons_zero, List.set_cons_succ]
        exact IH .c1111 _ _ (by decide) ⟨t1, s1, t2, s2, t3, s3, _, s4, rfl, ⟨hb9, Nat.le_trans hI.le (by simp), RowSt.alloc _ hI.r, RowSt.alloc _ hI.c, RowSt.alloc _ hI.s, Own.empty tieF 101 B wv hI.le⟩⟩
      exact AllReadyN.nil
    case c1111 =>
      refine wpAnyN_ready (fuel := 5) (listed := #[true, true, true, true, true, false, true, true, true, false, true, true, true, false, true, true, true, false, false, false]) (rs := [5]) (by kernel_rfl) (by simp) ?_
      unfold C8.fr
      refine AllReadyN.app ?_ ?_
      · refine readyN_list (at_op rfl) (fun K hK => ?_)
        have hOw : Own ruleF 92 B wv.heap.size wv t1 [] := hI.r
        refine wp_appAllgC (F := ruleF) (xs := []) (ys := x.rules) (P := Try.prog) rfl (.tmp 5) (.tmp 7) 24 rfl Try.underlying24 hi0 hz0 hz1 hz2 rfl (by decide) rfl hOw rfl ((hp1.out.r).below hI.bel (by have := hB.out; omega)) (by simp only [List.length_nil]; omega) (by simp only [List.length_nil]; omega) hI.le ?_
        intro v9 w9 hO9 hb9 hg9
        replace hO9 : Own ruleF 92 B w9.heap.size w9 v9 x.rules := hO9
        obtain ⟨a9, c9, rfl, -, -, -⟩ := hO9.form
        refine hK.out _ _ (fun _ => hBx.out _ (hI.bel.trans hb9)) (fun hSb => ?_)
        clear hK K hSb
        try simp only [Act.put, List.setIfInBounds_toArray, List.set_cons_zero, List.set_cons_succ]
        exact IH .c2111 _ _ (by decide) ⟨t1, _, t2, s2, t3, s3, t4, s4, rfl, ⟨hI.bel.trans hb9, Nat.le_trans hI.le hg9.size, ⟨a9, c9, rfl, hO9⟩, hI.c.kept hOw (by decide) hg9, hI.s.kept hOw (by decide) hg9, hI.t.kept hOw (by decide) hg9⟩⟩
      exact AllReadyN.nil
    case c2000 =>
      refine wpAnyN_ready (fuel := 7) (listed := #[true, true, true, true, true, true, false, true, true, false, false, true, true, false, false, true, true, false, false, false]) (rs := [6, 10, 14]) (by kernel_rfl) (by simp) ?_
      unfold C8.fr
      refine AllReadyN.app ?_ ?_
      · refine AllReadyN.cons (at_op rfl) (fun K hK => ?_) AllReadyN.nil
        go_simp
        have hb9 := hI.bel.alloc hI.le (.cells #[] 56)
        refine hK.out _ _ (fun _ => hBx.out _ hb9) (fun hSb => ?_)
        clear hK K hSb
        try simp only [Act.put, List.setIfInBounds_toArray, List.set_cons_zero, List.set_cons_succ]
        exact IH .c2100 _ _ (by decide) ⟨t1, s1, _, s2, t3, s3, t4, s4, rfl, ⟨hb9, Nat.le_trans hI.le (by simp), RowSt.alloc _ hI.r, Own.empty chunkF 56 B wv hI.le, RowSt.alloc _ hI.s, RowSt.alloc _ hI.t⟩⟩
      refine AllReadyN.app ?_ ?_
      · refine AllReadyN.cons (at_op rfl) (fun K hK => ?_) AllReadyN.nil
        go_simp
        have hb9 := hI.bel.alloc hI.le (.cells #[] 121)
        refine hK.out _ _ (fun _ => hBx.out _ hb9) (fun hSb => ?_)
        clear hK K hSb
        try simp only [Act.put, List.setIfInBounds_toArray, List.set_cons_zero, List.set_cons_succ]
        exact IH .c2010 _ _ (by decide) ⟨t1, s1, t2, s2, _, s3, t4, s4, rfl, ⟨hb9, Nat.le_trans hI.le (by simp), RowSt.alloc _ hI.r, RowSt.alloc _ hI.c, Own.empty spanF 121 B wv hI.le, RowSt.alloc _ hI.t⟩⟩
      refine AllReadyN.app ?_ ?_
      · refine AllReadyN.cons (at_op rfl) (fun K hK => ?_) AllReadyN.nil
        go_simp
        have hb9 := hI.bel.alloc hI.le (.cells #[] 101)
        refine hK.out _ _ (fun _ => hBx.out _ hb9) (fun hSb => ?_)
        clear hK K hSb
        try simp only [Act.put, List.setIfInBounds_toArray, List.set_cons_zero, List.set_cons_succ]
        exact IH .c2001 _ _ (by decide) ⟨t1, s1, t2, s2, t3, s3, _, s4, rfl, ⟨hb9, Nat.le_trans hI.le (by simp), RowSt.alloc _ hI.r, RowSt.alloc _ hI.c, RowSt.alloc _ hI.s, Own.empty tieF 101 B wv hI.le⟩⟩
      exact AllReadyN.nil
    case c2001 =>
      refine wpAnyN_ready (fuel := 6) (listed := #[true, true, true, true, true, true, false, true, true, false, false, true, true, false, true, true, true, false, false, false]) (rs := [6, 10]) (by kernel_rfl) (by simp) ?_
      unfold C8.fr
      refine AllReadyN.app ?_ ?_
      · refine AllReadyN.cons (at_op rfl) (fun K hK => ?_) AllReadyN.nil
        go_simp
        have hb9 := hI.bel.alloc hI.le (.cells #[] 56)
        refine hK.out _ _ (fun _ => hBx.out _ hb9) (fun hSb => ?_)
        clear hK K hSb
        try simp only [Act.put, List.setIfInBounds_toArray, List.set_cons_zero, List.set_cons_succ]
        exact IH .c2101 _ _ (by decide) ⟨t1, s1, _, s2, t3, s3, t4, s4, rfl, ⟨hb9, Nat.le_trans hI.le (by simp), RowSt.alloc _ hI.r, Own.empty chunkF 56 B wv hI.le, RowSt.alloc _ hI.s, RowSt.alloc _ hI.t⟩⟩
      refine AllReadyN.app ?_ ?_
      · refine AllReadyN.cons (at_op rfl) (fun K hK => ?_) AllReadyN.nil
        go_simp
        have hb9 := hI.bel.alloc hI.le (.cells #[] 121)
        refine hK.out _ _ (fun _ => hBx.out _ hb9) (fun hSb => ?_)
        clear hK K hSb
        try simp only [Act.put, List.setIfInBounds_toArray, List.set_cons_zero, List.set_cons_succ]
        exact IH .c2011 _ _ (by decide) ⟨t1, s1, t2, s2, _, s3, t4, s4, rfl, ⟨hb9, Nat.le_trans hI.le (by simp), RowSt.alloc _ hI.r, RowSt.alloc _ hI.c, Own.empty spanF 121 B wv hI.le, RowSt.alloc _ hI.t⟩⟩
      exact AllReadyN.nil
    case c2010 =>
      refine wpAnyN_ready (fuel := 6) (listed := #[true, true, true, true, true, true, false, true, true, false, true, true, true, false, false, true, true, false, false, false]) (rs := [6, 14]) (by kernel_rfl) (by simp) ?_
      unfold C8.fr
      refine AllReadyN.app ?_ ?_
      · refine AllReadyN.cons (at_op rfl) (fun K hK => ?_) AllReadyN.nil
        go_simp
        have hb9 := hI.bel.alloc hI.le (.cells #[] 56)
        refine hK.out _ _ (fun _ => hBx.out _ hb9) (fun hSb => ?_)
        clear hK K hSb
        try simp only [Act.put, List.setIfInBounds_toArray, List.set_cons_zero, List.set_cons_succ]
        exact IH .c2110 _ _ (by decide) ⟨t1, s1, _, s2, t3, s3, t4, s4, rfl, ⟨hb9, Nat.le_trans hI.le (by simp), RowSt.alloc _ hI.r, Own.empty chunkF 56 B wv hI.le, RowSt.alloc _ hI.s, RowSt.alloc _ hI.t⟩⟩
      refine AllReadyN.app ?_ ?_
      · refine AllReadyN.cons (at_op rfl) (fun K hK => ?_) AllReadyN.nil
        go_simp
        have hb9 := hI.bel.alloc hI.le (.cells #[] 101)
        refine hK.out _ _ (fun _ => hBx.out _ hb9) (fun hSb => ?_)
        clear hK K hSb
        try simp only [Act.put, List.setIfInBounds_toArray, List.set_cons_zero, List.set_cons_succ]
        exact IH .c2011 _ _ (by decide) ⟨t1, s1, t2, s2, t3, s3, _, s4, rfl, ⟨hb9, Nat.le_trans hI.le (by simp), RowSt.alloc _ hI.r, RowSt.alloc _ hI.c, RowSt.alloc _ hI.s, Own.empty tieF 101 B wv hI.le⟩⟩
      exact AllReadyN.nil
    case c2011 =>
      refine wpAnyN_ready (fuel := 5) (listed := #[true, true, true, true, true, true, false, true, true, false, true, true, true, false, true, true, true, false, false, false]) (rs := [6]) (by kernel_rfl) (by simp) ?_
      unfold C8.fr
      refine AllReadyN.app ?_ ?_
      · refine AllReadyN.cons (at_op rfl) (fun K hK => ?_) AllReadyN.nil
        go_simp
        have hb9 := hI.bel.alloc hI.le (.cells #[] 56)
        refine hK.out _ _ (fun _ => hBx.out _ hb9) (fun hSb => ?_)
        clear hK K hSb
        try simp only [Act.put, List.setIfInBounds_toArray, List.set_cons_zero, List.set_cons_succ]
        exact IH .c2111 _ _ (by decide) ⟨t1, s1, _, s2, t3, s3, t4, s4, rfl, ⟨hb9, Nat.le_trans hI.le (by simp), RowSt.alloc _ hI.r, Own.empty chunkF 56 B wv hI.le, RowSt.alloc _ hI.s, RowSt.alloc _ hI.t⟩⟩
      exact AllReadyN.nil
    case c2100 =>
      refine wpAnyN_ready (fuel := 6) (listed := #[true, true, true, true, true, true, true, true, true, false, false, true, true, false, false, true, true, false, false, false]) (rs := [9, 10, 14]) (by kernel_rfl) (by simp) ?_
      unfold C8.fr
      refine AllReadyN.app ?_ ?_
      · refine readyN_list (at_op rfl) (fun K hK => ?_)
        have hOw : Own chunkF 56 B wv.heap.size wv t2 [] := hI.c
        refine wp_appAllgC (F := chunkF) (xs := []) (ys := x.chunks) (P := Try.prog) rfl (.tmp 9) (.tmp 11) 25 rfl Try.underlying25 hi1 hy0 hy1 hy2 rfl (by decide) rfl hOw rfl ((hp1.out.c).below hI.bel (by have := hB.out; omega)) (by simp only [List.length_nil]; omega) (by simp only [List.length_nil]; omega) hI.le ?_
        intro v9 w9 hO9 hb9 hg9
        replace hO9 : Own chunkF 56 B w9.heap.size w9 v9 x.chunks := hO9
        obtain ⟨a9, c9, rfl, -, -, -⟩ := hO9.form
        refine hK.out _ _ (fun _ => hBx.out _ (hI.bel.trans hb9)) (fun hSb => ?_)
        clear hK K hSb
        try simp only [Act.put, List.setIfInBounds_toArray, List.set_cons_zero, List.set_cons_succ]
        exact IH .c2200 _ _ (by decide) ⟨t1, s1, t2, _, t3, s3, t4, s4, rfl, ⟨hI.bel.trans hb9, Nat.le_trans hI.le hg9.size, hI.r.kept hOw (by decide) hg9, ⟨a9, c9, rfl, hO9⟩, hI.s.kept hOw (by decide) hg9, hI.t.kept hOw (by decide) hg9⟩⟩
      refine AllReadyN.app ?_ ?_
      · refine AllReadyN.cons (at_op rfl) (fun K hK => ?_) AllReadyN.nil
        go_simp
        have hb9 := hI.bel.alloc hI.le (.cells #[] 121)
        refine hK.out _ _ (fun _ => hBx.out _ hb9) (fun hSb => ?_)
        clear hK K hSb
        try simp only [Act.put, List.setIfInBounds_toArray, List.set_cons_zero, List.set_cons_succ]
        exact IH .c2110 _ _ (by decide) ⟨t1, s1, t2, s2, _, s3, t4, s4, rfl, ⟨hb9, Nat.le_trans hI.le (by simp), RowSt.alloc _ hI.r, RowSt.alloc _ hI.c, Own.empty spanF 121 B wv hI.le, RowSt.alloc _ hI.t⟩⟩
      refine AllReadyN.app ?_ ?_
      · refine AllReadyN.cons (at_op rfl) (fun K hK => ?_) AllReadyN.nil
        go_simp
        have hb9 := hI.bel.alloc hI.le (.cells #[] 101)
        refine hK.out _ _ (fun _ => hBx.out _ hb9) (fun hSb => ?_)
        clear hK K hSb
        try simp only [Act.put, List.setIfInBounds_toArray, List.set_cons_zero, List.set_cons_succ]
        exact IH .c2101 _ _ (by decide) ⟨t1, s1, t2, s2, t3, s3, _, s4, rfl, ⟨hb9, Nat.le_trans hI.le (by simp), RowSt.alloc _ hI.r, RowSt.alloc _ hI.c, RowSt.alloc _ hI.s, Own.empty tieF 101 B wv hI.le⟩⟩
      exact AllReadyN.nil
    case c2101 =>
      refine wpAnyN_ready (fuel := 5) (listed := #[true, true, true, true, true, true, true, true, true, false, false, true, true, false, true, true, true, false, false, false]) (rs := [9, 10]) (by kernel_rfl) (by simp) ?_
      unfold C8.fr
      refine AllReadyN.app ?_ ?_
      · refine readyN_list (at_op rfl) (fun K hK => ?_)
        have hOw : Own chunkF 56 B wv.heap.size wv t2 [] := hI.c
        refine wp_appAllgC (F := chunkF) (xs := []) (ys := x.chunks) (P := Try.prog) rfl (.tmp 9) (.tmp 11) 25 rfl Try.underlying25 hi1 hy0 hy1 hy2 rfl (by decide) rfl hOw rfl ((hp1.out.c).below hI.bel (by have := hB.out; omega)) (by simp only [List.length_nil]; omega) (by simp only [List.length_nil]; omega) hI.le ?_
        intro v9 w9 hO9 hb9 hg9
        replace hO9 : Own chunkF 56 B w9.heap.size w9 v9 x.chunks := hO9
        obtain ⟨a9, c9, rfl, -, -, -⟩ := hO9.form
        refine hK.out _ _ (fun _ => hBx.out _ (hI.bel.trans hb9)) (fun hSb => ?_)
        clear hK K hSb
        try simp only [Act.put, List.setIfInBounds_toArray, List.set_cons_zero, List.set_cons_succ]
        exact IH .c2201 _ _ (by decide) ⟨t1, s1, t2, _, t3, s3, t4, s4, rfl, ⟨hI.bel.trans hb9, Nat.le_trans hI.le hg9.size, hI.r.kept hOw (by decide) hg9, ⟨a9, c9, rfl, hO9⟩, hI.s.kept hOw (by decide) hg9, hI.t.kept hOw (by decide) hg9⟩⟩
      refine AllReadyN.app ?_ ?_
      · refine AllReadyN.cons (at_op rfl) (fun K hK => ?_) AllReadyN.nil
        go_simp
        have hb9 := hI.bel.alloc hI.le (.cells #[] 121)
        refine hK.out _ _ (fun _ => hBx.out _ hb9) (fun hSb => ?_)
        clear hK K hSb
        try simp only [Act.put, List.setIfInBounds_toArray, List.set_cons_zero, List.set_cons_succ]
        exact IH .c2111 _ _ (by decide) ⟨t1, s1, t2, s2, _, s3, t4, s4, rfl, ⟨hb9, Nat.le_trans hI.le (by simp), RowSt.alloc _ hI.r, RowSt.alloc _ hI.c, Own.empty spanF 121 B wv hI.le, RowSt.alloc _ hI.t⟩⟩
      exact AllReadyN.nil
    case c2110 =>
      refine wpAnyN_ready (fuel := 5) (listed := #[true, true, true, true, true, true, true, true, true, false, true, true, true, false, false, true, true, false, false, false]) (rs := [9, 14]) (by kernel_rfl) (by simp) ?_
      unfold C8.fr
      refine AllReadyN.app ?_ ?_
      · refine readyN_list (at_op rfl) (fun K hK => ?_)
        have hOw : Own chunkF 56 B wv.heap.size wv t2 [] := hI.c
        refine wp_appAllgC (F := chunkF) (xs := []) (ys := x.chunks) (P := Try.prog) rfl (.tmp 9) (.tmp 11) 25 rfl Try.underlying25 hi1 hy0 hy1 hy2 rfl (by decide) rfl hOw rfl ((hp1.out.c).below hI.bel (by have := hB.out; omega)) (by simp only [List.length_nil]; omega) (by simp only [List.length_nil]; omega) hI.le ?_
        intro v9 w9 hO9 hb9 hg9
        replace hO9 : Own chunkF 56 B w9.heap.size w9 v9 x.chunks := hO9
        obtain ⟨a9, c9, rfl, -, -, -⟩ := hO9.form
        refine hK.out _ _ (fun _ => hBx.out _ (hI.bel.trans hb9)) (fun hSb => ?_)
        clear hK K hSb
        try simp only [Act.put, List.setIfInBounds_toArray, List.set_cons_zero, List.set_cons_succ]
        exact IH .c2210 _ _ (by decide) ⟨t1, s1, t2, _, t3, s3, t4, s4, rfl, ⟨hI.bel.trans hb9, Nat.le_trans hI.le hg9.size, hI.r.kept hOw (by decide) hg9, ⟨a9, c9, rfl, hO9⟩, hI.s.kept hOw (by decide) hg9, hI.t.kept hOw (by decide) hg9⟩⟩
      refine AllReadyN.app ?_ ?_
      · refine AllReadyN.cons (at_op rfl) (fun K hK => ?_) AllReadyN.nil
        go_simp
        have hb9 := hI.bel.alloc hI.le (.cells #[] 101)
        refine hK.out _ _ (fun _ => hBx.out _ hb9) (fun hSb => ?_)
        clear hK K hSb
        try simp only [Act.put, List.setIfInBounds_toArray, List.set_cons_zero, List.set_cons_succ]
        exact IH .c2111 _ _ (by decide) ⟨t1, s1, t2, s2, t3, s3, _, s4, rfl, ⟨hb9, Nat.le_trans hI.le (by simp), RowSt.alloc _ hI.r, RowSt.alloc _ hI.c, RowSt.alloc _ hI.s, Own.empty tieF 101 B wv hI.le⟩⟩
      exact AllReadyN.nil
    case c2111 =>
      refine wpAnyN_ready (fuel := 4) (listed := #[true, true, true, true, true, true, true, true, true, false, true, true, true, false, true, true, true, false, false, false]) (rs := [9]) (by kernel_rfl) (by simp) ?_
      unfold C8.fr
      refine AllReadyN.app ?_ ?_
      · refine readyN_list (at_op rfl) (fun K hK => ?_)
        have hOw : Own chunkF 56 B wv.heap.size wv t2 [] := hI.c
        refine wp_appAllgC (F := chunkF) (xs := []) (ys := x.chunks) (P := Try.prog) rfl (.tmp 9) (.tmp 11) 25 rfl Try.underlying25 hi1 hy0 hy1 hy2 rfl (by decide) rfl hOw rfl ((hp1.out.c).below hI.bel (by have := hB.out; omega)) (by simp only [List.length_nil]; omega) (by simp only [List.length_nil]; omega) hI.le ?_
        intro v9 w9 hO9 hb9 hg9
        replace hO9 : Own chunkF 56 B w9.heap.size w9 v9 x.chunks := hO9
        obtain ⟨a9, c9, rfl, -, -, -⟩ := hO9.form
        refine hK.out _ _ (fun _ => hBx.out _ (hI.bel.trans hb9)) (fun hSb => ?_)
        clear hK K hSb
        try simp only [Act.put, List.setIfInBounds_toArray, List.set_cons_zero, List.set_cons_succ]
        exact IH .c2211 _ _ (by decide) ⟨t1, s1, t2, _, t3, s3, t4, s4, rfl, ⟨hI.bel.trans hb9, Nat.le_trans hI.le hg9.size, hI.r.kept hOw (by decide) hg9, ⟨a9, c9, rfl, hO9⟩, hI.s.kept hOw (by decide) hg9, hI.t.kept hOw (by decide) hg9⟩⟩
      exact AllReadyN.nil
    case c2200 =>
      refine wpAnyN_ready (fuel := 5) (listed := #[true, true, true, true, true, true, true, true, true, true, false, true, true, false, false, true, true, false, false, false]) (rs := [10, 14]) (by kernel_rfl) (by simp) ?_
      unfold C8.fr
      refine AllReadyN.app ?_ ?_
      · refine AllReadyN.cons (at_op rfl) (fun K hK => ?_) AllReadyN.nil
        go_simp
        have hb9 := hI.bel.alloc hI.le (.cells #[] 121)
        refine hK.out _ _ (fun _ => hBx.out _ hb9) (fun hSb => ?_)
        clear hK K hSb
        try simp only [Act.put, List.setIfInBounds_toArray, List.set_cons_zero, List.set_cons_succ]
        exact IH .c2210 _ _ (by decide) ⟨t1, s1, t2, s2, _, s3, t4, s4, rfl, ⟨hb9, Nat.le_trans hI.le (by simp), RowSt.alloc _ hI.r, RowSt.alloc _ hI.c, Own.empty spanF 121 B wv hI.le, RowSt.alloc _ hI.t⟩⟩
      refine AllReadyN.app ?_ ?_
      · refine AllReadyN.cons (at_op rfl) (fun K hK => ?_) AllReadyN.nil
        go_simp
        have hb9 := hI.bel.alloc hI.le (.cells #[] 101)
        refine hK.out _ _ (fun _ => hBx.out _ hb9) (fun hSb => ?_)
        clear hK K hSb
        try simp only [Act.put, List.setIfInBounds_toArray, List.set_cons_zero, List.set_cons_succ]
        exact IH .c2201 _ _ (by decide) ⟨t1, s1, t2, s2, t3, s3, _, s4, rfl, ⟨hb9, Nat.le_trans hI.le (by simp), RowSt.alloc _ hI.r, RowSt.alloc _ hI.c, RowSt.alloc _ hI.s, Own.empty tieF 101 B wv hI.le⟩⟩
      exact AllReadyN.nil
    case c2201 =>
      refine wpAnyN_ready (fuel := 4) (listed := #[true, true, true, true, true, true, true, true, true, true, false, true, true, false, true, true, true, false, false, false]) (rs := [10]) (by kernel_rfl) (by simp) ?_
      unfold C8.fr
      refine AllReadyN.app ?_ ?_
      · refine AllReadyN.cons (at_op rfl) (fun K hK => ?_) AllReadyN.nil
        go_simp
        have hb9 := hI.bel.alloc hI.le (.cells #[] 121)
        refine hK.out _ _ (fun _ => hBx.out _ hb9) (fun hSb => ?_)
        clear hK K hSb
        try simp only [Act.put, List.setIfInBounds_toArray, List.set_cons_zero, List.set_cons_succ]
        exact IH .c2211 _ _ (by decide) ⟨t1, s1, t2, s2, _, s3, t4, s4, rfl, ⟨hb9, Nat.le_trans hI.le (by simp), RowSt.alloc _ hI.r, RowSt.alloc _ hI.c, Own.empty spanF 121 B wv hI.le, RowSt.alloc _ hI.t⟩⟩
      exact AllReadyN.nil
    case c2210 =>
      refine wpAnyN_ready (fuel := 4) (listed := #[true, true, true, true, true, true, true, true, true, true, true, true, true, false, false, true, true, false, false, false]) (rs := [13, 14]) (by kernel_rfl) (by simp) ?_
      unfold C8.fr
      refine AllReadyN.app ?_ ?_
      · refine readyN_list (at_op rfl) (fun K hK => ?_)
        have hOw : Own spanF 121 B wv.heap.size wv t3 [] := hI.s
        refine wp_appAllgC (F := spanF) (xs := []) (ys := x.spans) (P := Try.prog) rfl (.tmp 13) (.tmp 15) 26 rfl Try.underlying26 hi2 hx0 hx1 hx2 rfl (by decide) rfl hOw rfl ((hp1.out.s).below hI.bel (by have := hB.out; omega)) (by simp only [List.length_nil]; omega) (by simp only [List.length_nil]; omega) hI.le ?_
        intro v9 w9 hO9 hb9 hg9
        replace hO9 : Own spanF 121 B w9.heap.size w9 v9 x.spans := hO9
        obtain ⟨a9, c9, rfl, -, -, -⟩ := hO9.form
        refine hK.out _ _ (fun _ => hBx.out _ (hI.bel.trans hb9)) (fun hSb => ?_)
        clear hK K hSb
        try simp only [Act.put, List.setIfInBounds_toArray, List.set_cons_zero, List.set_cons_succ]
        exact IH .c2220 _ _ (by decide) ⟨t1, s1, t2, s2, t3, _, t4, s4, rfl, ⟨hI.bel.trans hb9, Nat.le_trans hI.le hg9.size, hI.r.kept hOw (by decide) hg9, hI.c.kept hOw (by decide) hg9, ⟨a9, c9, rfl, hO9⟩, hI.t.kept hOw (by decide) hg9⟩⟩
      refine AllReadyN.app ?_ ?_
      · refine AllReadyN.cons (at_op rfl) (fun K hK => ?_) AllReadyN.nil
        go_simp
        have hb9 := hI.bel.alloc hI.le (.cells #[] 101)
        refine hK.out _ _ (fun _ => hBx.out _ hb9) (fun hSb => ?_)
        clear hK K hSb
        try simp only [Act.put, List.setIfInBounds_toArray, List.set_cons_zero, List.set_cons_succ]
        exact IH .c2211 _ _ (by decide) ⟨t1, s1, t2, s2, t3, s3, _, s4, rfl, ⟨hb9, Nat.le_trans hI.le (by simp), RowSt.alloc _ hI.r, RowSt.alloc _ hI.c, RowSt.alloc _ hI.s, Own.empty tieF 101 B wv hI.le⟩⟩
      exact AllReadyN.nil
    case c2211 =>
      refine wpAnyN_ready (fuel := 3) (listed := #[true, true, true, true, true, true, true, true, true, true, true, true, true, false, true, true, true, false, false, false]) (rs := [13]) (by kernel_rfl) (by simp) ?_
      unfold C8.fr
      refine AllReadyN.app ?_ ?_
      · refine readyN_list (at_op rfl) (fun K hK => ?_)
        have hOw : Own spanF 121 B wv.heap.size wv t3 [] := hI.s
        refine wp_appAllgC (F := spanF) (xs := []) (ys := x.spans) (P := Try.prog) rfl (.tmp 13) (.tmp 15) 26 rfl Try.underlying26 hi2 hx0 hx1 hx2 rfl (by decide) rfl hOw rfl ((hp1.out.s).below hI.bel (by have := hB.out; omega)) (by simp only [List.length_nil]; omega) (by simp only [List.length_nil]; omega) hI.le ?_
        intro v9 w9 hO9 hb9 hg9
        replace hO9 : Own spanF 121 B w9.heap.size w9 v9 x.spans := hO9
        obtain ⟨a9, c9, rfl, -, -, -⟩ := hO9.form
        refine hK.out _ _ (fun _ => hBx.out _ (hI.bel.trans hb9)) (fun hSb => ?_)
        clear hK K hSb
        try simp only [Act.put, List.setIfInBounds_toArray, List.set_cons_zero, List.set_cons_succ]
        exact IH .c2221 _ _ (by decide) ⟨t1, s1, t2, s2, t3, _, t4, s4, rfl, ⟨hI.bel.trans hb9, Nat.le_trans hI.le hg9.size, hI.r.kept hOw (by decide) hg9, hI.c.kept hOw (by decide) hg9, ⟨a9, c9, rfl, hO9⟩, hI.t.kept hOw (by decide) hg9⟩⟩
      exact AllReadyN.nil
    case c2220 =>
      refine wpAnyN_ready (fuel := 3) (listed := #[true, true, true, true, true, true, true, true, true, true, true, true, true, true, false, true, true, false, false, false]) (rs := [14]) (by kernel_rfl) (by simp) ?_
      unfold C8.fr
      refine AllReadyN.app ?_ ?_
      · refine AllReadyN.cons (at_op rfl) (fun K hK => ?_) AllReadyN.nil
        go_simp
        have hb9 := hI.bel.alloc hI.le (.cells #[] 101)
        refine hK.out _ _ (fun _ => hBx.out _ hb9) (fun hSb => ?_)
        clear hK K hSb
        try simp only [Act.put, List.setIfInBounds_toArray, List.set_cons_zero, List.set_cons_succ]
        exact IH .c2221 _ _ (by decide) ⟨t1, s1, t2, s2, t3, s3, _, s4, rfl, ⟨hb9, Nat.le_trans hI.le (by simp), RowSt.alloc _ hI.r, RowSt.alloc _ hI.c, RowSt.alloc _ hI.s, Own.empty tieF 101 B wv hI.le⟩⟩
      exact AllReadyN.nil
    case c2221 =>
      refine wpAnyN_ready (fuel := 2) (listed := #[true, true, true, true, true, true, true, true, true, true, true, true, true, true, true, true, true, false, false, false]) (rs := [17]) (by kernel_rfl) (by simp) ?_
      unfold C8.fr
      refine AllReadyN.app ?_ ?_
      · refine readyN_list (at_op rfl) (fun K hK => ?_)
        have hOw : Own tieF 101 B wv.heap.size wv t4 [] := hI.t
        refine wp_appAllgC (F := tieF) (xs := []) (ys := x.ties) (P := Try.prog) rfl (.tmp 17) (.tmp 19) 27 rfl Try.underlying27 hi3 hu0 hu1 hu2 rfl (by decide) rfl hOw rfl ((hp1.out.t).below hI.bel (by have := hB.out; omega)) (by simp only [List.length_nil]; omega) (by simp only [List.length_nil]; omega) hI.le ?_
        intro v9 w9 hO9 hb9 hg9
        replace hO9 : Own tieF 101 B w9.heap.size w9 v9 x.ties := hO9
        obtain ⟨a9, c9, rfl, -, -, -⟩ := hO9.form
        refine hK.out _ _ (fun _ => hBx.out _ (hI.bel.trans hb9)) (fun hSb => ?_)
        clear hK K hSb
        try simp only [Act.put, List.setIfInBounds_toArray, List.set_cons_zero, List.set_cons_succ]
        exact IH .c2222 _ _ (by decide) ⟨t1, s1, t2, s2, t3, s3, t4, _, rfl, ⟨hI.bel.trans hb9, Nat.le_trans hI.le hg9.size, hI.r.kept hOw (by decide) hg9, hI.c.kept hOw (by decide) hg9, hI.s.kept hOw (by decide) hg9, ⟨a9, c9, rfl, hO9⟩⟩⟩
      exact AllReadyN.nil
    case c2222 =>
      obtain ⟨b1, d1, rfl, o1⟩ := hI.r
      obtain ⟨b2, d2, rfl, o2⟩ := hI.c
      obtain ⟨b3, d3, rfl, o3⟩ := hI.s
      obtain ⟨b4, d4, rfl, o4⟩ := hI.t
      have hbel := hI.bel
      have hWv := (hbel.block (A + 1) (by have := hB.out; omega)).trans hW
      have hSb := hBx.out _ hbel
      clear hI IH hbx
      unfold C8.fr
      change wpAnyN _ _ _ _ _ _ 2 #[true, true, true, true, true, true, true, true, true, true, true, true, true, true, true, true, true, true, false, false] _ _
      refine wpAnyN_take (i := 18) (v := ?v11) (at_op rfl) (by kernel_rfl) (by kernel_rfl) (by kernel_rfl) (by kernel_rfl) (fun _ _ _ h => h) (Or.inl ⟨by rfl, ?y11⟩) (by assumption) ?r11
      case y11 =>
        intro wx hSx
        obtain ⟨p0, p1, p2, p3, p4⟩ := hSx.five
        go_simp
        try with_reducible rfl
      try simp only [Act.put, List.setIfInBounds_toArray, List.set_cons_zero, List.set_cons_succ]
      have z0 := cell_heap (j := 0) hWv rfl
      have z1 := cell_heap (j := 1) hWv rfl
      have z2 := cell_heap (j := 2) hWv rfl
      have z3 := cell_heap (j := 3) hWv rfl
      have z4 := cell_heap (j := 4) hWv rfl
      have f0 := frozen_heap (j := 0) hWv
      have f1 := frozen_heap (j := 1) hWv
      have f2 := frozen_heap (j := 2) hWv
      have f3 := frozen_heap (j := 3) hWv
      have f4 := frozen_heap (j := 4) hWv
      refine wpAnyN_ready (rs := [19]) (by kernel_rfl) (by simp) ?_
      refine AllReadyN.cons (at_op rfl) (fun K hK => ?_) AllReadyN.nil
      go_wp2_with fail
      refine hK.out _ _ (fun h => absurd rfl h) (fun _ => ?_)
      clear hK K
      try simp only [Act.put, List.setIfInBounds_toArray, List.set_cons_zero, List.set_cons_succ]
      refine wpAnyN_done (by kernel_rfl) ?_ _
      clear z0 z1 z2 z3 z4 f0 f1 f2 f3 f4 hSb
      change Exit.then _ _ _ _ (storeAll (A + 1) [.int .i64 x.indent, .slice b1 x.rules.length d1, .slice b2 x.chunks.length d2, .slice b3 x.spans.length d3, .slice b4 x.ties.length d4] 0 wv)
      have hE := stored5 hWv [.int .i64 x.indent, .slice b1 x.rules.length d1, .slice b2 x.chunks.length d2, .slice b3 x.spans.length d3, .slice b4 x.ties.length d4] rfl
      have hS := same_storeAllP (lo := B) (hi := wv.heap.size) (g := A + 1) (.inl (by have := hB.out; omega)) [.int .i64 x.indent, .slice b1 x.rules.length d1, .slice b2 x.chunks.length d2, .slice b3 x.spans.length d3, .slice b4 x.ties.length d4] 0 wv
      have hL : Below A w (storeAll (A + 1) [.int .i64 x.indent, .slice b1 x.rules.length d1, .slice b2 x.chunks.length d2, .slice b3 x.spans.length d3, .slice b4 x.ties.length d4] 0 wv) := blw_storeAll (hb1.trans (hbel.mono (by have := hB.out; omega))) (by omega) _ _
      have hz : (storeAll (A + 1) [.int .i64 x.indent, .slice b1 x.rules.length d1, .slice b2 x.chunks.length d2, .slice b3 x.spans.length d3, .slice b4 x.ties.length d4] 0 wv).heap.size = wv.heap.size := size_storeAll _ _ _ _
      have HO : POwn x b1 d1 b2 d2 b3 d3 b4 d4 w.heap.size (storeAll (A + 1) [.int .i64 x.indent, .slice b1 x.rules.length d1, .slice b2 x.chunks.length d2, .slice b3 x.spans.length d3, .slice b4 x.ties.length d4] 0 wv).heap.size (storeAll (A + 1) [.int .i64 x.indent, .slice b1 x.rules.length d1, .slice b2 x.chunks.length d2, .slice b3 x.spans.length d3, .slice b4 x.ties.length d4] 0 wv) := by
        rw [hz]
        have hlo : w.heap.size ≤ B := by have := hB.out; have := HAe.out; omega
        exact ⟨(o1.same hS).wide hlo (Nat.le_refl _), (o2.same hS).wide hlo (Nat.le_refl _), (o3.same hS).wide hlo (Nat.le_refl _), (o4.same hS).wide hlo (Nat.le_refl _)⟩
      replace hL := hL.mono (show w.heap.size ≤ A by have := HAe.out; omega)
      clear hz hS o1 o2 o3 o4 hWv hbel
      obtain ⟨q0, q1, q2, q3, q4⟩ := hE
      generalize storeAll (A + 1) [.int .i64 x.indent, .slice b1 x.rules.length d1, .slice b2 x.chunks.length d2, .slice b3 x.spans.length d3, .slice b4 x.ties.length d4] 0 wv = wf at *
      go_wp2
      refine bodyPost_ret (v := .agg #[.int .i64 x.indent, .slice b1 x.rules.length d1, .slice b2 x.chunks.length d2, .slice b3 x.spans.length d3, .slice b4 x.ties.length d4]) (by simp [results, Try.results109, go_sem, q0, q1, q2, q3, q4]) rfl ?_
      exact ⟨b1, d1, b2, d2, b3, d3, b4, d4, rfl, hL, HO⟩
end Go.Proofs.Ytllpgomloblfjaa
namespace Go.Proofs.Ytllpgomloblfjaa
open Go.RowKit

/-- what l08Any keeps: few rules of few values, few rows, short texts -/
structure AnyP (x : Piece) : Prop where
  r : x.rules.length ≤ 9
  v : ∀ r ∈ x.rules, r.values ≤ 4
  c : x.chunks.length ≤ 9
  s : x.spans.length ≤ 41
  t : x.ties.length ≤ 21
  z : Sized' x
theorem pieceOk_any {x : Piece} (h : pieceOk x = true) (hz : Sized' x) (hr : x.rules.length ≤ 5) (hc : x.chunks.length ≤ 9) : AnyP x := by
  unfold pieceOk at h
  simp only [Bool.and_eq_true, decide_eq_true_eq, List.all_eq_true] at h
  obtain ⟨⟨⟨⟨⟨⟨⟨h1, h2⟩, h3⟩, h4⟩, h5⟩, h6⟩, -⟩, -⟩ := h
  refine ⟨by omega, fun r hr => ?_, hc, by omega, by omega, hz⟩
  have := h2 r hr
  unfold ruleOk inR at this
  simp only [Bool.and_eq_true, decide_eq_true_eq] at this
  omega
/-- the copy in block P, its rows below P; the result's block is the first new one -/
structure PE (x : Piece) (ra : Option Addr) (rc : Nat) (ca : Option Addr) (cc : Nat) (sa : Option Addr) (sc : Nat) (ta : Option Addr) (tc : Nat) (g lo hi : Nat) (xs : List Int) (P : Nat) (w0 w : World) : Prop where
  box : PBox x ra rc ca cc sa sc ta tc P w
  own : POwn x ra rc ca cc sa sc ta tc (w0.heap.size + 1) w.heap.size w
  cur : Cur g lo hi xs w
  out : Out g (g + 1) w0 w
  res : w.heap[w0.heap.size]? = some (.cells #[.int .i64 0, .slice none 0 0, .slice none 0 0, .slice none 0 0, .slice none 0 0] 29)
  b1 : g < w0.heap.size
  b2 : w0.heap.size < P
  ok : AnyP x
theorem PFour.sameK {x : Piece} {ra ca sa ta : Option Addr} {rc cc sc tc lo hi lo' hi' : Nat} {w w' : World} (h : PFour x ra rc ca cc sa sc ta tc lo hi w) (hs : Same lo hi w w') (h1 : lo' ≤ lo) (h2 : hi ≤ hi') : PFour x ra rc ca cc sa sc ta tc lo' hi' w' := by
  obtain ⟨a, b, c, d⟩ := h
  exact ⟨(a.same hs).wide h1 h2, (b.same hs).wide h1 h2, (c.same hs).wide h1 h2, (d.same hs).wide h1 h2⟩
theorem own_ne_box {α : Type} {F : Flat α} {T T0 lo hi P : Nat} {w : World} {v : Value} {xs : List α} {arr : Array Value} (h : Own F T lo hi w v xs) (hb : w.heap[P]? = some (.cells arr T0)) (hT : T ≠ T0) : v.ownBlock ≠ some P := by
  rcases h.1.2 with ⟨rfl, hn⟩ | ⟨g1, c1, cur1, rfl, hb1, hh1, rest⟩
  · simp [Value.ownBlock]
  · intro e
    have e1 : g1 = P := by simpa [Value.ownBlock] using e
    subst e1
    rw [hh1] at hb
    injection hb with hb
    injection hb with _ hb2
    exact hT hb2
theorem PE.below {x : Piece} {ra ca sa ta : Option Addr} {rc cc sc tc g lo hi P : Nat} {xs : List Int} {w0 w w' : World} (h : PE x ra rc ca cc sa sc ta tc g lo hi xs P w0 w) (hb : Below w.heap.size w w') : PE x ra rc ca cc sa sc ta tc g lo hi xs P w0 w' := by
  obtain ⟨h1, h2, h3, h4, h5, h6, h7, h8⟩ := h
  have hl := h1.lt
  exact ⟨h1.below hb, (h2.below hb (Nat.le_refl _)).wide (Nat.le_refl _) hb.size, h3.below hb (by omega), h4.then hb (by omega), blk hb h5, h6, h7, h8⟩
/-- a store into the copy's own block -/
theorem PE.setbox {x x' : Piece} {ra ca sa ta rb cb sb tb : Option Addr} {rc cc sc tc rd cd sd td g lo hi P j : Nat} {xs : List Int} {w0 w : World} {u : Value} (h : PE x ra rc ca cc sa sc ta tc g lo hi xs P w0 w) (ho : POwn x' rb rd cb cd sb sd tb td (w0.heap.size + 1) w.heap.size w) (hk : AnyP x')
    (hj : (#[Value.int .i64 x.indent, .slice ra x.rules.length rc, .slice ca x.chunks.length cc, .slice sa x.spans.length sc, .slice ta x.ties.length tc]).setIfInBounds j u = #[Value.int .i64 x'.indent, .slice rb x'.rules.length rd, .slice cb x'.chunks.length cd, .slice sb x'.spans.length sd, .slice tb x'.ties.length td]) : PE x' rb rd cb cd sb sd tb td g lo hi xs P w0 (w.setCell ⟨P, j, none⟩ u) := by
  obtain ⟨h1, h2, h3, h4, h5, h6, h7, h8⟩ := h
  have hl := h1.lt
  have hB : Below P w (w.setCell ⟨P, j, none⟩ u) := (Below.refl _ _).setCell (p := ⟨P, j, none⟩) (Nat.le_refl _) _
  have hz : (w.setCell ⟨P, j, none⟩ u).heap.size = w.heap.size := by simp [World.setCell]
  refine ⟨?_, ?_, h3.below hB (by omega), h4.then hB (by omega), (hB.block _ h7).trans h5, h6, h7, hk⟩
  · have := heap_set_same (j := j) (v := u) h1
    rw [hj] at this
    exact this
  · rw [hz]
    exact ⟨ho.r.keepFar (own_ne_box ho.r h1 (by decide)) _ _, ho.c.keepFar (own_ne_box ho.c h1 (by decide)) _ _, ho.s.keepFar (own_ne_box ho.s h1 (by decide)) _ _, ho.t.keepFar (own_ne_box ho.t h1 (by decide)) _ _⟩
theorem PE.apps {x : Piece} {ra ca sa ta aN : Option Addr} {rc cc sc tc cN g lo hi P : Nat} {xs : List Int} {ys : List Span} {w0 w w9 : World} (h : PE x ra rc ca cc sa sc ta tc g lo hi xs P w0 w) (hO : Own spanF 121 (w0.heap.size + 1) w9.heap.size w9 (.slice aN ys.length cN) ys) (hb : Below (w0.heap.size + 1) w w9) (hg : w.grownBy w9 (Value.slice sa x.spans.length sc).ownBlock) (hk : AnyP { x with spans := ys }) : PBox x ra rc ca cc sa sc ta tc P w9 ∧ PE { x with spans := ys } ra rc ca cc aN cN ta tc g lo hi xs P w0 (w9.setCell ⟨P, 3, none⟩ (.slice aN ys.length cN)) := by
  obtain ⟨h1, h2, h3, h4, h5, h6, h7, h8⟩ := h
  have hs := hb.size
  have h1' : PBox x ra rc ca cc sa sc ta tc P w9 := (hg.block P h1.lt (fun e => own_ne_box h2.s h1 (by decide) e.symm)).trans h1
  have hl := h1'.lt
  have hB : Below P w9 (w9.setCell ⟨P, 3, none⟩ (.slice aN ys.length cN)) := (Below.refl _ _).setCell (p := ⟨P, 3, none⟩) (Nat.le_refl _) _
  have hz : (w9.setCell ⟨P, 3, none⟩ (.slice aN ys.length cN)).heap.size = w9.heap.size := by simp [World.setCell]
  refine ⟨h1', heap_set_same h1', ?_, (h3.below hb (by omega)).below hB (by omega), (h4.then hb (by omega)).then hB (by omega), (hB.block _ h7).trans ((hb.block _ (by omega)).trans h5), h6, h7, hk⟩
  rw [hz]
  refine ⟨(fun k => Own.keepFar k (own_ne_box k h1' (by decide)) _ _) ((own_kept h2.r h2.s (by decide) hg (Nat.le_refl _)).wide (Nat.le_refl _) hs), (fun k => Own.keepFar k (own_ne_box k h1' (by decide)) _ _) ((own_kept h2.c h2.s (by decide) hg (Nat.le_refl _)).wide (Nat.le_refl _) hs), hO.keepFar (own_ne_box hO h1' (by decide)) _ _, (fun k => Own.keepFar k (own_ne_box k h1' (by decide)) _ _) ((own_kept h2.t h2.s (by decide) hg (Nat.le_refl _)).wide (Nat.le_refl _) hs)⟩
theorem PE.appt {x : Piece} {ra ca sa ta aN : Option Addr} {rc cc sc tc cN g lo hi P : Nat} {xs : List Int} {ys : List Tie} {w0 w w9 : World} (h : PE x ra rc ca cc sa sc ta tc g lo hi xs P w0 w) (hO : Own tieF 101 (w0.heap.size + 1) w9.heap.size w9 (.slice aN ys.length cN) ys) (hb : Below (w0.heap.size + 1) w w9) (hg : w.grownBy w9 (Value.slice ta x.ties.length tc).ownBlock) (hk : AnyP { x with ties := ys }) : PBox x ra rc ca cc sa sc ta tc P w9 ∧ PE { x with ties := ys } ra rc ca cc sa sc aN cN g lo hi xs P w0 (w9.setCell ⟨P, 4, none⟩ (.slice aN ys.length cN)) := by
  obtain ⟨h1, h2, h3, h4, h5, h6, h7, h8⟩ := h
  have hs := hb.size
  have h1' : PBox x ra rc ca cc sa sc ta tc P w9 := (hg.block P h1.lt (fun e => own_ne_box h2.t h1 (by decide) e.symm)).trans h1
  have hl := h1'.lt
  have hB : Below P w9 (w9.setCell ⟨P, 4, none⟩ (.slice aN ys.length cN)) := (Below.refl _ _).setCell (p := ⟨P, 4, none⟩) (Nat.le_refl _) _
  have hz : (w9.setCell ⟨P, 4, none⟩ (.slice aN ys.length cN)).heap.size = w9.heap.size := by simp [World.setCell]
  refine ⟨h1', heap_set_same h1', ?_, (h3.below hb (by omega)).below hB (by omega), (h4.then hb (by omega)).then hB (by omega), (hB.block _ h7).trans ((hb.block _ (by omega)).trans h5), h6, h7, hk⟩
  rw [hz]
  refine ⟨(fun k => Own.keepFar k (own_ne_box k h1' (by decide)) _ _) ((own_kept h2.r h2.t (by decide) hg (Nat.le_refl _)).wide (Nat.le_refl _) hs), (fun k => Own.keepFar k (own_ne_box k h1' (by decide)) _ _) ((own_kept h2.c h2.t (by decide) hg (Nat.le_refl _)).wide (Nat.le_refl _) hs), (fun k => Own.keepFar k (own_ne_box k h1' (by decide)) _ _) ((own_kept h2.s h2.t (by decide) hg (Nat.le_refl _)).wide (Nat.le_refl _) hs), hO.keepFar (own_ne_box hO h1' (by decide)) _ _⟩
theorem own_ne_row {α β : Type} {F : Flat α} {G : Flat β} {T T' lo hi lo' hi' g : Nat} {w : World} {u v : Value} {xs : List α} {ys : List β} (h : Own F T lo hi w v xs) (k : Own G T' lo' hi' w u ys) (hT : T ≠ T') (e : u.ownBlock = some g) : v.ownBlock ≠ some g := own_ne k h (Ne.symm hT) e
theorem PE.setr {x : Piece} {ca sa ta : Option Addr} {rc cc sc tc g lo hi P G i j : Nat} {xs : List Int} {w0 w : World} {u : Value} {r : Rule} (h : PE x (some ⟨G, 0, none⟩) rc ca cc sa sc ta tc g lo hi xs P w0 w) (hii : i < x.rules.length) (hj : j < ruleF.size) (e : (ruleF.enc x.rules[i]).set j u = ruleF.enc r) (hk : AnyP { x with rules := x.rules.set i r }) : PE { x with rules := x.rules.set i r } (some ⟨G, 0, none⟩) rc ca cc sa sc ta tc g lo hi xs P w0 (w.setCell ⟨G, i * ruleF.size + j, none⟩ u) := by
  obtain ⟨h1, h2, h3, h4, h5, h6, h7, h8⟩ := h
  have hl := h1.lt
  obtain ⟨g1, g2, g3⟩ := h2.r.below_heap G rfl
  have hB : Below G w (w.setCell ⟨G, i * ruleF.size + j, none⟩ u) := (Below.refl _ _).setCell (p := ⟨G, i * ruleF.size + j, none⟩) (Nat.le_refl _) _
  have hz : (w.setCell ⟨G, i * ruleF.size + j, none⟩ u).heap.size = w.heap.size := by simp [World.setCell]
  have hne : P ≠ G := fun e => own_ne_box h2.r h1 (by decide) (by rw [e]; rfl)
  have hB0 := hB.mono (show w0.heap.size + 1 ≤ G from g1)
  have hll : (x.rules.set i r).length = x.rules.length := List.length_set
  refine ⟨?_, ?_, h3.below hB (by omega), h4.then hB (by omega), (hB.block _ (by omega)).trans h5, h6, h7, hk⟩
  · have := heap_set_other (j := i * ruleF.size + j) (v := u) hne h1
    show _ = some (Obj.cells #[_, .slice _ (x.rules.set i r).length _, _, _, _] _)
    rw [hll]
    exact this
  · rw [hz]
    refine ⟨?_, h2.c.keepFar (own_ne_row h2.c h2.r (by decide) rfl) _ _, h2.s.keepFar (own_ne_row h2.s h2.r (by decide) rfl) _ _, h2.t.keepFar (own_ne_row h2.t h2.r (by decide) rfl) _ _⟩
    show Own _ _ _ _ _ (.slice _ (x.rules.set i r).length _) _
    rw [hll]
    exact h2.r.set rfl hii hj e
theorem PE.setc {x : Piece} {ra sa ta : Option Addr} {rc cc sc tc g lo hi P G i j : Nat} {xs : List Int} {w0 w : World} {u : Value} {r : Chunk} (h : PE x ra rc (some ⟨G, 0, none⟩) cc sa sc ta tc g lo hi xs P w0 w) (hii : i < x.chunks.length) (hj : j < chunkF.size) (e : (chunkF.enc x.chunks[i]).set j u = chunkF.enc r) (hk : AnyP { x with chunks := x.chunks.set i r }) : PE { x with chunks := x.chunks.set i r } ra rc (some ⟨G, 0, none⟩) cc sa sc ta tc g lo hi xs P w0 (w.setCell ⟨G, i * chunkF.size + j, none⟩ u) := by
  obtain ⟨h1, h2, h3, h4, h5, h6, h7, h8⟩ := h
  have hl := h1.lt
  obtain ⟨g1, g2, g3⟩ := h2.c.below_heap G rfl
  have hB : Below G w (w.setCell ⟨G, i * chunkF.size + j, none⟩ u) := (Below.refl _ _).setCell (p := ⟨G, i * chunkF.size + j, none⟩) (Nat.le_refl _) _
  have hz : (w.setCell ⟨G, i * chunkF.size + j, none⟩ u).heap.size = w.heap.size := by simp [World.setCell]
  have hne : P ≠ G := fun e => own_ne_box h2.c h1 (by decide) (by rw [e]; rfl)
  have hB0 := hB.mono (show w0.heap.size + 1 ≤ G from g1)
  have hll : (x.chunks.set i r).length = x.chunks.length := List.length_set
  refine ⟨?_, ?_, h3.below hB (by omega), h4.then hB (by omega), (hB.block _ (by omega)).trans h5, h6, h7, hk⟩
  · have := heap_set_other (j := i * chunkF.size + j) (v := u) hne h1
    show _ = some (Obj.cells #[_, _, .slice _ (x.chunks.set i r).length _, _, _] _)
    rw [hll]
    exact this
  · rw [hz]
    refine ⟨h2.r.keepFar (own_ne_row h2.r h2.c (by decide) rfl) _ _, ?_, h2.s.keepFar (own_ne_row h2.s h2.c (by decide) rfl) _ _, h2.t.keepFar (own_ne_row h2.t h2.c (by decide) rfl) _ _⟩
    show Own _ _ _ _ _ (.slice _ (x.chunks.set i r).length _) _
    rw [hll]
    exact h2.c.set rfl hii hj e
theorem PE.done {x : Piece} {ra ca sa ta : Option Addr} {rc cc sc tc g lo hi P : Nat} {xs : List Int} {w0 w wf : World} (h : PE x ra rc ca cc sa sc ta tc g lo hi xs P w0 w) (e : storeAll w0.heap.size [.int .i64 x.indent, .slice ra x.rules.length rc, .slice ca x.chunks.length cc, .slice sa x.spans.length sc, .slice ta x.ties.length tc] 0 w = wf) : (wf.cell? ⟨w0.heap.size, 0, none⟩ = some (.int .i64 x.indent) ∧ wf.cell? ⟨w0.heap.size, 1, none⟩ = some (.slice ra x.rules.length rc) ∧ wf.cell? ⟨w0.heap.size, 2, none⟩ = some (.slice ca x.chunks.length cc) ∧ wf.cell? ⟨w0.heap.size, 3, none⟩ = some (.slice sa x.spans.length sc) ∧ wf.cell? ⟨w0.heap.size, 4, none⟩ = some (.slice ta x.ties.length tc)) ∧ AnyP x ∧ PFour x ra rc ca cc sa sc ta tc w0.heap.size wf.heap.size wf ∧ Out g (g + 1) w0 wf ∧ Cur g lo hi xs wf := by
  obtain ⟨h1, h2, h3, h4, h5, h6, h7, h8⟩ := h
  have hE := stored5 h5 [.int .i64 x.indent, .slice ra x.rules.length rc, .slice ca x.chunks.length cc, .slice sa x.spans.length sc, .slice ta x.ties.length tc] rfl
  have hB : Below w0.heap.size w (storeAll w0.heap.size [.int .i64 x.indent, .slice ra x.rules.length rc, .slice ca x.chunks.length cc, .slice sa x.spans.length sc, .slice ta x.ties.length tc] 0 w) := blw_storeAll (Below.refl _ _) (Nat.le_refl _) _ _
  have hS := same_storeAllP (lo := w0.heap.size + 1) (hi := w.heap.size) (g := w0.heap.size) (.inl (by omega)) [.int .i64 x.indent, .slice ra x.rules.length rc, .slice ca x.chunks.length cc, .slice sa x.spans.length sc, .slice ta x.ties.length tc] 0 w
  have hs := hB.size
  subst e
  exact ⟨hE, h8, h2.rd.sameK hS (by omega) hs, h4.then hB (Nat.le_refl _), h3.below hB (by omega)⟩
set_option maxHeartbeats 8000000 in
set_option maxRecDepth 100000 in
theorem l08Any_any {g lo hi : Nat} {xs : List Int} {w : World} (hc : Cur g lo hi xs w) :
    Calls Try.prog 64 #[.pointer (some ⟨g, 0, none⟩)] w fun e w' => ∃ (x : Piece) (ra : Option Addr) (rc : Nat) (ca : Option Addr) (cc : Nat) (sa : Option Addr) (sc : Nat) (ta : Option Addr) (tc : Nat), e = .returned (x.v ra rc ca cc sa sc ta tc) ∧ AnyP x ∧ PFour x ra rc ca cc sa sc ta tc w.heap.size w'.heap.size w' ∧ Out g (g + 1) w w' ∧ Cur g lo hi xs w' := by
  obtain ⟨i0, hi0, hz0, hz1, hz2⟩ := info_parts Try.infoRuleD
  obtain ⟨i2, hi2, hx0, hx1, hx2⟩ := info_parts Try.infoSpanD
  obtain ⟨i3, hi3, hu0, hu1, hu2⟩ := info_parts Try.infoTieD
  have hgl := hc.lt
  go_enter Try.func64, Try.ntmps64
  go_upto_region 1 with fail
  have hR0 := heap_alloc_new w (.cells #[.int .i64 0, .slice none 0 0, .slice none 0 0, .slice none 0 0, .slice none 0 0] 29)
  have hb0 : Below w.heap.size w (w.alloc (.cells #[.int .i64 0, .slice none 0 0, .slice none 0 0, .slice none 0 0, .slice none 0 0] 29)) := (Below.refl _ _).alloc (Nat.le_refl _) _
  have hs0 : (w.alloc (.cells #[.int .i64 0, .slice none 0 0, .slice none 0 0, .slice none 0 0, .slice none 0 0] 29)).heap.size = w.heap.size + 1 := by simp
  generalize w.alloc (.cells #[.int .i64 0, .slice none 0 0, .slice none 0 0, .slice none 0 0, .slice none 0 0] 29) = w0 at *
  have hc0 := hc.below hb0 hgl
  have ho0 : Out g (g + 1) w w0 := Out.of_below hb0
  clear hc hb0
  go_wp2_with fail
  refine (l01Below_any hc0 (by omega) (by omega)).mono ?_
  rintro e w1 ⟨k, rfl, k1, k2, ho1, hc1⟩
  replace hR0 := (ho1.block w.heap.size (by omega) (by omega)).trans hR0
  replace ho0 := ho0.trans ho1
  have hs1 := ho1.size
  clear ho1 hc0
  go_upto_region 2 with fail
  go_wp2_with fail
  refine (l01Below_any hc1 (by omega) (by omega)).mono ?_
  rintro e w2 ⟨y, rfl, y1, y2, ho2, hc2⟩
  replace hR0 := (ho2.block w.heap.size (by omega) (by omega)).trans hR0
  replace ho0 := ho0.trans ho2
  have hs2 := ho2.size
  clear ho2 hc1
  go_upto_region 3 with fail
  go_wp2_with fail
  refine (l08Piece_any hc2).mono ?_
  rintro e w3 ⟨x, ra, rc, ca, cc, sa, sc, ta, tc, rfl, hok, hz, r1, r5, c9, hO, ho3, hc3⟩
  have hA := pieceOk_any hok hz r5 c9
  have hst : x.spans.length ≤ 40 ∧ x.ties.length ≤ 20 := by
    unfold pieceOk at hok
    simp only [Bool.and_eq_true, decide_eq_true_eq] at hok
    omega
  have hc0 : 1 ≤ x.chunks.length := by
    unfold pieceOk chunksOk inR at hok
    simp only [Bool.and_eq_true, decide_eq_true_eq] at hok
    omega
  replace hR0 := (ho3.block w.heap.size (by omega) (by omega)).trans hR0
  replace ho0 := ho0.trans ho3
  have hs3 := ho3.size
  clear ho3 hc2 hok hz r5 c9
  go_wp2_with fail
  refine (l08Copy_any x ra ca sa ta rc cc sc tc _ _ w3 hO.rd (Nat.le_refl _) (by have := hA.r; omega) (by have := hA.c; omega) (by have := hA.s; omega) (by have := hA.t; omega)).mono ?_
  rintro e w4 ⟨rb, rd, cb, cd, sb, sd, tb, td, rfl, hb4, hP'⟩
  replace hR0 := blk hb4 hR0
  replace ho0 := ho0.then hb4 (by omega)
  have hc4 := hc3.below hb4 (by omega)
  have hs4 := hb4.size
  clear hb4 hO hc3
  unfold Piece.v
  go_upto_region 4 with fail
  have kb : Below w4.heap.size w4 (w4.alloc (.cells #[.int .i64 x.indent, .slice rb x.rules.length rd, .slice cb x.chunks.length cd, .slice sb x.spans.length sd, .slice tb x.ties.length td] 29)) := (Below.refl _ _).alloc (Nat.le_refl _) _
  have hB4 := heap_alloc_new w4 (.cells #[.int .i64 x.indent, .slice rb x.rules.length rd, .slice cb x.chunks.length cd, .slice sb x.spans.length sd, .slice tb x.ties.length td] 29)
  have hs5 : (w4.alloc (.cells #[.int .i64 x.indent, .slice rb x.rules.length rd, .slice cb x.chunks.length cd, .slice sb x.spans.length sd, .slice tb x.ties.length td] 29)).heap.size = w4.heap.size + 1 := by simp
  obtain ⟨P, hP⟩ : ∃ P, P = w4.heap.size := ⟨_, rfl⟩
  rw [← hP] at hB4 ⊢
  have hOP : POwn x rb rd cb cd sb sd tb td (w.heap.size + 1) P (w4.alloc (.cells #[.int .i64 x.indent, .slice rb x.rules.length rd, .slice cb x.chunks.length cd, .slice sb x.spans.length sd, .slice tb x.ties.length td] 29)) := (hP'.below kb (Nat.le_refl _)).wide (by omega) (by omega)
  have hS : PE x rb rd cb cd sb sd tb td g lo hi xs P w (w4.alloc (.cells #[.int .i64 x.indent, .slice rb x.rules.length rd, .slice cb x.chunks.length cd, .slice sb x.spans.length sd, .slice tb x.ties.length td] 29)) := ⟨hB4, hOP.wide (Nat.le_refl _) (by omega), hc4.below kb (by omega), ho0.then kb (by omega), blk kb hR0, hgl, by omega, hA⟩
  generalize w4.alloc (.cells #[.int .i64 x.indent, .slice rb x.rules.length rd, .slice cb x.chunks.length cd, .slice sb x.spans.length sd, .slice tb x.ties.length td] 29) = w5 at *
  clear hB4 kb hR0 ho0 hc4 hs0 hs1 hs2 hs3 hs4 hs5 hP' hA hP
  obtain ⟨p0, p1, p2, p3, p4⟩ := hS.box.five
  have hm0 : ¬ (x.chunks.length : Int) = 0 := by omega
  go_upto_region 5 with fail
  have hi1 := Int.emod_nonneg y hm0
  have hi2 := Int.emod_lt_of_pos y (show 0 < (x.chunks.length : Int) by omega)
  generalize y % (x.chunks.length : Int) = iz at *
  obtain ⟨i, rfl⟩ := Int.eq_ofNat_of_zero_le hi1
  have hic : i < x.chunks.length := by omega
  clear hi1 hi2 hm0
  rcases (by omega : k = 0 ∨ k = 1 ∨ k = 2 ∨ k = 3 ∨ k = 4 ∨ k = 5 ∨ k = 6 ∨ k = 7 ∨ 8 ≤ k) with rfl | rfl | rfl | rfl | rfl | rfl | rfl | rfl | hk8
  · have t1 := Int.emod_nonneg y (show (3 : Int) ≠ 0 by decide)
    have t2 := Int.emod_lt_of_pos y (show (0 : Int) < 3 by decide)
    go_upto_region 7 with fail
    have f0 := frozen_heap (j := 0) hS.box
    have kL : Below w5.heap.size w5 (w5.alloc (.cells #[.int .i64 (-1), .int .i64 60, .int .i64 61] 3)) := (Below.refl _ _).alloc (Nat.le_refl _) _
    have hL := heap_alloc_new w5 (.cells #[.int .i64 (-1), .int .i64 60, .int .i64 61] 3)
    have c0 := cell_heap (j := 0) hL rfl
    have c1 := cell_heap (j := 1) hL rfl
    have c2 := cell_heap (j := 2) hL rfl
    have hSL := hS.below kL
    have fL := frozen_heap (j := 0) hSL.box
    clear kL hL
    obtain ⟨b0, b1, b2, b3, b4⟩ := hSL.box.five
    rcases (by omega : y % 3 = 0 ∨ y % 3 = 1 ∨ y % 3 = 2) with hy | hy | hy
    · go_upto_region 22 with fail
      have hS2 := hSL.setbox (x' := { x with indent := (-1) }) (j := 0) (u := .int .i64 (-1)) ⟨hSL.own.r, hSL.own.c, hSL.own.s, hSL.own.t⟩ ⟨hSL.ok.r, hSL.ok.v, hSL.ok.c, hSL.ok.s, hSL.ok.t, hSL.ok.z⟩ rfl
      clear hS hSL p0 p1 p2 p3 p4 b0 b1 b2 b3 b4 c0 c1 c2 f0 fL hOP
      generalize (w5.alloc (.cells #[.int .i64 (-1), .int .i64 60, .int .i64 61] 3)).setCell ⟨P, 0, none⟩ (.int .i64 (-1)) = w6 at *
      have hS := hS2
      clear hS2
      obtain ⟨p0, p1, p2, p3, p4⟩ := hS.box.five
      have z0 := cell_heap (j := 0) hS.res rfl
      have z1 := cell_heap (j := 1) hS.res rfl
      have z2 := cell_heap (j := 2) hS.res rfl
      have z3 := cell_heap (j := 3) hS.res rfl
      have z4 := cell_heap (j := 4) hS.res rfl
      have f0 := frozen_heap (j := 0) hS.res
      have f1 := frozen_heap (j := 1) hS.res
      have f2 := frozen_heap (j := 2) hS.res
      have f3 := frozen_heap (j := 3) hS.res
      have f4 := frozen_heap (j := 4) hS.res
      go_wp2
      change bodyPost _ _ _ _ _ (storeAll w.heap.size [.int .i64 (-1), .slice rb x.rules.length rd, .slice cb x.chunks.length cd, .slice sb x.spans.length sd, .slice tb x.ties.length td] 0 w6)
      clear p0 p1 p2 p3 p4 z0 z1 z2 z3 z4 f0 f1 f2 f3 f4
      generalize hwf : storeAll w.heap.size [.int .i64 (-1), .slice rb x.rules.length rd, .slice cb x.chunks.length cd, .slice sb x.spans.length sd, .slice tb x.ties.length td] 0 w6 = wf
      obtain ⟨⟨q0, q1, q2, q3, q4⟩, HA, HF, HB, HC⟩ := hS.done hwf
      clear hwf hS
      refine bodyPost_ret (v := .agg #[.int .i64 (-1), .slice rb x.rules.length rd, .slice cb x.chunks.length cd, .slice sb x.spans.length sd, .slice tb x.ties.length td]) (by simp [results, Try.results64, go_sem, q0, q1, q2, q3, q4]) rfl ?_
      exact ⟨{ x with indent := (-1) }, rb, rd, cb, cd, sb, sd, tb, td, rfl, HA, HF, HB, HC⟩
    · go_upto_region 22 with fail
      have hS2 := hSL.setbox (x' := { x with indent := 60 }) (j := 0) (u := .int .i64 60) ⟨hSL.own.r, hSL.own.c, hSL.own.s, hSL.own.t⟩ ⟨hSL.ok.r, hSL.ok.v, hSL.ok.c, hSL.ok.s, hSL.ok.t, hSL.ok.z⟩ rfl
      clear hS hSL p0 p1 p2 p3 p4 b0 b1 b2 b3 b4 c0 c1 c2 f0 fL hOP
      generalize (w5.alloc (.cells #[.int .i64 (-1), .int .i64 60, .int .i64 61] 3)).setCell ⟨P, 0, none⟩ (.int .i64 60) = w6 at *
      have hS := hS2
      clear hS2
      obtain ⟨p0, p1, p2, p3, p4⟩ := hS.box.five
      have z0 := cell_heap (j := 0) hS.res rfl
      have z1 := cell_heap (j := 1) hS.res rfl
      have z2 := cell_heap (j := 2) hS.res rfl
      have z3 := cell_heap (j := 3) hS.res rfl
      have z4 := cell_heap (j := 4) hS.res rfl
      have f0 := frozen_heap (j := 0) hS.res
      have f1 := frozen_heap (j := 1) hS.res
      have f2 := frozen_heap (j := 2) hS.res
      have f3 := frozen_heap (j := 3) hS.res
      have f4 := frozen_heap (j := 4) hS.res
      go_wp2
      change bodyPost _ _ _ _ _ (storeAll w.heap.size [.int .i64 60, .slice rb x.rules.length rd, .slice cb x.chunks.length cd, .slice sb x.spans.length sd, .slice tb x.ties.length td] 0 w6)
      clear p0 p1 p2 p3 p4 z0 z1 z2 z3 z4 f0 f1 f2 f3 f4
      generalize hwf : storeAll w.heap.size [.int .i64 60, .slice rb x.rules.length rd, .slice cb x.chunks.length cd, .slice sb x.spans.length sd, .slice tb x.ties.length td] 0 w6 = wf
      obtain ⟨⟨q0, q1, q2, q3, q4⟩, HA, HF, HB, HC⟩ := hS.done hwf
      clear hwf hS
      refine bodyPost_ret (v := .agg #[.int .i64 60, .slice rb x.rules.length rd, .slice cb x.chunks.length cd, .slice sb x.spans.length sd, .slice tb x.ties.length td]) (by simp [results, Try.results64, go_sem, q0, q1, q2, q3, q4]) rfl ?_
      exact ⟨{ x with indent := 60 }, rb, rd, cb, cd, sb, sd, tb, td, rfl, HA, HF, HB, HC⟩
    · go_upto_region 22 with fail
      have hS2 := hSL.setbox (x' := { x with indent := 61 }) (j := 0) (u := .int .i64 61) ⟨hSL.own.r, hSL.own.c, hSL.own.s, hSL.own.t⟩ ⟨hSL.ok.r, hSL.ok.v, hSL.ok.c, hSL.ok.s, hSL.ok.t, hSL.ok.z⟩ rfl
      clear hS hSL p0 p1 p2 p3 p4 b0 b1 b2 b3 b4 c0 c1 c2 f0 fL hOP
      generalize (w5.alloc (.cells #[.int .i64 (-1), .int .i64 60, .int .i64 61] 3)).setCell ⟨P, 0, none⟩ (.int .i64 61) = w6 at *
      have hS := hS2
      clear hS2
      obtain ⟨p0, p1, p2, p3, p4⟩ := hS.box.five
      have z0 := cell_heap (j := 0) hS.res rfl
      have z1 := cell_heap (j := 1) hS.res rfl
      have z2 := cell_heap (j := 2) hS.res rfl
      have z3 := cell_heap (j := 3) hS.res rfl
      have z4 := cell_heap (j := 4) hS.res rfl
      have f0 := frozen_heap (j := 0) hS.res
      have f1 := frozen_heap (j := 1) hS.res
      have f2 := frozen_heap (j := 2) hS.res
      have f3 := frozen_heap (j := 3) hS.res
      have f4 := frozen_heap (j := 4) hS.res
      go_wp2
      change bodyPost _ _ _ _ _ (storeAll w.heap.size [.int .i64 61, .slice rb x.rules.length rd, .slice cb x.chunks.length cd, .slice sb x.spans.length sd, .slice tb x.ties.length td] 0 w6)
      clear p0 p1 p2 p3 p4 z0 z1 z2 z3 z4 f0 f1 f2 f3 f4
      generalize hwf : storeAll w.heap.size [.int .i64 61, .slice rb x.rules.length rd, .slice cb x.chunks.length cd, .slice sb x.spans.length sd, .slice tb x.ties.length td] 0 w6 = wf
      obtain ⟨⟨q0, q1, q2, q3, q4⟩, HA, HF, HB, HC⟩ := hS.done hwf
      clear hwf hS
      refine bodyPost_ret (v := .agg #[.int .i64 61, .slice rb x.rules.length rd, .slice cb x.chunks.length cd, .slice sb x.spans.length sd, .slice tb x.ties.length td]) (by simp [results, Try.results64, go_sem, q0, q1, q2, q3, q4]) rfl ?_
      exact ⟨{ x with indent := 61 }, rb, rd, cb, cd, sb, sd, tb, td, rfl, HA, HF, HB, HC⟩
  · have m5 := Int.emod_nonneg y (show (5 : Int) ≠ 0 by decide)
    have m6 := Int.emod_lt_of_pos y (show (0 : Int) < 5 by decide)
    go_upto_region 9 with fail
    obtain ⟨an, cn, hvn, hln, hmn, hgn⟩ := hS.own.r.form
    injection hvn with e1 e2 e3
    subst e1
    obtain ⟨G, rfl, hG1, hG2⟩ := hgn (by omega)
    have hrow : w5.cell? ⟨G, 0, none⟩ = some (.int .i64 (x.rules[0]'(by omega)).values) := hS.own.r.cell (k := 0) (j := 0) rfl (by omega) (by decide)
    have hfz : w5.frozen? ⟨G, 0, none⟩ = false := hS.own.r.frozen rfl _
    clear hln hmn hgn e2 e3
    have hS2 : PE { x with rules := x.rules.set 0 (⟨y % 5, (x.rules[0]'(by omega)).cost⟩ : Rule) } (some ⟨G, 0, none⟩) rd cb cd sb sd tb td g lo hi xs P w (w5.setCell ⟨G, 0, none⟩ (.int .i64 (y % 5))) := hS.setr (i := 0) (j := 0) (r := (⟨y % 5, (x.rules[0]'(by omega)).cost⟩ : Rule)) (by omega) (by decide) rfl ⟨by show (List.set _ _ _).length ≤ 9; rw [List.length_set]; exact hS.ok.r, (by intro r hr; rcases List.mem_or_eq_of_mem_set hr with h | rfl; exact hS.ok.v r h; show y % 5 ≤ 4; omega), hS.ok.c, hS.ok.s, hS.ok.t, hS.ok.z⟩
    go_upto_region 22 with fail
    clear hS p0 p1 p2 p3 p4 hrow hfz hG1 hG2 hOP
    generalize w5.setCell ⟨G, 0, none⟩ (.int .i64 (y % 5)) = w6 at *
    have hS := hS2
    clear hS2
    generalize x.rules.set 0 (⟨y % 5, (x.rules[0]'(by omega)).cost⟩ : Rule) = rs at *
    obtain ⟨p0, p1, p2, p3, p4⟩ := hS.box.five
    have z0 := cell_heap (j := 0) hS.res rfl
    have z1 := cell_heap (j := 1) hS.res rfl
    have z2 := cell_heap (j := 2) hS.res rfl
    have z3 := cell_heap (j := 3) hS.res rfl
    have z4 := cell_heap (j := 4) hS.res rfl
    have f0 := frozen_heap (j := 0) hS.res
    have f1 := frozen_heap (j := 1) hS.res
    have f2 := frozen_heap (j := 2) hS.res
    have f3 := frozen_heap (j := 3) hS.res
    have f4 := frozen_heap (j := 4) hS.res
    go_wp2
    change bodyPost _ _ _ _ _ (storeAll w.heap.size [.int .i64 x.indent, .slice (some ⟨G, 0, none⟩) rs.length rd, .slice cb x.chunks.length cd, .slice sb x.spans.length sd, .slice tb x.ties.length td] 0 w6)
    clear p0 p1 p2 p3 p4 z0 z1 z2 z3 z4 f0 f1 f2 f3 f4
    generalize hwf : storeAll w.heap.size [.int .i64 x.indent, .slice (some ⟨G, 0, none⟩) rs.length rd, .slice cb x.chunks.length cd, .slice sb x.spans.length sd, .slice tb x.ties.length td] 0 w6 = wf
    obtain ⟨⟨q0, q1, q2, q3, q4⟩, HA, HF, HB, HC⟩ := hS.done hwf
    clear hwf hS
    refine bodyPost_ret (v := .agg #[.int .i64 x.indent, .slice (some ⟨G, 0, none⟩) rs.length rd, .slice cb x.chunks.length cd, .slice sb x.spans.length sd, .slice tb x.ties.length td]) (by simp [results, Try.results64, go_sem, q0, q1, q2, q3, q4]) rfl ?_
    exact ⟨{ x with rules := rs }, _, rd, cb, cd, sb, sd, tb, td, rfl, HA, HF, HB, HC⟩
  · skip
    go_upto_region 11 with fail
    obtain ⟨an, cn, hvn, hln, hmn, hgn⟩ := hS.own.c.form
    injection hvn with e1 e2 e3
    subst e1
    obtain ⟨G, rfl, hG1, hG2⟩ := hgn (by omega)
    have hrow : w5.cell? ⟨G, i * 5, none⟩ = some (.string x.chunks[i].text) := hS.own.c.cell (k := i) (j := 0) rfl hic (by decide)
    have hfz : w5.frozen? ⟨G, i * 5, none⟩ = false := hS.own.c.frozen rfl _
    clear hln hmn hgn e2 e3
    have hS2 : PE { x with chunks := x.chunks.set i (⟨⟨#[7]⟩, x.chunks[i].rule, x.chunks[i].fro, x.chunks[i].space, x.chunks[i].nest⟩ : Chunk) } rb rd (some ⟨G, 0, none⟩) cd sb sd tb td g lo hi xs P w (w5.setCell ⟨G, i * 5, none⟩ (.string ⟨#[7]⟩)) := hS.setc (i := i) (j := 0) (r := (⟨⟨#[7]⟩, x.chunks[i].rule, x.chunks[i].fro, x.chunks[i].space, x.chunks[i].nest⟩ : Chunk)) hic (by decide) rfl ⟨hS.ok.r, hS.ok.v, by show (List.set _ _ _).length ≤ 9; rw [List.length_set]; exact hS.ok.c, hS.ok.s, hS.ok.t, (by intro c hcc; rcases List.mem_or_eq_of_mem_set hcc with h | rfl; exact hS.ok.z c h; show (ByteArray.mk #[7]).size ≤ 64; decide)⟩
    go_upto_region 22 with fail
    clear hS p0 p1 p2 p3 p4 hrow hfz hG1 hG2 hOP
    generalize w5.setCell ⟨G, i * 5, none⟩ (.string ⟨#[7]⟩) = w6 at *
    have hS := hS2
    clear hS2
    generalize x.chunks.set i (⟨⟨#[7]⟩, x.chunks[i].rule, x.chunks[i].fro, x.chunks[i].space, x.chunks[i].nest⟩ : Chunk) = rs at *
    obtain ⟨p0, p1, p2, p3, p4⟩ := hS.box.five
    have z0 := cell_heap (j := 0) hS.res rfl
    have z1 := cell_heap (j := 1) hS.res rfl
    have z2 := cell_heap (j := 2) hS.res rfl
    have z3 := cell_heap (j := 3) hS.res rfl
    have z4 := cell_heap (j := 4) hS.res rfl
    have f0 := frozen_heap (j := 0) hS.res
    have f1 := frozen_heap (j := 1) hS.res
    have f2 := frozen_heap (j := 2) hS.res
    have f3 := frozen_heap (j := 3) hS.res
    have f4 := frozen_heap (j := 4) hS.res
    go_wp2
    change bodyPost _ _ _ _ _ (storeAll w.heap.size [.int .i64 x.indent, .slice rb x.rules.length rd, .slice (some ⟨G, 0, none⟩) rs.length cd, .slice sb x.spans.length sd, .slice tb x.ties.length td] 0 w6)
    clear p0 p1 p2 p3 p4 z0 z1 z2 z3 z4 f0 f1 f2 f3 f4
    generalize hwf : storeAll w.heap.size [.int .i64 x.indent, .slice rb x.rules.length rd, .slice (some ⟨G, 0, none⟩) rs.length cd, .slice sb x.spans.length sd, .slice tb x.ties.length td] 0 w6 = wf
    obtain ⟨⟨q0, q1, q2, q3, q4⟩, HA, HF, HB, HC⟩ := hS.done hwf
    clear hwf hS
    refine bodyPost_ret (v := .agg #[.int .i64 x.indent, .slice rb x.rules.length rd, .slice (some ⟨G, 0, none⟩) rs.length cd, .slice sb x.spans.length sd, .slice tb x.ties.length td]) (by simp [results, Try.results64, go_sem, q0, q1, q2, q3, q4]) rfl ?_
    exact ⟨{ x with chunks := rs }, rb, rd, _, cd, sb, sd, tb, td, rfl, HA, HF, HB, HC⟩
  · have m5 := Int.emod_nonneg y (show (4 : Int) ≠ 0 by decide)
    have m6 := Int.emod_lt_of_pos y (show (0 : Int) < 4 by decide)
    go_upto_region 13 with fail
    obtain ⟨an, cn, hvn, hln, hmn, hgn⟩ := hS.own.c.form
    injection hvn with e1 e2 e3
    subst e1
    obtain ⟨G, rfl, hG1, hG2⟩ := hgn (by omega)
    have hrow : w5.cell? ⟨G, i * 5 + 1 + 1, none⟩ = some (.int .i64 x.chunks[i].fro) := hS.own.c.cell (k := i) (j := 2) rfl hic (by decide)
    have hfz : w5.frozen? ⟨G, i * 5 + 1 + 1, none⟩ = false := hS.own.c.frozen rfl _
    clear hln hmn hgn e2 e3
    have hS2 : PE { x with chunks := x.chunks.set i (⟨x.chunks[i].text, x.chunks[i].rule, y % 4, x.chunks[i].space, x.chunks[i].nest⟩ : Chunk) } rb rd (some ⟨G, 0, none⟩) cd sb sd tb td g lo hi xs P w (w5.setCell ⟨G, i * 5 + 1 + 1, none⟩ (.int .i64 (y % 4))) := hS.setc (i := i) (j := 2) (r := (⟨x.chunks[i].text, x.chunks[i].rule, y % 4, x.chunks[i].space, x.chunks[i].nest⟩ : Chunk)) hic (by decide) rfl ⟨hS.ok.r, hS.ok.v, by show (List.set _ _ _).length ≤ 9; rw [List.length_set]; exact hS.ok.c, hS.ok.s, hS.ok.t, (by intro c hcc; rcases List.mem_or_eq_of_mem_set hcc with h | rfl; exact hS.ok.z c h; show x.chunks[i].text.size ≤ 64; exact hS.ok.z _ (List.getElem_mem hic))⟩
    go_upto_region 22 with fail
    clear hS p0 p1 p2 p3 p4 hrow hfz hG1 hG2 hOP
    generalize w5.setCell ⟨G, i * 5 + 1 + 1, none⟩ (.int .i64 (y % 4)) = w6 at *
    have hS := hS2
    clear hS2
    generalize x.chunks.set i (⟨x.chunks[i].text, x.chunks[i].rule, y % 4, x.chunks[i].space, x.chunks[i].nest⟩ : Chunk) = rs at *
    obtain ⟨p0, p1, p2, p3, p4⟩ := hS.box.five
    have z0 := cell_heap (j := 0) hS.res rfl
    have z1 := cell_heap (j := 1) hS.res rfl
    have z2 := cell_heap (j := 2) hS.res rfl
    have z3 := cell_heap (j := 3) hS.res rfl
    have z4 := cell_heap (j := 4) hS.res rfl
    have f0 := frozen_heap (j := 0) hS.res
    have f1 := frozen_heap (j := 1) hS.res
    have f2 := frozen_heap (j := 2) hS.res
    have f3 := frozen_heap (j := 3) hS.res
    have f4 := frozen_heap (j := 4) hS.res
    go_wp2
    change bodyPost _ _ _ _ _ (storeAll w.heap.size [.int .i64 x.indent, .slice rb x.rules.length rd, .slice (some ⟨G, 0, none⟩) rs.length cd, .slice sb x.spans.length sd, .slice tb x.ties.length td] 0 w6)
    clear p0 p1 p2 p3 p4 z0 z1 z2 z3 z4 f0 f1 f2 f3 f4
    generalize hwf : storeAll w.heap.size [.int .i64 x.indent, .slice rb x.rules.length rd, .slice (some ⟨G, 0, none⟩) rs.length cd, .slice sb x.spans.length sd, .slice tb x.ties.length td] 0 w6 = wf
    obtain ⟨⟨q0, q1, q2, q3, q4⟩, HA, HF, HB, HC⟩ := hS.done hwf
    clear hwf hS
    refine bodyPost_ret (v := .agg #[.int .i64 x.indent, .slice rb x.rules.length rd, .slice (some ⟨G, 0, none⟩) rs.length cd, .slice sb x.spans.length sd, .slice tb x.ties.length td]) (by simp [results, Try.results64, go_sem, q0, q1, q2, q3, q4]) rfl ?_
    exact ⟨{ x with chunks := rs }, rb, rd, _, cd, sb, sd, tb, td, rfl, HA, HF, HB, HC⟩
  · have m5 := Int.emod_nonneg y (show (9 : Int) ≠ 0 by decide)
    have m6 := Int.emod_lt_of_pos y (show (0 : Int) < 9 by decide)
    go_upto_region 15 with fail
    obtain ⟨an, cn, hvn, hln, hmn, hgn⟩ := hS.own.c.form
    injection hvn with e1 e2 e3
    subst e1
    obtain ⟨G, rfl, hG1, hG2⟩ := hgn (by omega)
    have hrow : w5.cell? ⟨G, i * 5 + 1, none⟩ = some (.int .i64 x.chunks[i].rule) := hS.own.c.cell (k := i) (j := 1) rfl hic (by decide)
    have hfz : w5.frozen? ⟨G, i * 5 + 1, none⟩ = false := hS.own.c.frozen rfl _
    clear hln hmn hgn e2 e3
    have hS2 : PE { x with chunks := x.chunks.set i (⟨x.chunks[i].text, y % 9 - 1, x.chunks[i].fro, x.chunks[i].space, x.chunks[i].nest⟩ : Chunk) } rb rd (some ⟨G, 0, none⟩) cd sb sd tb td g lo hi xs P w (w5.setCell ⟨G, i * 5 + 1, none⟩ (.int .i64 (y % 9 - 1))) := hS.setc (i := i) (j := 1) (r := (⟨x.chunks[i].text, y % 9 - 1, x.chunks[i].fro, x.chunks[i].space, x.chunks[i].nest⟩ : Chunk)) hic (by decide) rfl ⟨hS.ok.r, hS.ok.v, by show (List.set _ _ _).length ≤ 9; rw [List.length_set]; exact hS.ok.c, hS.ok.s, hS.ok.t, (by intro c hcc; rcases List.mem_or_eq_of_mem_set hcc with h | rfl; exact hS.ok.z c h; show x.chunks[i].text.size ≤ 64; exact hS.ok.z _ (List.getElem_mem hic))⟩
    go_upto_region 22 with fail
    clear hS p0 p1 p2 p3 p4 hrow hfz hG1 hG2 hOP
    generalize w5.setCell ⟨G, i * 5 + 1, none⟩ (.int .i64 (y % 9 - 1)) = w6 at *
    have hS := hS2
    clear hS2
    generalize x.chunks.set i (⟨x.chunks[i].text, y % 9 - 1, x.chunks[i].fro, x.chunks[i].space, x.chunks[i].nest⟩ : Chunk) = rs at *
    obtain ⟨p0, p1, p2, p3, p4⟩ := hS.box.five
    have z0 := cell_heap (j := 0) hS.res rfl
    have z1 := cell_heap (j := 1) hS.res rfl
    have z2 := cell_heap (j := 2) hS.res rfl
    have z3 := cell_heap (j := 3) hS.res rfl
    have z4 := cell_heap (j := 4) hS.res rfl
    have f0 := frozen_heap (j := 0) hS.res
    have f1 := frozen_heap (j := 1) hS.res
    have f2 := frozen_heap (j := 2) hS.res
    have f3 := frozen_heap (j := 3) hS.res
    have f4 := frozen_heap (j := 4) hS.res
    go_wp2
    change bodyPost _ _ _ _ _ (storeAll w.heap.size [.int .i64 x.indent, .slice rb x.rules.length rd, .slice (some ⟨G, 0, none⟩) rs.length cd, .slice sb x.spans.length sd, .slice tb x.ties.length td] 0 w6)
    clear p0 p1 p2 p3 p4 z0 z1 z2 z3 z4 f0 f1 f2 f3 f4
    generalize hwf : storeAll w.heap.size [.int .i64 x.indent, .slice rb x.rules.length rd, .slice (some ⟨G, 0, none⟩) rs.length cd, .slice sb x.spans.length sd, .slice tb x.ties.length td] 0 w6 = wf
    obtain ⟨⟨q0, q1, q2, q3, q4⟩, HA, HF, HB, HC⟩ := hS.done hwf
    clear hwf hS
    refine bodyPost_ret (v := .agg #[.int .i64 x.indent, .slice rb x.rules.length rd, .slice (some ⟨G, 0, none⟩) rs.length cd, .slice sb x.spans.length sd, .slice tb x.ties.length td]) (by simp [results, Try.results64, go_sem, q0, q1, q2, q3, q4]) rfl ?_
    exact ⟨{ x with chunks := rs }, rb, rd, _, cd, sb, sd, tb, td, rfl, HA, HF, HB, HC⟩
  · have m5 := Int.emod_nonneg y (show (5 : Int) ≠ 0 by decide)
    have hsl := hst.1
    go_upto_region 17 with fail
    have kL : Below w5.heap.size w5 (w5.alloc (.cells #[.int .i64 (y % 5), .int .i64 (y % 7), .int .i64 (y % 11)] 121)) := (Below.refl _ _).alloc (Nat.le_refl _) _
    have hLn := heap_alloc_new w5 (.cells #[.int .i64 (y % 5), .int .i64 (y % 7), .int .i64 (y % 11)] 121)
    have hSL := hS.below kL
    have hb2 := hS.b2
    have hPl := hS.box.lt
    go_upto_region 22 with (at_builtin; refine wp_app1g (F := spanF) (xs := x.spans) (P := Try.prog) (y := (⟨y % 5, y % 7, y % 11⟩ : Span)) rfl (.tmp 67) (.tmp 75) 26 rfl Try.underlying26 hi2 hx0 hx1 hx2 rfl (by decide) rfl hSL.own.s w5.heap.size rfl hLn rfl (by omega) (by omega) (by simp; omega) ?_; intro v9 w9 hO9 hb9 hg9; obtain ⟨a9, c9, rfl, -, -, -⟩ := hO9.form; obtain ⟨hbx9, hS9⟩ := hSL.apps hO9 hb9 hg9 ⟨hSL.ok.r, hSL.ok.v, hSL.ok.c, (by show (x.spans ++ [_]).length ≤ 41; rw [List.length_append]; show x.spans.length + 1 ≤ 41; omega), hSL.ok.t, hSL.ok.z⟩; clear hO9 hb9 hg9; obtain ⟨b0, b1, b2, b3, b4⟩ := hbx9.five; have fz := frozen_heap (j := 3) hbx9)
    have hlen : x.spans.length + 1 = (x.spans ++ [(⟨y % 5, y % 7, y % 11⟩ : Span)]).length := by simp
    clear b0 b1 b2 b3 b4 fz p0 p1 p2 p3 p4 hS hSL kL hLn hOP hbx9
    have hS := hS9
    clear hS9
    rw [hlen]
    clear hlen
    generalize x.spans ++ [(⟨y % 5, y % 7, y % 11⟩ : Span)] = ss at *
    generalize w9.setCell ⟨P, 3, none⟩ (.slice a9 ss.length c9) = w6 at *
    obtain ⟨p0, p1, p2, p3, p4⟩ := hS.box.five
    have z0 := cell_heap (j := 0) hS.res rfl
    have z1 := cell_heap (j := 1) hS.res rfl
    have z2 := cell_heap (j := 2) hS.res rfl
    have z3 := cell_heap (j := 3) hS.res rfl
    have z4 := cell_heap (j := 4) hS.res rfl
    have f0 := frozen_heap (j := 0) hS.res
    have f1 := frozen_heap (j := 1) hS.res
    have f2 := frozen_heap (j := 2) hS.res
    have f3 := frozen_heap (j := 3) hS.res
    have f4 := frozen_heap (j := 4) hS.res
    go_wp2
    change bodyPost _ _ _ _ _ (storeAll w.heap.size [.int .i64 x.indent, .slice rb x.rules.length rd, .slice cb x.chunks.length cd, .slice a9 ss.length c9, .slice tb x.ties.length td] 0 w6)
    clear p0 p1 p2 p3 p4 z0 z1 z2 z3 z4 f0 f1 f2 f3 f4
    generalize hwf : storeAll w.heap.size [.int .i64 x.indent, .slice rb x.rules.length rd, .slice cb x.chunks.length cd, .slice a9 ss.length c9, .slice tb x.ties.length td] 0 w6 = wf
    obtain ⟨⟨q0, q1, q2, q3, q4⟩, HA, HF, HB, HC⟩ := hS.done hwf
    clear hwf hS
    refine bodyPost_ret (v := .agg #[.int .i64 x.indent, .slice rb x.rules.length rd, .slice cb x.chunks.length cd, .slice a9 ss.length c9, .slice tb x.ties.length td]) (by simp [results, Try.results64, go_sem, q0, q1, q2, q3, q4]) rfl ?_
    exact ⟨{ x with spans := ss }, rb, rd, cb, cd, a9, c9, tb, td, rfl, HA, HF, HB, HC⟩
  · have m5 := Int.emod_nonneg y (show (5 : Int) ≠ 0 by decide)
    have hsl := hst.2
    go_upto_region 19 with fail
    have kL : Below w5.heap.size w5 (w5.alloc (.cells #[.int .i64 (y % 6), .int .i64 (y % 5)] 101)) := (Below.refl _ _).alloc (Nat.le_refl _) _
    have hLn := heap_alloc_new w5 (.cells #[.int .i64 (y % 6), .int .i64 (y % 5)] 101)
    have hSL := hS.below kL
    have hb2 := hS.b2
    have hPl := hS.box.lt
    go_upto_region 22 with (at_builtin; refine wp_app1g (F := tieF) (xs := x.ties) (P := Try.prog) (y := (⟨y % 6, y % 5⟩ : Tie)) rfl (.tmp 81) (.tmp 87) 27 rfl Try.underlying27 hi3 hu0 hu1 hu2 rfl (by decide) rfl hSL.own.t w5.heap.size rfl hLn rfl (by omega) (by omega) (by simp; omega) ?_; intro v9 w9 hO9 hb9 hg9; obtain ⟨a9, c9, rfl, -, -, -⟩ := hO9.form; obtain ⟨hbx9, hS9⟩ := hSL.appt hO9 hb9 hg9 ⟨hSL.ok.r, hSL.ok.v, hSL.ok.c, hSL.ok.s, (by show (x.ties ++ [_]).length ≤ 21; rw [List.length_append]; show x.ties.length + 1 ≤ 21; omega), hSL.ok.z⟩; clear hO9 hb9 hg9; obtain ⟨b0, b1, b2, b3, b4⟩ := hbx9.five; have fz := frozen_heap (j := 4) hbx9)
    have hlen : x.ties.length + 1 = (x.ties ++ [(⟨y % 6, y % 5⟩ : Tie)]).length := by simp
    clear b0 b1 b2 b3 b4 fz p0 p1 p2 p3 p4 hS hSL kL hLn hOP hbx9
    have hS := hS9
    clear hS9
    rw [hlen]
    clear hlen
    generalize x.ties ++ [(⟨y % 6, y % 5⟩ : Tie)] = ts at *
    generalize w9.setCell ⟨P, 4, none⟩ (.slice a9 ts.length c9) = w6 at *
    obtain ⟨p0, p1, p2, p3, p4⟩ := hS.box.five
    have z0 := cell_heap (j := 0) hS.res rfl
    have z1 := cell_heap (j := 1) hS.res rfl
    have z2 := cell_heap (j := 2) hS.res rfl
    have z3 := cell_heap (j := 3) hS.res rfl
    have z4 := cell_heap (j := 4) hS.res rfl
    have f0 := frozen_heap (j := 0) hS.res
    have f1 := frozen_heap (j := 1) hS.res
    have f2 := frozen_heap (j := 2) hS.res
    have f3 := frozen_heap (j := 3) hS.res
    have f4 := frozen_heap (j := 4) hS.res
    go_wp2
    change bodyPost _ _ _ _ _ (storeAll w.heap.size [.int .i64 x.indent, .slice rb x.rules.length rd, .slice cb x.chunks.length cd, .slice sb x.spans.length sd, .slice a9 ts.length c9] 0 w6)
    clear p0 p1 p2 p3 p4 z0 z1 z2 z3 z4 f0 f1 f2 f3 f4
    generalize hwf : storeAll w.heap.size [.int .i64 x.indent, .slice rb x.rules.length rd, .slice cb x.chunks.length cd, .slice sb x.spans.length sd, .slice a9 ts.length c9] 0 w6 = wf
    obtain ⟨⟨q0, q1, q2, q3, q4⟩, HA, HF, HB, HC⟩ := hS.done hwf
    clear hwf hS
    refine bodyPost_ret (v := .agg #[.int .i64 x.indent, .slice rb x.rules.length rd, .slice cb x.chunks.length cd, .slice sb x.spans.length sd, .slice a9 ts.length c9]) (by simp [results, Try.results64, go_sem, q0, q1, q2, q3, q4]) rfl ?_
    exact ⟨{ x with ties := ts }, rb, rd, cb, cd, sb, sd, a9, c9, rfl, HA, HF, HB, HC⟩
  · have e1 := Int.emod_nonneg y (show (2 : Int) ≠ 0 by decide)
    have e2 := Int.emod_lt_of_pos y (show (0 : Int) < 2 by decide)
    rcases (by omega : y % 2 = 0 ∨ y % 2 = 1) with hy | hy
    · go_upto_region 21 with fail
      go_wp2_with (at_make; refine wpList_make_full _ rfl _ _ 24 rfl w5.heap.size 92 i0 _ 2 Try.underlying24 hi0 hz0 hz1 _ _ _ _ 8 rfl rfl (by simp [hy]) (by simp [hy]) ?b1 ?b2 ?b3 ?_)
      case b1 => rw [hz2]; omega
      case b2 => unfold maxLen; omega
      case b3 => exact Nat.le_refl _
      intro w6 hown hgr
      have hb6 : Below w5.heap.size w5 w6 := (Below.refl _ _).grown hgr (Nat.le_refl _) (fun k hk => by cases hk)
      have hV6 : Own ruleF 92 w5.heap.size w6.heap.size w6 (.slice (some ⟨w5.heap.size, 0, none⟩) 8 8) (List.replicate 8 Rule.zero) := Own.of_row hown (by simp) (made_cells ruleF (by decide) Rule.zero _ rfl 8) (Nat.le_refl _)
      have hS6 := hS.below hb6
      have hs6 := hb6.size
      have hPl := hS.box.lt
      have hb2 := hS.b2
      have hR6 := hV6.wide (lo' := w.heap.size + 1) (by omega) (Nat.le_refl _)
      clear hown hgr hV6 p0 p1 p2 p3 p4
      have hS2 := hS6.setbox (x' := { x with rules := List.replicate 8 Rule.zero }) (rb := some ⟨w5.heap.size, 0, none⟩) (rd := 8) (j := 1) (u := .slice (some ⟨w5.heap.size, 0, none⟩) 8 8) ⟨hR6, hS6.own.c, hS6.own.s, hS6.own.t⟩ ⟨by show (List.replicate 8 _).length ≤ 9; decide, (by intro r hr; rw [List.eq_of_mem_replicate hr]; decide), hS6.ok.c, hS6.ok.s, hS6.ok.t, hS6.ok.z⟩ rfl
      obtain ⟨b0, b1, b2, b3, b4⟩ := hS6.box.five
      have fz := frozen_heap (j := 1) hS6.box
      clear hS hR6 hb6 hs6 hPl hb2 hOP
      generalize w5.heap.size = G at *
      go_upto_region 22 with fail
      clear hS6 b0 b1 b2 b3 b4 fz
      have hS := hS2
      clear hS2
      obtain ⟨rs, hrs⟩ : ∃ rs, rs = List.replicate 8 Rule.zero := ⟨_, rfl⟩
      rw [← hrs] at hS
      generalize w6.setCell ⟨P, 1, none⟩ (.slice (some ⟨G, 0, none⟩) 8 8) = w7 at *
      clear hrs
      obtain ⟨p0, p1, p2, p3, p4⟩ := hS.box.five
      have z0 := cell_heap (j := 0) hS.res rfl
      have z1 := cell_heap (j := 1) hS.res rfl
      have z2 := cell_heap (j := 2) hS.res rfl
      have z3 := cell_heap (j := 3) hS.res rfl
      have z4 := cell_heap (j := 4) hS.res rfl
      have f0 := frozen_heap (j := 0) hS.res
      have f1 := frozen_heap (j := 1) hS.res
      have f2 := frozen_heap (j := 2) hS.res
      have f3 := frozen_heap (j := 3) hS.res
      have f4 := frozen_heap (j := 4) hS.res
      go_wp2
      change bodyPost _ _ _ _ _ (storeAll w.heap.size [.int .i64 x.indent, .slice (some ⟨G, 0, none⟩) rs.length 8, .slice cb x.chunks.length cd, .slice sb x.spans.length sd, .slice tb x.ties.length td] 0 w7)
      clear p0 p1 p2 p3 p4 z0 z1 z2 z3 z4 f0 f1 f2 f3 f4
      generalize hwf : storeAll w.heap.size [.int .i64 x.indent, .slice (some ⟨G, 0, none⟩) rs.length 8, .slice cb x.chunks.length cd, .slice sb x.spans.length sd, .slice tb x.ties.length td] 0 w7 = wf
      obtain ⟨⟨q0, q1, q2, q3, q4⟩, HA, HF, HB, HC⟩ := hS.done hwf
      clear hwf hS
      refine bodyPost_ret (v := .agg #[.int .i64 x.indent, .slice (some ⟨G, 0, none⟩) rs.length 8, .slice cb x.chunks.length cd, .slice sb x.spans.length sd, .slice tb x.ties.length td]) (by simp [results, Try.results64, go_sem, q0, q1, q2, q3, q4]) rfl ?_
      exact ⟨{ x with rules := rs }, _, _, cb, cd, sb, sd, tb, td, rfl, HA, HF, HB, HC⟩
    · go_upto_region 21 with fail
      go_wp2_with (at_make; refine wpList_make_full _ rfl _ _ 24 rfl w5.heap.size 92 i0 _ 2 Try.underlying24 hi0 hz0 hz1 _ _ _ _ 9 rfl rfl (by simp [hy]) (by simp [hy]) ?b1 ?b2 ?b3 ?_)
      case b1 => rw [hz2]; omega
      case b2 => unfold maxLen; omega
      case b3 => exact Nat.le_refl _
      intro w6 hown hgr
      have hb6 : Below w5.heap.size w5 w6 := (Below.refl _ _).grown hgr (Nat.le_refl _) (fun k hk => by cases hk)
      have hV6 : Own ruleF 92 w5.heap.size w6.heap.size w6 (.slice (some ⟨w5.heap.size, 0, none⟩) 9 9) (List.replicate 9 Rule.zero) := Own.of_row hown (by simp) (made_cells ruleF (by decide) Rule.zero _ rfl 9) (Nat.le_refl _)
      have hS6 := hS.below hb6
      have hs6 := hb6.size
      have hPl := hS.box.lt
      have hb2 := hS.b2
      have hR6 := hV6.wide (lo' := w.heap.size + 1) (by omega) (Nat.le_refl _)
      clear hown hgr hV6 p0 p1 p2 p3 p4
      have hS2 := hS6.setbox (x' := { x with rules := List.replicate 9 Rule.zero }) (rb := some ⟨w5.heap.size, 0, none⟩) (rd := 9) (j := 1) (u := .slice (some ⟨w5.heap.size, 0, none⟩) 9 9) ⟨hR6, hS6.own.c, hS6.own.s, hS6.own.t⟩ ⟨by show (List.replicate 9 _).length ≤ 9; decide, (by intro r hr; rw [List.eq_of_mem_replicate hr]; decide), hS6.ok.c, hS6.ok.s, hS6.ok.t, hS6.ok.z⟩ rfl
      obtain ⟨b0, b1, b2, b3, b4⟩ := hS6.box.five
      have fz := frozen_heap (j := 1) hS6.box
      clear hS hR6 hb6 hs6 hPl hb2 hOP
      generalize w5.heap.size = G at *
      go_upto_region 22 with fail
      clear hS6 b0 b1 b2 b3 b4 fz
      have hS := hS2
      clear hS2
      obtain ⟨rs, hrs⟩ : ∃ rs, rs = List.replicate 9 Rule.zero := ⟨_, rfl⟩
      rw [← hrs] at hS
      generalize w6.setCell ⟨P, 1, none⟩ (.slice (some ⟨G, 0, none⟩) 9 9) = w7 at *
      clear hrs
      obtain ⟨p0, p1, p2, p3, p4⟩ := hS.box.five
      have z0 := cell_heap (j := 0) hS.res rfl
      have z1 := cell_heap (j := 1) hS.res rfl
      have z2 := cell_heap (j := 2) hS.res rfl
      have z3 := cell_heap (j := 3) hS.res rfl
      have z4 := cell_heap (j := 4) hS.res rfl
      have f0 := frozen_heap (j := 0) hS.res
      have f1 := frozen_heap (j := 1) hS.res
      have f2 := frozen_heap (j := 2) hS.res
      have f3 := frozen_heap (j := 3) hS.res
      have f4 := frozen_heap (j := 4) hS.res
      go_wp2
      change bodyPost _ _ _ _ _ (storeAll w.heap.size [.int .i64 x.indent, .slice (some ⟨G, 0, none⟩) rs.length 9, .slice cb x.chunks.length cd, .slice sb x.spans.length sd, .slice tb x.ties.length td] 0 w7)
      clear p0 p1 p2 p3 p4 z0 z1 z2 z3 z4 f0 f1 f2 f3 f4
      generalize hwf : storeAll w.heap.size [.int .i64 x.indent, .slice (some ⟨G, 0, none⟩) rs.length 9, .slice cb x.chunks.length cd, .slice sb x.spans.length sd, .slice tb x.ties.length td] 0 w7 = wf
      obtain ⟨⟨q0, q1, q2, q3, q4⟩, HA, HF, HB, HC⟩ := hS.done hwf
      clear hwf hS
      refine bodyPost_ret (v := .agg #[.int .i64 x.indent, .slice (some ⟨G, 0, none⟩) rs.length 9, .slice cb x.chunks.length cd, .slice sb x.spans.length sd, .slice tb x.ties.length td]) (by simp [results, Try.results64, go_sem, q0, q1, q2, q3, q4]) rfl ?_
      exact ⟨{ x with rules := rs }, _, _, cb, cd, sb, sd, tb, td, rfl, HA, HF, HB, HC⟩
  · have n0 : ¬ k = 0 := by omega
    have n1 : ¬ k = 1 := by omega
    have n2 : ¬ k = 2 := by omega
    have n3 : ¬ k = 3 := by omega
    have n4 : ¬ k = 4 := by omega
    have n5 : ¬ k = 5 := by omega
    have n6 : ¬ k = 6 := by omega
    have n7 : ¬ k = 7 := by omega
    go_upto_region 22 with fail
    clear n0 n1 n2 n3 n4 n5 n6 n7
    obtain ⟨p0, p1, p2, p3, p4⟩ := hS.box.five
    have z0 := cell_heap (j := 0) hS.res rfl
    have z1 := cell_heap (j := 1) hS.res rfl
    have z2 := cell_heap (j := 2) hS.res rfl
    have z3 := cell_heap (j := 3) hS.res rfl
    have z4 := cell_heap (j := 4) hS.res rfl
    have f0 := frozen_heap (j := 0) hS.res
    have f1 := frozen_heap (j := 1) hS.res
    have f2 := frozen_heap (j := 2) hS.res
    have f3 := frozen_heap (j := 3) hS.res
    have f4 := frozen_heap (j := 4) hS.res
    go_wp2
    change bodyPost _ _ _ _ _ (storeAll w.heap.size [.int .i64 x.indent, .slice rb x.rules.length rd, .slice cb x.chunks.length cd, .slice sb x.spans.length sd, .slice tb x.ties.length td] 0 w5)
    clear p0 p1 p2 p3 p4 z0 z1 z2 z3 z4 f0 f1 f2 f3 f4
    generalize hwf : storeAll w.heap.size [.int .i64 x.indent, .slice rb x.rules.length rd, .slice cb x.chunks.length cd, .slice sb x.spans.length sd, .slice tb x.ties.length td] 0 w5 = wf
    obtain ⟨⟨q0, q1, q2, q3, q4⟩, HA, HF, HB, HC⟩ := hS.done hwf
    clear hwf hS
    refine bodyPost_ret (v := .agg #[.int .i64 x.indent, .slice rb x.rules.length rd, .slice cb x.chunks.length cd, .slice sb x.spans.length sd, .slice tb x.ties.length td]) (by simp [results, Try.results64, go_sem, q0, q1, q2, q3, q4]) rfl ?_
    exact ⟨x, rb, rd, cb, cd, sb, sd, tb, td, rfl, HA, HF, HB, HC⟩
end Go.Proofs.Ytllpgomloblfjaa
