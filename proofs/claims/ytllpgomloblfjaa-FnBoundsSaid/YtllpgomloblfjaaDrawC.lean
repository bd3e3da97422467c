/- spec.l08Copy: a piece copied. -/
import Derived.Test.YtllpgomloblfjaaDrawL
namespace Go.Proofs.Ytllpgomloblfjaa
open Go.RowKit

/-- a drawn region of finitely many states: each is walked with those behind it -/
theorem any_states {G : Nat → Array Bool → Act → World → Prop} {σ : Type} (rank : σ → Nat) (L : σ → Array Bool) (I : σ → Act → World → Prop)
    (h : ∀ s a w, I s a w → (∀ s' a' w', rank s' < rank s → I s' a' w' → G (rank s') (L s') a' w') → G (rank s) (L s) a w) : ∀ (n : Nat) (s : σ), rank s = n → ∀ a w, I s a w → G (rank s) (L s) a w := by
  intro n
  induction n using Nat.strongRecOn with
  | ind n ih => intro s hs a w hI; exact h s a w hI (fun s' a' w' hr hI' => ih (rank s') (by omega) s' rfl a' w' hI')
theorem stored5 {g : Nat} {u0 u1 u2 u3 u4 : Value} {T : TypeId} {w : World} (h : w.heap[g]? = some (.cells #[u0, u1, u2, u3, u4] T)) : ∀ (vs : List Value), vs.length = 5 → ((storeAll g vs 0 w).cell? ⟨g, 0, none⟩ = vs[0]? ∧ (storeAll g vs 0 w).cell? ⟨g, 1, none⟩ = vs[1]? ∧ (storeAll g vs 0 w).cell? ⟨g, 2, none⟩ = vs[2]? ∧ (storeAll g vs 0 w).cell? ⟨g, 3, none⟩ = vs[3]? ∧ (storeAll g vs 0 w).cell? ⟨g, 4, none⟩ = vs[4]?) := by
  intro vs hv
  have z0 := cell_heap (j := 0) h rfl
  have z1 := cell_heap (j := 1) h rfl
  have z2 := cell_heap (j := 2) h rfl
  have z3 := cell_heap (j := 3) h rfl
  have z4 := cell_heap (j := 4) h rfl
  have h6 := storeAll_at (g := g) vs 0 w (fun j hj => by
    rw [Nat.zero_add]
    have : j = 0 ∨ j = 1 ∨ j = 2 ∨ j = 3 ∨ j = 4 := by omega
    rcases this with rfl | rfl | rfl | rfl | rfl
    · exact ⟨_, z0⟩
    · exact ⟨_, z1⟩
    · exact ⟨_, z2⟩
    · exact ⟨_, z3⟩
    · exact ⟨_, z4⟩)
  have k : ∀ j, j < 5 → (storeAll g vs 0 w).cell? ⟨g, j, none⟩ = vs[j]? := fun j hj => by
    have h7 := h6 j (vs[j]'(by omega)) (List.getElem?_eq_getElem (by omega))
    rw [Nat.zero_add] at h7
    rw [h7, List.getElem?_eq_getElem]
  exact ⟨k 0 (by omega), k 1 (by omega), k 2 (by omega), k 3 (by omega), k 4 (by omega)⟩
theorem AllReadyN.app {P : Program} {md : Region.Mode} {ops : Array Oper} {Q : Exit → Act → World → Prop} {S : World → Prop} {N fuel : Nat} {listed : Array Bool} {a : Act} {w : World} {i : Nat} {rs : List Nat} (h : AllReadyN P md ops Q S N fuel listed a w [i]) (hs : AllReadyN P md ops Q S N fuel listed a w rs) : AllReadyN P md ops Q S N fuel listed a w (i :: rs) := fun j hj => by
  rcases List.mem_cons.1 hj with rfl | hj
  · exact h j (by simp)
  · exact hs j hj
inductive C8 where
  | c0000
  | c0001
  | c0010
  | c0011
  | c0100
  | c0101
  | c0110
  | c0111
  | c1000
  | c1001
  | c1010
  | c1011
  | c1100
  | c1101
  | c1110
  | c1111
  | c2000
  | c2001
  | c2010
  | c2011
  | c2100
  | c2101
  | c2110
  | c2111
  | c2200
  | c2201
  | c2210
  | c2211
  | c2220
  | c2221
  | c2222
def C8.listed : C8 → Array Bool
  | .c0000 => #[true, true, false, true, true, false, false, true, true, false, false, true, true, false, false, true, true, false, false, false]
  | .c0001 => #[true, true, false, true, true, false, false, true, true, false, false, true, true, false, true, true, true, false, false, false]
  | .c0010 => #[true, true, false, true, true, false, false, true, true, false, true, true, true, false, false, true, true, false, false, false]
  | .c0011 => #[true, true, false, true, true, false, false, true, true, false, true, true, true, false, true, true, true, false, false, false]
  | .c0100 => #[true, true, false, true, true, false, true, true, true, false, false, true, true, false, false, true, true, false, false, false]
  | .c0101 => #[true, true, false, true, true, false, true, true, true, false, false, true, true, false, true, true, true, false, false, false]
  | .c0110 => #[true, true, false, true, true, false, true, true, true, false, true, true, true, false, false, true, true, false, false, false]
  | .c0111 => #[true, true, false, true, true, false, true, true, true, false, true, true, true, false, true, true, true, false, false, false]
  | .c1000 => #[true, true, true, true, true, false, false, true, true, false, false, true, true, false, false, true, true, false, false, false]
  | .c1001 => #[true, true, true, true, true, false, false, true, true, false, false, true, true, false, true, true, true, false, false, false]
  | .c1010 => #[true, true, true, true, true, false, false, true, true, false, true, true, true, false, false, true, true, false, false, false]
  | .c1011 => #[true, true, true, true, true, false, false, true, true, false, true, true, true, false, true, true, true, false, false, false]
  | .c1100 => #[true, true, true, true, true, false, true, true, true, false, false, true, true, false, false, true, true, false, false, false]
  | .c1101 => #[true, true, true, true, true, false, true, true, true, false, false, true, true, false, true, true, true, false, false, false]
  | .c1110 => #[true, true, true, true, true, false, true, true, true, false, true, true, true, false, false, true, true, false, false, false]
  | .c1111 => #[true, true, true, true, true, false, true, true, true, false, true, true, true, false, true, true, true, false, false, false]
  | .c2000 => #[true, true, true, true, true, true, false, true, true, false, false, true, true, false, false, true, true, false, false, false]
  | .c2001 => #[true, true, true, true, true, true, false, true, true, false, false, true, true, false, true, true, true, false, false, false]
  | .c2010 => #[true, true, true, true, true, true, false, true, true, false, true, true, true, false, false, true, true, false, false, false]
  | .c2011 => #[true, true, true, true, true, true, false, true, true, false, true, true, true, false, true, true, true, false, false, false]
  | .c2100 => #[true, true, true, true, true, true, true, true, true, false, false, true, true, false, false, true, true, false, false, false]
  | .c2101 => #[true, true, true, true, true, true, true, true, true, false, false, true, true, false, true, true, true, false, false, false]
  | .c2110 => #[true, true, true, true, true, true, true, true, true, false, true, true, true, false, false, true, true, false, false, false]
  | .c2111 => #[true, true, true, true, true, true, true, true, true, false, true, true, true, false, true, true, true, false, false, false]
  | .c2200 => #[true, true, true, true, true, true, true, true, true, true, false, true, true, false, false, true, true, false, false, false]
  | .c2201 => #[true, true, true, true, true, true, true, true, true, true, false, true, true, false, true, true, true, false, false, false]
  | .c2210 => #[true, true, true, true, true, true, true, true, true, true, true, true, true, false, false, true, true, false, false, false]
  | .c2211 => #[true, true, true, true, true, true, true, true, true, true, true, true, true, false, true, true, true, false, false, false]
  | .c2220 => #[true, true, true, true, true, true, true, true, true, true, true, true, true, true, false, true, true, false, false, false]
  | .c2221 => #[true, true, true, true, true, true, true, true, true, true, true, true, true, true, true, true, true, false, false, false]
  | .c2222 => #[true, true, true, true, true, true, true, true, true, true, true, true, true, true, true, true, true, true, false, false]
def C8.rank : C8 → Nat
  | .c0000 => 10
  | .c0001 => 9
  | .c0010 => 9
  | .c0011 => 8
  | .c0100 => 9
  | .c0101 => 8
  | .c0110 => 8
  | .c0111 => 7
  | .c1000 => 9
  | .c1001 => 8
  | .c1010 => 8
  | .c1011 => 7
  | .c1100 => 8
  | .c1101 => 7
  | .c1110 => 7
  | .c1111 => 6
  | .c2000 => 8
  | .c2001 => 7
  | .c2010 => 7
  | .c2011 => 6
  | .c2100 => 7
  | .c2101 => 6
  | .c2110 => 6
  | .c2111 => 5
  | .c2200 => 6
  | .c2201 => 5
  | .c2210 => 5
  | .c2211 => 4
  | .c2220 => 4
  | .c2221 => 3
  | .c2222 => 2
def C8.st : C8 → Nat × Nat × Nat × Nat
  | .c0000 => (0, 0, 0, 0)
  | .c0001 => (0, 0, 0, 1)
  | .c0010 => (0, 0, 1, 0)
  | .c0011 => (0, 0, 1, 1)
  | .c0100 => (0, 1, 0, 0)
  | .c0101 => (0, 1, 0, 1)
  | .c0110 => (0, 1, 1, 0)
  | .c0111 => (0, 1, 1, 1)
  | .c1000 => (1, 0, 0, 0)
  | .c1001 => (1, 0, 0, 1)
  | .c1010 => (1, 0, 1, 0)
  | .c1011 => (1, 0, 1, 1)
  | .c1100 => (1, 1, 0, 0)
  | .c1101 => (1, 1, 0, 1)
  | .c1110 => (1, 1, 1, 0)
  | .c1111 => (1, 1, 1, 1)
  | .c2000 => (2, 0, 0, 0)
  | .c2001 => (2, 0, 0, 1)
  | .c2010 => (2, 0, 1, 0)
  | .c2011 => (2, 0, 1, 1)
  | .c2100 => (2, 1, 0, 0)
  | .c2101 => (2, 1, 0, 1)
  | .c2110 => (2, 1, 1, 0)
  | .c2111 => (2, 1, 1, 1)
  | .c2200 => (2, 2, 0, 0)
  | .c2201 => (2, 2, 0, 1)
  | .c2210 => (2, 2, 1, 0)
  | .c2211 => (2, 2, 1, 1)
  | .c2220 => (2, 2, 2, 0)
  | .c2221 => (2, 2, 2, 1)
  | .c2222 => (2, 2, 2, 2)
/-- how far a row is: not begun, an empty slice, the copy -/
def RowSt {α : Type} (F : Flat α) (T B : Nat) (w : World) (t s : Value) (xs : List α) : Nat → Prop
  | 0 => True
  | 1 => Own F T B w.heap.size w t []
  | _ => ∃ a c, s = .slice a xs.length c ∧ Own F T B w.heap.size w (.slice a xs.length c) xs
def C8.fr (x : Piece) (ra : Option Addr) (rc : Nat) (ca : Option Addr) (cc : Nat) (sa : Option Addr) (sc : Nat) (ta : Option Addr) (tc : Nat) (A W : Nat) (t1 s1 t2 s2 t3 s3 t4 s4 : Value) : Act :=
  { tmps := #[.agg #[.int .i64 x.indent, .slice ra x.rules.length rc, .slice ca x.chunks.length cc, .slice sa x.spans.length sc, .slice ta x.ties.length tc], .pointer (some ⟨A, 0, none⟩), .pointer (some ⟨W, 0, none⟩), .pointer (some ⟨A, 0, none⟩), .int .i64 x.indent, t1, .pointer (some ⟨A, 1, none⟩), .slice ra x.rules.length rc, s1, t2, .pointer (some ⟨A, 2, none⟩), .slice ca x.chunks.length cc, s2, t3, .pointer (some ⟨A, 3, none⟩), .slice sa x.spans.length sc, s3, t4, .pointer (some ⟨A, 4, none⟩), .slice ta x.ties.length tc, s4, undef], defers := [] }
/-- the state of the copy: B: the rows are from block B on -/
structure C8.In (x : Piece) (ra : Option Addr) (rc : Nat) (ca : Option Addr) (cc : Nat) (sa : Option Addr) (sc : Nat) (ta : Option Addr) (tc : Nat) (A W B : Nat) (w0 : World) (n : Nat × Nat × Nat × Nat) (t1 s1 t2 s2 t3 s3 t4 s4 : Value) (w : World) : Prop where
  bel : Below B w0 w
  le : B ≤ w.heap.size
  r : RowSt ruleF 92 B w t1 s1 x.rules n.1
  c : RowSt chunkF 56 B w t2 s2 x.chunks n.2.1
  s : RowSt spanF 121 B w t3 s3 x.spans n.2.2.1
  t : RowSt tieF 101 B w t4 s4 x.ties n.2.2.2
theorem RowSt.alloc {α : Type} {F : Flat α} {T B : Nat} {w : World} {t s : Value} {xs : List α} (o : Obj) : ∀ {n : Nat}, RowSt F T B w t s xs n → RowSt F T B (w.alloc o) t s xs n
  | 0, _ => trivial
  | 1, h => (Own.alloc h o).wide (Nat.le_refl _) (by simp)
  | _ + 2, ⟨a, c, e, h⟩ => ⟨a, c, e, (h.alloc o).wide (Nat.le_refl _) (by simp)⟩
theorem RowSt.kept {α β : Type} {F : Flat α} {G : Flat β} {T T' B : Nat} {w w' : World} {t s u : Value} {xs : List α} {ys : List β} (k : Own G T' B w.heap.size w u ys) (hT : T ≠ T') (hg : w.grownBy w' u.ownBlock) : ∀ {n : Nat}, RowSt F T B w t s xs n → RowSt F T B w' t s xs n
  | 0, _ => trivial
  | 1, h => (own_kept h k hT hg (Nat.le_refl _)).wide (Nat.le_refl _) hg.size
  | _ + 2, ⟨a, c, e, h⟩ => ⟨a, c, e, (own_kept h k hT hg (Nat.le_refl _)).wide (Nat.le_refl _) hg.size⟩
section
variable {α : Type} {P : Program} {F : Flat α} {T : TypeId} {B : Nat} {hi : Nat} {w : World} {ops : Array Oper} {rest : List Oper} {o : Oper} {a : Act} {Q : Exit → Act → World → Prop} {v : Value} {xs : List α}
/-- 'out = append(out, ys...)', and nothing but out's own block turns -/
theorem wp_appAllgC (hgd : o.guard = none) (s x : Operand) (t : TypeId) (ho : o.op = .call { callee := .builtin .append, args := #[s, x], argTypes := #[t, t] })
    {i : TypeInfo} {z : Value} {bytes : Nat} (ht : P.underlying t = some (.slice T)) (hi0 : P.info? T = some i) (hz : i.zero = some z) (hsize : i.size = F.size) (hby : i.bytes = bytes) (hzs : z.cells.size = F.size) (hsz : 0 < F.size)
    (hs : a.eval s = v) (hO : Own F T B hi w v xs) {u : Value} {ys : List α} {lo' hi' : Nat} (hx : a.eval x = u) (hr : Rd F.shape lo' hi' w u ys)
    (hbytes : (xs.length + ys.length) * bytes ≤ 140737488355328) (h63 : xs.length + ys.length ≤ 1000000000000) (hbase : B ≤ w.heap.size)
    (h : ∀ v' w', Own F T B w'.heap.size w' v' (xs ++ ys) → Below B w w' → w.grownBy w' v.ownBlock → wpList P ops Q rest (a.put o.dst v') w') : wpList P ops Q (o :: rest) a w := by
  obtain ⟨ao, c, rfl, h2, h3, h4, h5⟩ := hr
  cases ao with
  | none =>
    have hc := h4 rfl
    have hy : ys = [] := List.eq_nil_of_length_eq_zero (by omega)
    subst hy
    subst hc
    refine wpList_append_own_none (w := w) hgd s x t ho B T i F.size ht hi0 v xs.length (F.cells xs) hs hO.1 hx ?_
    have hv := h v w (by rw [List.append_nil]; exact hO.up) (Below.refl _ _) (World.grownBy.refl _ _)
    exact hv
  | some ad =>
    refine wpList_append_own w hgd s x t ho B T i z F.size bytes ht hi0 hz hsize hby hzs hsz v xs.length (F.cells xs) hs hO.1 ad ys.length c (F.cells ys) hx Flat.cells_len ?_ Flat.cells_oneCell ?_ hbytes hbase ?_
    · intro j q hq
      have hj : j < ys.length * F.size := by
        have := (List.getElem?_eq_some_iff.1 hq).1
        rwa [Flat.cells_len] at this
      have hk : j / F.size < ys.length := Nat.div_lt_of_lt_mul (by rw [Nat.mul_comm]; exact hj)
      have hm : j % F.size < F.size := Nat.mod_lt _ hsz
      have e : j = j / F.size * F.size + j % F.size := by rw [Nat.mul_comm]; exact (Nat.div_add_mod j F.size).symm
      obtain ⟨b, off, cs, e1, _, _, rfl, e5⟩ := h5 _ hk
      obtain rfl := Option.some.inj e1
      have h6 := e5 (j % F.size) q (by
        rw [e, Flat.cells_at hk hm] at hq
        exact hq)
      rw [Addr.add_lit]
      have e2 : off + j / F.size * F.shape.size + j % F.size = off + j := by
        show off + j / F.size * F.size + j % F.size = off + j
        omega
      rwa [e2] at h6
    · unfold maxLen; omega
    · intro v' w' h1 h2 _
      exact h v' w' (Own.of_row h1 (by simp) Flat.cells_append.symm (Nat.le_refl _)) (grown_below h2 (fun g hg => (hO.1.lt g hg).1) hbase) h2
end
set_option maxHeartbeats 8000000 in
set_option maxRecDepth 100000 in
theorem l08Copy_any (x : Piece) (ra ca sa ta : Option Addr) (rc cc sc tc lo hi : Nat) (w : World) (hp : PFour x ra rc ca cc sa sc ta tc lo hi w) (hh : hi ≤ w.heap.size) (l1 : x.rules.length ≤ 1048576) (l2 : x.chunks.length ≤ 1048576) (l3 : x.spans.length ≤ 1048576) (l4 : x.ties.length ≤ 1048576) :
    Calls Try.prog 109 #[x.v ra rc ca cc sa sc ta tc] w fun e w' => ∃ ra' rc' ca' cc' sa' sc' ta' tc', e = .returned (x.v ra' rc' ca' cc' sa' sc' ta' tc') ∧ Below w.heap.size w w' ∧ POwn x ra' rc' ca' cc' sa' sc' ta' tc' w.heap.size w'.heap.size w' := by
  obtain ⟨i0, hi0, hz0, hz1, hz2⟩ := info_parts Try.infoRuleD
  obtain ⟨i1, hi1, hy0, hy1, hy2⟩ := info_parts Try.infoChunkD
  obtain ⟨i2, hi2, hx0, hx1, hx2⟩ := info_parts Try.infoSpanD
  obtain ⟨i3, hi3, hu0, hu1, hu2⟩ := info_parts Try.infoTieD
  unfold Piece.v
  go_enter Try.func109, Try.ntmps109
  go_upto_region 1 with fail
  have hA := heap_alloc_new w (.cells #[.int .i64 x.indent, .slice ra x.rules.length rc, .slice ca x.chunks.length cc, .slice sa x.spans.length sc, .slice ta x.ties.length tc] 29)
  have kA : Below w.heap.size w (w.alloc (.cells #[.int .i64 x.indent, .slice ra x.rules.length rc, .slice ca x.chunks.length cc, .slice sa x.spans.length sc, .slice ta x.ties.length tc] 29)) := (Below.refl _ _).alloc (Nat.le_refl _) _
  have sA : (w.alloc (.cells #[.int .i64 x.indent, .slice ra x.rules.length rc, .slice ca x.chunks.length cc, .slice sa x.spans.length sc, .slice ta x.ties.length tc] 29)).heap.size = w.heap.size + 1 := by simp
  generalize w.alloc (.cells #[.int .i64 x.indent, .slice ra x.rules.length rc, .slice ca x.chunks.length cc, .slice sa x.spans.length sc, .slice ta x.ties.length tc] 29) = wq at *
  have hW := heap_alloc_new wq (.cells #[.int .i64 0, .slice none 0 0, .slice none 0 0, .slice none 0 0, .slice none 0 0] 29)
  have kW : Below wq.heap.size wq (wq.alloc (.cells #[.int .i64 0, .slice none 0 0, .slice none 0 0, .slice none 0 0, .slice none 0 0] 29)) := (Below.refl _ _).alloc (Nat.le_refl _) _
  have sW : (wq.alloc (.cells #[.int .i64 0, .slice none 0 0, .slice none 0 0, .slice none 0 0, .slice none 0 0] 29)).heap.size = wq.heap.size + 1 := by simp
  generalize wq.alloc (.cells #[.int .i64 0, .slice none 0 0, .slice none 0 0, .slice none 0 0, .slice none 0 0] 29) = w1 at *
  rw [sA] at hW
  obtain ⟨A, hAe⟩ : ∃ A, A = w.heap.size := ⟨_, rfl⟩
  have hA1 := blk kW hA
  have hb1 : Below A w w1 := by rw [hAe]; exact kA.trans (kW.mono (by omega))
  have hbx : PBox x ra rc ca cc sa sc ta tc A w1 := by rw [hAe]; exact hA1
  have hp1 := hp.below hb1 (by omega)
  have hhA : hi ≤ A := by omega
  obtain ⟨B, hB⟩ : ∃ B, Hid (B = A + 2) := ⟨_, rfl⟩
  have hB1 : B = w1.heap.size := by have := hB.out; omega
  rw [← hAe] at hW ⊢
  clear hA kA kW hA1 sA sW hp hh
  have HAe := Lib.hid hAe
  clear hAe
  refine wp_regionN_drew (S := fun w' => PBox x ra rc ca cc sa sc ta tc A w') 19 (by kernel_rfl) ?_ (fun hHeld => ?_)
  · exact hbx.drew
  refine wpAnyN_take (i := 0) (v := ?v1) (at_op rfl) (by kernel_rfl) (by kernel_rfl) (by kernel_rfl) (by kernel_rfl) (fun _ _ _ h => h) (Or.inl ⟨by rfl, ?y1⟩) (by assumption) ?r1
  case y1 =>
    intro wx hSx
    obtain ⟨p0, p1, p2, p3, p4⟩ := hSx.five
    go_simp
    try with_reducible rfl
  try simp only [Act.put, List.setIfInBounds_toArray, List.set_cons_zero, List.set_cons_succ]
  refine wpAnyN_take (i := 1) (v := ?v2) (at_op rfl) (by kernel_rfl) (by kernel_rfl) (by kernel_rfl) (by kernel_rfl) (fun _ _ _ h => h) (Or.inl ⟨by rfl, ?y2⟩) (by assumption) ?r2
  case y2 =>
    intro wx hSx
    obtain ⟨p0, p1, p2, p3, p4⟩ := hSx.five
    go_simp
    try with_reducible rfl
  try simp only [Act.put, List.setIfInBounds_toArray, List.set_cons_zero, List.set_cons_succ]
  refine wpAnyN_take (i := 3) (v := ?v3) (at_op rfl) (by kernel_rfl) (by kernel_rfl) (by kernel_rfl) (by kernel_rfl) (fun _ _ _ h => h) (Or.inl ⟨by rfl, ?y3⟩) (by assumption) ?r3
  case y3 =>
    intro wx hSx
    obtain ⟨p0, p1, p2, p3, p4⟩ := hSx.five
    go_simp
    try with_reducible rfl
  try simp only [Act.put, List.setIfInBounds_toArray, List.set_cons_zero, List.set_cons_succ]
  refine wpAnyN_take (i := 4) (v := ?v4) (at_op rfl) (by kernel_rfl) (by kernel_rfl) (by kernel_rfl) (by kernel_rfl) (fun _ _ _ h => h) (Or.inl ⟨by rfl, ?y4⟩) (by assumption) ?r4
  case y4 =>
    intro wx hSx
    obtain ⟨p0, p1, p2, p3, p4⟩ := hSx.five
    go_simp
    try with_reducible rfl
  try simp only [Act.put, List.setIfInBounds_toArray, List.set_cons_zero, List.set_cons_succ]
  refine wpAnyN_take (i := 7) (v := ?v5) (at_op rfl) (by kernel_rfl) (by kernel_rfl) (by kernel_rfl) (by kernel_rfl) (fun _ _ _ h => h) (Or.inl ⟨by rfl, ?y5⟩) (by assumption) ?r5
  case y5 =>
    intro wx hSx
    obtain ⟨p0, p1, p2, p3, p4⟩ := hSx.five
    go_simp
    try with_reducible rfl
  try simp only [Act.put, List.setIfInBounds_toArray, List.set_cons_zero, List.set_cons_succ]
  refine wpAnyN_take (i := 8) (v := ?v6) (at_op rfl) (by kernel_rfl) (by kernel_rfl) (by kernel_rfl) (by kernel_rfl) (fun _ _ _ h => h) (Or.inl ⟨by rfl, ?y6⟩) (by assumption) ?r6
  case y6 =>
    intro wx hSx
    obtain ⟨p0, p1, p2, p3, p4⟩ := hSx.five
    go_simp
    try with_reducible rfl
  try simp only [Act.put, List.setIfInBounds_toArray, List.set_cons_zero, List.set_cons_succ]
  refine wpAnyN_take (i := 11) (v := ?v7) (at_op rfl) (by kernel_rfl) (by kernel_rfl) (by kernel_rfl) (by kernel_rfl) (fun _ _ _ h => h) (Or.inl ⟨by rfl, ?y7⟩) (by assumption) ?r7
  case y7 =>
    intro wx hSx
    obtain ⟨p0, p1, p2, p3, p4⟩ := hSx.five
    go_simp
    try with_reducible rfl
  try simp only [Act.put, List.setIfInBounds_toArray, List.set_cons_zero, List.set_cons_succ]
  refine wpAnyN_take (i := 12) (v := ?v8) (at_op rfl) (by kernel_rfl) (by kernel_rfl) (by kernel_rfl) (by kernel_rfl) (fun _ _ _ h => h) (Or.inl ⟨by rfl, ?y8⟩) (by assumption) ?r8
  case y8 =>
    intro wx hSx
    obtain ⟨p0, p1, p2, p3, p4⟩ := hSx.five
    go_simp
    try with_reducible rfl
  try simp only [Act.put, List.setIfInBounds_toArray, List.set_cons_zero, List.set_cons_succ]
  refine wpAnyN_take (i := 15) (v := ?v9) (at_op rfl) (by kernel_rfl) (by kernel_rfl) (by kernel_rfl) (by kernel_rfl) (fun _ _ _ h => h) (Or.inl ⟨by rfl, ?y9⟩) (by assumption) ?r9
  case y9 =>
    intro wx hSx
    obtain ⟨p0, p1, p2, p3, p4⟩ := hSx.five
    go_simp
    try with_reducible rfl
  try simp only [Act.put, List.setIfInBounds_toArray, List.set_cons_zero, List.set_cons_succ]
  refine wpAnyN_take (i := 16) (v := ?v10) (at_op rfl) (by kernel_rfl) (by kernel_rfl) (by kernel_rfl) (by kernel_rfl) (fun _ _ _ h => h) (Or.inl ⟨by rfl, ?y10⟩) (by assumption) ?r10
  case y10 =>
    intro wx hSx
    obtain ⟨p0, p1, p2, p3, p4⟩ := hSx.five
    go_simp
    try with_reducible rfl
  try simp only [Act.put, List.setIfInBounds_toArray, List.set_cons_zero, List.set_cons_succ]
  have hBx : ∀ w', Below B w1 w' → PBox x ra rc ca cc sa sc ta tc A w' := fun w' hb => (hb.block A (by have := hB.out; omega)).trans hbx
  replace hBx := Lib.hid hBx
  replace hp1 := Lib.hid hp1
  refine any_states (G := wpAnyN _ _ _ _ _ _) C8.rank C8.listed (fun s a wv => ∃ t1 s1 t2 s2 t3 s3 t4 s4, a = C8.fr x ra rc ca cc sa sc ta tc A (A + 1) t1 s1 t2 s2 t3 s3 t4 s4 ∧ C8.In x ra rc ca cc sa sc ta tc A (A + 1) B w1 (C8.st s) t1 s1 t2 s2 t3 s3 t4 s4 wv) ?step 10 .c0000 rfl _ _ ⟨_, _, _, _, _, _, _, _, rfl, ⟨(Below.refl B w1).drew, Nat.le_of_eq hB1, trivial, trivial, trivial, trivial⟩⟩
  case step =>
    intro s a wv hI IH
    obtain ⟨t1, s1, t2, s2, t3, s3, t4, s4, rfl, hI⟩ := hI
    clear hHeld
    cases s
    case c0000 =>
      refine wpAnyN_ready (fuel := 9) (listed := #[true, true, false, true, true, false, false, true, true, false, false, true, true, false, false, true, true, false, false, false]) (rs := [2, 6, 10, 14]) (by kernel_rfl) (by simp) ?_
      unfold C8.fr
      refine AllReadyN.app ?_ ?_
      · refine AllReadyN.cons (at_op rfl) (fun K hK => ?_) AllReadyN.nil
        go_simp
        have hb9 := hI.bel.alloc hI.le (.cells #[] 92)
        refine hK.out _ _ (fun _ => hBx.out _ hb9) (fun hSb => ?_)
        clear hK K hSb
        try simp only [Act.put, List.setIfInBounds_toArray, List.set_cons_zero, List.set_cons_succ]
        exact IH .c1000 _ _ (by decide) ⟨_, s1, t2, s2, t3, s3, t4, s4, rfl, ⟨hb9, Nat.le_trans hI.le (by simp), Own.empty ruleF 92 B wv hI.le, RowSt.alloc _ hI.c, RowSt.alloc _ hI.s, RowSt.alloc _ hI.t⟩⟩
      refine AllReadyN.app ?_ ?_
      · refine AllReadyN.cons (at_op rfl) (fun K hK => ?_) AllReadyN.nil
        go_simp
        have hb9 := hI.bel.alloc hI.le (.cells #[] 56)
        refine hK.out _ _ (fun _ => hBx.out _ hb9) (fun hSb => ?_)
        clear hK K hSb
        try simp only [Act.put, List.setIfInBounds_toArray, List.set_cons_zero, List.set_cons_succ]
        exact IH .c0100 _ _ (by decide) ⟨t1, s1, _, s2, t3, s3, t4, s4, rfl, ⟨hb9, Nat.le_trans hI.le (by simp), RowSt.alloc _ hI.r, Own.empty chunkF 56 B wv hI.le, RowSt.alloc _ hI.s, RowSt.alloc _ hI.t⟩⟩
      refine AllReadyN.app ?_ ?_
      · refine AllReadyN.cons (at_op rfl) (fun K hK => ?_) AllReadyN.nil
        go_simp
        have hb9 := hI.bel.alloc hI.le (.cells #[] 121)
        refine hK.out _ _ (fun _ => hBx.out _ hb9) (fun hSb => ?_)
        clear hK K hSb
        try simp only [Act.put, List.setIfInBounds_toArray, List.set_cons_zero, List.set_cons_succ]
        exact IH .c0010 _ _ (by decide) ⟨t1, s1, t2, s2, _, s3, t4, s4, rfl, ⟨hb9, Nat.le_trans hI.le (by simp), RowSt.alloc _ hI.r, RowSt.alloc _ hI.c, Own.empty spanF 121 B wv hI.le, RowSt.alloc _ hI.t⟩⟩
      refine AllReadyN.app ?_ ?_
      · refine AllReadyN.cons (at_op rfl) (fun K hK => ?_) AllReadyN.nil
        go_simp
        have hb9 := hI.bel.alloc hI.le (.cells #[] 101)
        refine hK.out _ _ (fun _ => hBx.out _ hb9) (fun hSb => ?_)
        clear hK K hSb
        try simp only [Act.put, List.setIfInBounds_toArray, List.set_cons_zero, List.set_cons_succ]
        exact IH .c0001 _ _ (by decide) ⟨t1, s1, t2, s2, t3, s3, _, s4, rfl, ⟨hb9, Nat.le_trans hI.le (by simp), RowSt.alloc _ hI.r, RowSt.alloc _ hI.c, RowSt.alloc _ hI.s, Own.empty tieF 101 B wv hI.le⟩⟩
      exact AllReadyN.nil
    case c0001 =>
      refine wpAnyN_ready (fuel := 8) (listed := #[true, true, false, true, true, false, false, true, true, false, false, true, true, false, true, true, true, false, false, false]) (rs := [2, 6, 10]) (by kernel_rfl) (by simp) ?_
      unfold C8.fr
      refine AllReadyN.app ?_ ?_
      · refine AllReadyN.cons (at_op rfl) (fun K hK => ?_) AllReadyN.nil
        go_simp
        have hb9 := hI.bel.alloc hI.le (.cells #[] 92)
        refine hK.out _ _ (fun _ => hBx.out _ hb9) (fun hSb => ?_)
        clear hK K hSb
        try simp only [Act.put, List.setIfInBounds_toArray, List.set_cons_zero, List.set_cons_succ]
        exact IH .c1001 _ _ (by decide) ⟨_, s1, t2, s2, t3, s3, t4, s4, rfl, ⟨hb9, Nat.le_trans hI.le (by simp), Own.empty ruleF 92 B wv hI.le, RowSt.alloc _ hI.c, RowSt.alloc _ hI.s, RowSt.alloc _ hI.t⟩⟩
      refine AllReadyN.app ?_ ?_
      · refine AllReadyN.cons (at_op rfl) (fun K hK => ?_) AllReadyN.nil
        go_simp
        have hb9 := hI.bel.alloc hI.le (.cells #[] 56)
        refine hK.out _ _ (fun _ => hBx.out _ hb9) (fun hSb => ?_)
        clear hK K hSb
        try simp only [Act.put, List.setIfInBounds_toArray, List.set_cons_zero, List.set_cons_succ]
        exact IH .c0101 _ _ (by decide) ⟨t1, s1, _, s2, t3, s3, t4, s4, rfl, ⟨hb9, Nat.le_trans hI.le (by simp), RowSt.alloc _ hI.r, Own.empty chunkF 56 B wv hI.le, RowSt.alloc _ hI.s, RowSt.alloc _ hI.t⟩⟩
      refine AllReadyN.app ?_ ?_
      · refine AllReadyN.cons (at_op rfl) (fun K hK => ?_) AllReadyN.nil
        go_simp
        have hb9 := hI.bel.alloc hI.le (.cells #[] 121)
        refine hK.out _ _ (fun _ => hBx.out _ hb9) (fun hSb => ?_)
        clear hK K hSb
        try simp only [Act.put, List.setIfInBounds_toArray, List.set_cons_zero, List.set_cons_succ]
        exact IH .c0011 _ _ (by decide) ⟨t1, s1, t2, s2, _, s3, t4, s4, rfl, ⟨hb9, Nat.le_trans hI.le (by simp), RowSt.alloc _ hI.r, RowSt.alloc _ hI.c, Own.empty spanF 121 B wv hI.le, RowSt.alloc _ hI.t⟩⟩
      exact AllReadyN.nil
    case c0010 =>
      refine wpAnyN_ready (fuel := 8) (listed := #[true, true, false, true, true, false, false, true, true, false, true, true, true, false, false, true, true, false, false, false]) (rs := [2, 6, 14]) (by kernel_rfl) (by simp) ?_
      unfold C8.fr
      refine AllReadyN.app ?_ ?_
      · refine AllReadyN.cons (at_op rfl) (fun K hK => ?_) AllReadyN.nil
        go_simp
        have hb9 := hI.bel.alloc hI.le (.cells #[] 92)
        refine hK.out _ _ (fun _ => hBx.out _ hb9) (fun hSb => ?_)
        clear hK K hSb
        try simp only [Act.put, List.setIfInBounds_toArray, List.set_cons_zero, List.set_cons_succ]
        exact IH .c1010 _ _ (by decide) ⟨_, s1, t2, s2, t3, s3, t4, s4, rfl, ⟨hb9, Nat.le_trans hI.le (by simp), Own.empty ruleF 92 B wv hI.le, RowSt.alloc _ hI.c, RowSt.alloc _ hI.s, RowSt.alloc _ hI.t⟩⟩
      refine AllReadyN.app ?_ ?_
      · refine AllReadyN.cons (at_op rfl) (fun K hK => ?_) AllReadyN.nil
        go_simp
        have hb9 := hI.bel.alloc hI.le (.cells #[] 56)
        refine hK.out _ _ (fun _ => hBx.out _ hb9) (fun hSb => ?_)
        clear hK K hSb
        try simp only [Act.put, List.setIfInBounds_toArray, List.set_cons_zero, List.set_cons_succ]
        exact IH .c0110 _ _ (by decide) ⟨t1, s1, _, s2, t3, s3, t4, s4, rfl, ⟨hb9, Nat.le_trans hI.le (by simp), RowSt.alloc _ hI.r, Own.empty chunkF 56 B wv hI.le, RowSt.alloc _ hI.s, RowSt.alloc _ hI.t⟩⟩
      refine AllReadyN.app ?_ ?_
      · refine AllReadyN.cons (at_op rfl) (fun K hK => ?_) AllReadyN.nil
        go_simp
        have hb9 := hI.bel.alloc hI.le (.cells #[] 101)
        refine hK.out _ _ (fun _ => hBx.out _ hb9) (fun hSb => ?_)
        clear hK K hSb
        try simp only [Act.put, List.setIfInBounds_toArray, List.set_cons_zero, List.set_cons_succ]
        exact IH .c0011 _ _ (by decide) ⟨t1, s1, t2, s2, t3, s3, _, s4, rfl, ⟨hb9, Nat.le_trans hI.le (by simp), RowSt.alloc _ hI.r, RowSt.alloc _ hI.c, RowSt.alloc _ hI.s, Own.empty tieF 101 B wv hI.le⟩⟩
      exact AllReadyN.nil
    case c0011 =>
      refine wpAnyN_ready (fuel := 7) (listed := #[true, true, false, true, true, false, false, true, true, false, true, true, true, false, true, true, true, false, false, false]) (rs := [2, 6]) (by kernel_rfl) (by simp) ?_
      unfold C8.fr
      refine AllReadyN.app ?_ ?_
      · refine AllReadyN.cons (at_op rfl) (fun K hK => ?_) AllReadyN.nil
        go_simp
        have hb9 := hI.bel.alloc hI.le (.cells #[] 92)
        refine hK.out _ _ (fun _ => hBx.out _ hb9) (fun hSb => ?_)
        clear hK K hSb
        try simp only [Act.put, List.setIfInBounds_toArray, List.set_cons_zero, List.set_cons_succ]
        exact IH .c1011 _ _ (by decide) ⟨_, s1, t2, s2, t3, s3, t4, s4, rfl, ⟨hb9, Nat.le_trans hI.le (by simp), Own.empty ruleF 92 B wv hI.le, RowSt.alloc _ hI.c, RowSt.alloc _ hI.s, RowSt.alloc _ hI.t⟩⟩
      refine AllReadyN.app ?_ ?_
      · refine AllReadyN.cons (at_op rfl) (fun K hK => ?_) AllReadyN.nil
        go_simp
        have hb9 := hI.bel.alloc hI.le (.cells #[] 56)
        refine hK.out _ _ (fun _ => hBx.out _ hb9) (fun hSb => ?_)
        clear hK K hSb
        try simp only [Act.put, List.setIfInBounds_toArray, List.set_cons_zero, List.set_cons_succ]
        exact IH .c0111 _ _ (by decide) ⟨t1, s1, _, s2, t3, s3, t4, s4, rfl, ⟨hb9, Nat.le_trans hI.le (by simp), RowSt.alloc _ hI.r, Own.empty chunkF 56 B wv hI.le, RowSt.alloc _ hI.s, RowSt.alloc _ hI.t⟩⟩
      exact AllReadyN.nil
    case c0100 =>
      refine wpAnyN_ready (fuel := 8) (listed := #[true, true, false, true, true, false, true, true, true, false, false, true, true, false, false, true, true, false, false, false]) (rs := [2, 10, 14]) (by kernel_rfl) (by simp) ?_
      unfold C8.fr
      refine AllReadyN.app ?_ ?_
      · refine AllReadyN.cons (at_op rfl) (fun K hK => ?_) AllReadyN.nil
        go_simp
        have hb9 := hI.bel.alloc hI.le (.cells #[] 92)
        refine hK.out _ _ (fun _ => hBx.out _ hb9) (fun hSb => ?_)
        clear hK K hSb
        try simp only [Act.put, List.setIfInBounds_toArray, List.set_cons_zero, List.set_cons_succ]
        exact IH .c1100 _ _ (by decide) ⟨_, s1, t2, s2, t3, s3, t4, s4, rfl, ⟨hb9, Nat.le_trans hI.le (by simp), Own.empty ruleF 92 B wv hI.le, RowSt.alloc _ hI.c, RowSt.alloc _ hI.s, RowSt.alloc _ hI.t⟩⟩
      refine AllReadyN.app ?_ ?_
      · refine AllReadyN.cons (at_op rfl) (fun K hK => ?_) AllReadyN.nil
        go_simp
        have hb9 := hI.bel.alloc hI.le (.cells #[] 121)
        refine hK.out _ _ (fun _ => hBx.out _ hb9) (fun hSb => ?_)
        clear hK K hSb
        try simp only [Act.put, List.setIfInBounds_toArray, List.set_cons_zero, List.set_cons_succ]
        exact IH .c0110 _ _ (by decide) ⟨t1, s1, t2, s2, _, s3, t4, s4, rfl, ⟨hb9, Nat.le_trans hI.le (by simp), RowSt.alloc _ hI.r, RowSt.alloc _ hI.c, Own.empty spanF 121 B wv hI.le, RowSt.alloc _ hI.t⟩⟩
      refine AllReadyN.app ?_ ?_
      · refine AllReadyN.cons (at_op rfl) (fun K hK => ?_) AllReadyN.nil
        go_simp
        have hb9 := hI.bel.alloc hI.le (.cells #[] 101)
        refine hK.out _ _ (fun _ => hBx.out _ hb9) (fun hSb => ?_)
        clear hK K hSb
        try simp only [Act.put, List.setIfInBounds_toArray, List.set_cons_zero, List.set_cons_succ]
        exact IH .c0101 _ _ (by decide) ⟨t1, s1, t2, s2, t3, s3, _, s4, rfl, ⟨hb9, Nat.le_trans hI.le (by simp), RowSt.alloc _ hI.r, RowSt.alloc _ hI.c, RowSt.alloc _ hI.s, Own.empty tieF 101 B wv hI.le⟩⟩
      exact AllReadyN.nil
    case c0101 =>
      refine wpAnyN_ready (fuel := 7) (listed := #[true, true, false, true, true, false, true, true, true, false, false, true, true, false, true, true, true, false, false, false]) (rs := [2, 10]) (by kernel_rfl) (by simp) ?_
      unfold C8.fr
      refine AllReadyN.app ?_ ?_
      · refine AllReadyN.cons (at_op rfl) (fun K hK => ?_) AllReadyN.nil
        go_simp
        have hb9 := hI.bel.alloc hI.le (.cells #[] 92)
        refine hK.out _ _ (fun _ => hBx.out _ hb9) (fun hSb => ?_)
        clear hK K hSb
        try simp only [Act.put, List.setIfInBounds_toArray, List.set_cons_zero, List.set_cons_succ]
        exact IH .c1101 _ _ (by decide) ⟨_, s1, t2, s2, t3, s3, t4, s4, rfl, ⟨hb9, Nat.le_trans hI.le (by simp), Own.empty ruleF 92 B wv hI.le, RowSt.alloc _ hI.c, RowSt.alloc _ hI.s, RowSt.alloc _ hI.t⟩⟩
      refine AllReadyN.app ?_ ?_
      · refine AllReadyN.cons (at_op rfl) (fun K hK => ?_) AllReadyN.nil
        go_simp
        have hb9 := hI.bel.alloc hI.le (.cells #[] 121)
        refine hK.out _ _ (fun _ => hBx.out _ hb9) (fun hSb => ?_)
        clear hK K hSb
        try simp only [Act.put, List.setIfInBounds_toArray, List.set_cons_zero, List.set_cons_succ]
        exact IH .c0111 _ _ (by decide) ⟨t1, s1, t2, s2, _, s3, t4, s4, rfl, ⟨hb9, Nat.le_trans hI.le (by simp), RowSt.alloc _ hI.r, RowSt.alloc _ hI.c, Own.empty spanF 121 B wv hI.le, RowSt.alloc _ hI.t⟩⟩
      exact AllReadyN.nil
    case c0110 =>
      refine wpAnyN_ready (fuel := 7) (listed := #[true, true, false, true, true, false, true, true, true, false, true, true, true, false, false, true, true, false, false, false]) (rs := [2, 14]) (by kernel_rfl) (by simp) ?_
      unfold C8.fr
      refine AllReadyN.app ?_ ?_
      · refine AllReadyN.cons (at_op rfl) (fun K hK => ?_) AllReadyN.nil
        go_simp
        have hb9 := hI.bel.alloc hI.le (.cells #[] 92)
        refine hK.out _ _ (fun _ => hBx.out _ hb9) (fun hSb => ?_)
        clear hK K hSb
        try simp only [Act.put, List.setIfInBounds_toArray, List.set_cons_zero, List.set_cons_succ]
        exact IH .c1110 _ _ (by decide) ⟨_, s1, t2, s2, t3, s3, t4, s4, rfl, ⟨hb9, Nat.le_trans hI.le (by simp), Own.empty ruleF 92 B wv hI.le, RowSt.alloc _ hI.c, RowSt.alloc _ hI.s, RowSt.alloc _ hI.t⟩⟩
      refine AllReadyN.app ?_ ?_
      · refine AllReadyN.cons (at_op rfl) (fun K hK => ?_) AllReadyN.nil
        go_simp
        have hb9 := hI.bel.alloc hI.le (.cells #[] 101)
        refine hK.out _ _ (fun _ => hBx.out _ hb9) (fun hSb => ?_)
        clear hK K hSb
        try simp only [Act.put, List.setIfInBounds_toArray, List.set_cons_zero, List.set_cons_succ]
        exact IH .c0111 _ _ (by decide) ⟨t1, s1, t2, s2, t3, s3, _, s4, rfl, ⟨hb9, Nat.le_trans hI.le (by simp), RowSt.alloc _ hI.r, RowSt.alloc _ hI.c, RowSt.alloc _ hI.s, Own.empty tieF 101 B wv hI.le⟩⟩
      exact AllReadyN.nil
    case c0111 =>
      refine wpAnyN_ready (fuel := 6) (listed := #[true, true, false, true, true, false, true, true, true, false, true, true, true, false, true, true, true, false, false, false]) (rs := [2]) (by kernel_rfl) (by simp) ?_
      unfold C8.fr
      refine AllReadyN.app ?_ ?_
      · refine AllReadyN.cons (at_op rfl) (fun K hK => ?_) AllReadyN.nil
        go_simp
        have hb9 := hI.bel.alloc hI.le (.cells #[] 92)
        refine hK.out _ _ (fun _ => hBx.out _ hb9) (fun hSb => ?_)
        clear hK K hSb
        try simp only [Act.put, List.setIfInBounds_toArray, List.set_cons_zero, List.set_cons_succ]
        exact IH .c1111 _ _ (by decide) ⟨_, s1, t2, s2, t3, s3, t4, s4, rfl, ⟨hb9, Nat.le_trans hI.le (by simp), Own.empty ruleF 92 B wv hI.le, RowSt.alloc _ hI.c, RowSt.alloc _ hI.s, RowSt.alloc _ hI.t⟩⟩
      exact AllReadyN.nil
    case c1000 =>
      refine wpAnyN_ready (fuel := 8) (listed := #[true, true, true, true, true, false, false, true, true, false, false, true, true, false, false, true, true, false, false, false]) (rs := [5, 6, 10, 14]) (by kernel_rfl) (by simp) ?_
      unfold C8.fr
      refine AllReadyN.app ?_ ?_
      · refine readyN_list (at_op rfl) (fun K hK => ?_)
        have hOw : Own ruleF 92 B wv.heap.size wv t1 [] := hI.r
        refine wp_appAllgC (F := ruleF) (xs := []) (ys := x.rules) (P := Try.prog) rfl (.tmp 5) (.tmp 7) 24 rfl Try.underlying24 hi0 hz0 hz1 hz2 rfl (by decide) rfl hOw rfl ((hp1.out.r).below hI.bel (by have := hB.out; omega)) (by simp only [List.length_nil]; omega) (by simp only [List.length_nil]; omega) hI.le ?_
        intro v9 w9 hO9 hb9 hg9
        replace hO9 : Own ruleF 92 B w9.heap.size w9 v9 x.rules := hO9
        obtain ⟨a9, c9, rfl, -, -, -⟩ := hO9.form
        refine hK.out _ _ (fun _ => hBx.out _ (hI.bel.trans hb9)) (fun hSb => ?_)
        clear hK K hSb
        try simp only [Act.put, List.setIfInBounds_toArray, List.set_cons_zero, List.set_cons_succ]
        exact IH .c2000 _ _ (by decide) ⟨t1, _, t2, s2, t3, s3, t4, s4, rfl, ⟨hI.bel.trans hb9, Nat.le_trans hI.le hg9.size, ⟨a9, c9, rfl, hO9⟩, hI.c.kept hOw (by decide) hg9, hI.s.kept hOw (by decide) hg9, hI.t.kept hOw (by decide) hg9⟩⟩
      refine AllReadyN.app ?_ ?_
      · refine AllReadyN.cons (at_op rfl) (fun K hK => ?_) AllReadyN.nil
        go_simp
        have hb9 := hI.bel.alloc hI.le (.cells #[] 56)
        refine hK.out _ _ (fun _ => hBx.out _ hb9) (fun hSb => ?_)
        clear hK K hSb
        try simp only [Act.put, List.setIfInBounds_toArray, List.set_cons_zero, List.set_cons_succ]
        exact IH .c1100 _ _ (by decide) ⟨t1, s1, _, s2, t3, s3, t4, s4, rfl, ⟨hb9, Nat.le_trans hI.le (by simp), RowSt.alloc _ hI.r, Own.empty chunkF 56 B wv hI.le, RowSt.alloc _ hI.s, RowSt.alloc _ hI.t⟩⟩
      refine AllReadyN.app ?_ ?_
      · refine AllReadyN.cons (at_op rfl) (fun K hK => ?_) AllReadyN.nil
        go_simp
        have hb9 := hI.bel.alloc hI.le (.cells #[] 121)
        refine hK.out _ _ (fun _ => hBx.out _ hb9) (fun hSb => ?_)
        clear hK K hSb
        try simp only [Act.put, List.setIfInBounds_toArray, List.set_cons_zero, List.set_cons_succ]
        exact IH .c1010 _ _ (by decide) ⟨t1, s1, t2, s2, _, s3, t4, s4, rfl, ⟨hb9, Nat.le_trans hI.le (by simp), RowSt.alloc _ hI.r, RowSt.alloc _ hI.c, Own.empty spanF 121 B wv hI.le, RowSt.alloc _ hI.t⟩⟩
      refine AllReadyN.app ?_ ?_
      · refine AllReadyN.cons (at_op rfl) (fun K hK => ?_) AllReadyN.nil
        go_simp
        have hb9 := hI.bel.alloc hI.le (.cells #[] 101)
        refine hK.out _ _ (fun _ => hBx.out _ hb9) (fun hSb => ?_)
        clear hK K hSb
        try simp only [Act.put, List.setIfInBounds_toArray, List.set_cons_zero, List.set_cons_succ]
        exact IH .c1001 _ _ (by decide) ⟨t1, s1, t2, s2, t3, s3, _, s4, rfl, ⟨hb9, Nat.le_trans hI.le (by simp), RowSt.alloc _ hI.r, RowSt.alloc _ hI.c, RowSt.alloc _ hI.s, Own.empty tieF 101 B wv hI.le⟩⟩
      exact AllReadyN.nil
    case c1001 =>
      refine wpAnyN_ready (fuel := 7) (listed := #[true, true, true, true, true, false, false, true, true, false, false, true, true, false, true, true, true, false, false, false]) (rs := [5, 6, 10]) (by kernel_rfl) (by simp) ?_
      unfold C8.fr
      refine AllReadyN.app ?_ ?_
      · refine readyN_list (at_op rfl) (fun K hK => ?_)
        have hOw : Own ruleF 92 B wv.heap.size wv t1 [] := hI.r
        refine wp_appAllgC (F := ruleF) (xs := []) (ys := x.rules) (P := Try.prog) rfl (.tmp 5) (.tmp 7) 24 rfl Try.underlying24 hi0 hz0 hz1 hz2 rfl (by decide) rfl hOw rfl ((hp1.out.r).below hI.bel (by have := hB.out; omega)) (by simp only [List.length_nil]; omega) (by simp only [List.length_nil]; omega) hI.le ?_
        intro v9 w9 hO9 hb9 hg9
        replace hO9 : Own ruleF 92 B w9.heap.size w9 v9 x.rules := hO9
        obtain ⟨a9, c9, rfl, -, -, -⟩ := hO9.form
        refine hK.out _ _ (fun _ => hBx.out _ (hI.bel.trans hb9)) (fun hSb => ?_)
        clear hK K hSb
        try simp only [Act.put, List.setIfInBounds_toArray, List.set_cons_zero, List.set_cons_succ]
        exact IH .c2001 _ _ (by decide) ⟨t1, _, t2, s2, t3, s3, t4, s4, rfl, ⟨hI.bel.trans hb9, Nat.le_trans hI.le hg9.size, ⟨a9, c9, rfl, hO9⟩, hI.c.kept hOw (by decide) hg9, hI.s.kept hOw (by decide) hg9, hI.t.kept hOw (by decide) hg9⟩⟩
      refine AllReadyN.app ?_ ?_
      · refine AllReadyN.cons (at_op rfl) (fun K hK => ?_) AllReadyN.nil
        go_simp
        have hb9 := hI.bel.alloc hI.le (.cells #[] 56)
        refine hK.out _ _ (fun _ => hBx.out _ hb9) (fun hSb => ?_)
        clear hK K hSb
        try simp only [Act.put, List.setIfInBounds_toArray, List.set_cons_zero, List.set_cons_succ]
        exact IH .c1101 _ _ (by decide) ⟨t1, s1, _, s2, t3, s3, t4, s4, rfl, ⟨hb9, Nat.le_trans hI.le (by simp), RowSt.alloc _ hI.r, Own.empty chunkF 56 B wv hI.le, RowSt.alloc _ hI.s, RowSt.alloc _ hI.t⟩⟩
      refine AllReadyN.app ?_ ?_
      · refine AllReadyN.cons (at_op rfl) (fun K hK => ?_) AllReadyN.nil
        go_simp
        have hb9 := hI.bel.alloc hI.le (.cells #[] 121)
        refine hK.out _ _ (fun _ => hBx.out _ hb9) (fun hSb => ?_)
        clear hK K hSb
        try simp only [Act.put, List.setIfInBounds_toArray, List.set_cons_zero, List.set_cons_succ]
        exact IH .c1011 _ _ (by decide) ⟨t1, s1, t2, s2, _, s3, t4, s4, rfl, ⟨hb9, Nat.le_trans hI.le (by simp), RowSt.alloc _ hI.r, RowSt.alloc _ hI.c, Own.empty spanF 121 B wv hI.le, RowSt.alloc _ hI.t⟩⟩
      exact AllReadyN.nil
    case c1010 =>
      refine wpAnyN_ready (fuel := 7) (listed := #[true, true, true, true, true, false, false, true, true, false, true, true, true, false, false, true, true, false, false, false]) (rs := [5, 6, 14]) (by kernel_rfl) (by simp) ?_
      unfold C8.fr
      refine AllReadyN.app ?_ ?_
      · refine readyN_list (at_op rfl) (fun K hK => ?_)
        have hOw : Own ruleF 92 B wv.heap.size wv t1 [] := hI.r
        refine wp_appAllgC (F := ruleF) (xs := []) (ys := x.rules) (P := Try.prog) rfl (.tmp 5) (.tmp 7) 24 rfl Try.underlying24 hi0 hz0 hz1 hz2 rfl (by decide) rfl hOw rfl ((hp1.out.r).below hI.bel (by have := hB.out; omega)) (by simp only [List.length_nil]; omega) (by simp only [List.length_nil]; omega) hI.le ?_
        intro v9 w9 hO9 hb9 hg9
        replace hO9 : Own ruleF 92 B w9.heap.size w9 v9 x.rules := hO9
        obtain ⟨a9, c9, rfl, -, -, -⟩ := hO9.form
        refine hK.out _ _ (fun _ => hBx.out _ (hI.bel.trans hb9)) (fun hSb => ?_)
        clear hK K hSb
        try simp only [Act.put, List.setIfInBounds_toArray, List.set_cons_zero, List.set_cons_succ]
        exact IH .c2010 _ _ (by decide) ⟨t1, _, t2, s2, t3, s3, t4, s4, rfl, ⟨hI.bel.trans hb9, Nat.le_trans hI.le hg9.size, ⟨a9, c9, rfl, hO9⟩, hI.c.kept hOw (by decide) hg9, hI.s.kept hOw (by decide) hg9, hI.t.kept hOw (by decide) hg9⟩⟩
      refine AllReadyN.app ?_ ?_
      · refine AllReadyN.cons (at_op rfl) (fun K hK => ?_) AllReadyN.nil
        go_simp
        have hb9 := hI.bel.alloc hI.le (.cells #[] 56)
        refine hK.out _ _ (fun _ => hBx.out _ hb9) (fun hSb => ?_)
        clear hK K hSb
        try simp only [Act.put, List.setIfInBounds_toArray, List.set_cons_zero, List.set_cons_succ]
        exact IH .c1110 _ _ (by decide) ⟨t1, s1, _, s2, t3, s3, t4, s4, rfl, ⟨hb9, Nat.le_trans hI.le (by simp), RowSt.alloc _ hI.r, Own.empty chunkF 56 B wv hI.le, RowSt.alloc _ hI.s, RowSt.alloc _ hI.t⟩⟩
      refine AllReadyN.app ?_ ?_
      · refine AllReadyN.cons (at_op rfl) (fun K hK => ?_) AllReadyN.nil
        go_simp
        have hb9 := hI.bel.alloc hI.le (.cells #[] 101)
        refine hK.out _ _ (fun _ => hBx.out _ hb9) (fun hSb => ?_)
        clear hK K hSb
        try simp only [Act.put, List.setIfInBounds_toArray, List.set_cons_zero, List.set_cons_succ]
        exact IH .c1011 _ _ (by decide) ⟨t1, s1, t2, s2, t3, s3, _, s4, rfl, ⟨hb9, Nat.le_trans hI.le (by simp), RowSt.alloc _ hI.r, RowSt.alloc _ hI.c, RowSt.alloc _ hI.s, Own.empty tieF 101 B wv hI.le⟩⟩
      exact AllReadyN.nil
    case c1011 =>
      refine wpAnyN_ready (fuel := 6) (listed := #[true, true, true, true, true, false, false, true, true, false, true, true, true, false, true, true, true, false, false, false]) (rs := [5, 6]) (by kernel_rfl) (by simp) ?_
      unfold C8.fr
      refine AllReadyN.app ?_ ?_
      · refine readyN_list (at_op rfl) (fun K hK => ?_)
        have hOw : Own ruleF 92 B wv.heap.size wv t1 [] := hI.r
        refine wp_appAllgC (F := ruleF) (xs := []) (ys := x.rules) (P := Try.prog) rfl (.tmp 5) (.tmp 7) 24 rfl Try.underlying24 hi0 hz0 hz1 hz2 rfl (by decide) rfl hOw rfl ((hp1.out.r).below hI.bel (by have := hB.out; omega)) (by simp only [List.length_nil]; omega) (by simp only [List.length_nil]; omega) hI.le ?_
        intro v9 w9 hO9 hb9 hg9
        replace hO9 : Own ruleF 92 B w9.heap.size w9 v9 x.rules := hO9
        obtain ⟨a9, c9, rfl, -, -, -⟩ := hO9.form
        refine hK.out _ _ (fun _ => hBx.out _ (hI.bel.trans hb9)) (fun hSb => ?_)
        clear hK K hSb
        try simp only [Act.put, List.setIfInBounds_toArray, List.set_cons_zero, List.set_cons_succ]
        exact IH .c2011 _ _ (by decide) ⟨t1, _, t2, s2, t3, s3, t4, s4, rfl, ⟨hI.bel.trans hb9, Nat.le_trans hI.le hg9.size, ⟨a9, c9, rfl, hO9⟩, hI.c.kept hOw (by decide) hg9, hI.s.kept hOw (by decide) hg9, hI.t.kept hOw (by decide) hg9⟩⟩
      refine AllReadyN.app ?_ ?_
      · refine AllReadyN.cons (at_op rfl) (fun K hK => ?_) AllReadyN.nil
        go_simp
        have hb9 := hI.bel.alloc hI.le (.cells #[] 56)
        refine hK.out _ _ (fun _ => hBx.out _ hb9) (fun hSb => ?_)
        clear hK K hSb
        try simp only [Act.put, List.setIfInBounds_toArray, List.set_cons_zero, List.set_cons_succ]
        exact IH .c1111 _ _ (by decide) ⟨t1, s1, _, s2, t3, s3, t4, s4, rfl, ⟨hb9, Nat.le_trans hI.le (by simp), RowSt.alloc _ hI.r, Own.empty chunkF 56 B wv hI.le, RowSt.alloc _ hI.s, RowSt.alloc _ hI.t⟩⟩
      exact AllReadyN.nil
    case c1100 =>
      refine wpAnyN_ready (fuel := 7) (listed := #[true, true, true, true, true, false, true, true, true, false, false, true, true, false, false, true, true, false, false, false]) (rs := [5, 10, 14]) (by kernel_rfl) (by simp) ?_
      unfold C8.fr
      refine AllReadyN.app ?_ ?_
      · refine readyN_list (at_op rfl) (fun K hK => ?_)
        have hOw : Own ruleF 92 B wv.heap.size wv t1 [] := hI.r
        refine wp_appAllgC (F := ruleF) (xs := []) (ys := x.rules) (P := Try.prog) rfl (.tmp 5) (.tmp 7) 24 rfl Try.underlying24 hi0 hz0 hz1 hz2 rfl (by decide) rfl hOw rfl ((hp1.out.r).below hI.bel (by have := hB.out; omega)) (by simp only [List.length_nil]; omega) (by simp only [List.length_nil]; omega) hI.le ?_
        intro v9 w9 hO9 hb9 hg9
        replace hO9 : Own ruleF 92 B w9.heap.size w9 v9 x.rules := hO9
        obtain ⟨a9, c9, rfl, -, -, -⟩ := hO9.form
        refine hK.out _ _ (fun _ => hBx.out _ (hI.bel.trans hb9)) (fun hSb => ?_)
        clear hK K hSb
        try simp only [Act.put, List.setIfInBounds_toArray, List.set_cons_zero, List.set_cons_succ]
        exact IH .c2100 _ _ (by decide) ⟨t1, _, t2, s2, t3, s3, t4, s4, rfl, ⟨hI.bel.trans hb9, Nat.le_trans hI.le hg9.size, ⟨a9, c9, rfl, hO9⟩, hI.c.kept hOw (by decide) hg9, hI.s.kept hOw (by decide) hg9, hI.t.kept hOw (by decide) hg9⟩⟩
      refine AllReadyN.app ?_ ?_
      · refine AllReadyN.cons (at_op rfl) (fun K hK => ?_) AllReadyN.nil
        go_simp
        have hb9 := hI.bel.alloc hI.le (.cells #[] 121)
        refine hK.out _ _ (fun _ => hBx.out _ hb9) (fun hSb => ?_)
        clear hK K hSb
        try simp only [Act.put, List.setIfInBounds_toArray, List.set_cons_zero, List.set_cons_succ]
        exact IH .c1110 _ _ (by decide) ⟨t1, s1, t2, s2, _, s3, t4, s4, rfl, ⟨hb9, Nat.le_trans hI.le (by simp), RowSt.alloc _ hI.r, RowSt.alloc _ hI.c, Own.empty spanF 121 B wv hI.le, RowSt.alloc _ hI.t⟩⟩
      refine AllReadyN.app ?_ ?_
      · refine AllReadyN.cons (at_op rfl) (fun K hK => ?_) AllReadyN.nil
        go_simp
        have hb9 := hI.bel.alloc hI.le (.cells #[] 101)
        refine hK.out _ _ (fun _ => hBx.out _ hb9) (fun hSb => ?_)
        clear hK K hSb
        try simp only [Act.put, List.setIfInBounds_toArray, List.set_cons_zero, List.set_cons_succ]
        exact IH .c1101 _ _ (by decide) ⟨t1, s1, t2, s2, t3, s3, _, s4, rfl, ⟨hb9, Nat.le_trans hI.le (by simp), RowSt.alloc _ hI.r, RowSt.alloc _ hI.c, RowSt.alloc _ hI.s, Own.empty tieF 101 B wv hI.le⟩⟩
      exact AllReadyN.nil
    case c1101 =>
      refine wpAnyN_ready (fuel := 6) (listed := #[true, true, true, true, true, false, true, true, true, false, false, true, true, false, true, true, true, false, false, false]) (rs := [5, 10]) (by kernel_rfl) (by simp) ?_
      unfold C8.fr
      refine AllReadyN.app ?_ ?_
      · refine readyN_list (at_op rfl) (fun K hK => ?_)
        have hOw : Own ruleF 92 B wv.heap.size wv t1 [] := hI.r
        refine wp_appAllgC (F := ruleF) (xs := []) (ys := x.rules) (P := Try.prog) rfl (.tmp 5) (.tmp 7) 24 rfl Try.underlying24 hi0 hz0 hz1 hz2 rfl (by decide) rfl hOw rfl ((hp1.out.r).below hI.bel (by have := hB.out; omega)) (by simp only [List.length_nil]; omega) (by simp only [List.length_nil]; omega) hI.le ?_
        intro v9 w9 hO9 hb9 hg9
        replace hO9 : Own ruleF 92 B w9.heap.size w9 v9 x.rules := hO9
        obtain ⟨a9, c9, rfl, -, -, -⟩ := hO9.form
        refine hK.out _ _ (fun _ => hBx.out _ (hI.bel.trans hb9)) (fun hSb => ?_)
        clear hK K hSb
        try simp only [Act.put, List.setIfInBounds_toArray, List.set_cons_zero, List.set_cons_succ]
        exact IH .c2101 _ _ (by decide) ⟨t1, _, t2, s2, t3, s3, t4, s4, rfl, ⟨hI.bel.trans hb9, Nat.le_trans hI.le hg9.size, ⟨a9, c9, rfl, hO9⟩, hI.c.kept hOw (by decide) hg9, hI.s.kept hOw (by decide) hg9, hI.t.kept hOw (by decide) hg9⟩⟩
      refine AllReadyN.app ?_ ?_
      · refine AllReadyN.cons (at_op rfl) (fun K hK => ?_) AllReadyN.nil
        go_simp
        have hb9 := hI.bel.alloc hI.le (.cells #[] 121)
        refine hK.out _ _ (fun _ => hBx.out _ hb9) (fun hSb => ?_)
        clear hK K hSb
        try simp only [Act.put, List.setIfInBounds_toArray, List.set_cons_zero, List.set_cons_succ]
        exact IH .c1111 _ _ (by decide) ⟨t1, s1, t2, s2, _, s3, t4, s4, rfl, ⟨hb9, Nat.le_trans hI.le (by simp), RowSt.alloc _ hI.r, RowSt.alloc _ hI.c, Own.empty spanF 121 B wv hI.le, RowSt.alloc _ hI.t⟩⟩
      exact AllReadyN.nil
    case c1110 =>
      refine wpAnyN_ready (fuel := 6) (listed := #[true, true, true, true, true, false, true, true, true, false, true, true, true, false, false, true, true, false, false, false]) (rs := [5, 14]) (by kernel_rfl) (by simp) ?_
      unfold C8.fr
      refine AllReadyN.app ?_ ?_
      · refine readyN_list (at_op rfl) (fun K hK => ?_)
        have hOw : Own ruleF 92 B wv.heap.size wv t1 [] := hI.r
        refine wp_appAllgC (F := ruleF) (xs := []) (ys := x.rules) (P := Try.prog) rfl (.tmp 5) (.tmp 7) 24 rfl Try.underlying24 hi0 hz0 hz1 hz2 rfl (by decide) rfl hOw rfl ((hp1.out.r).below hI.bel (by have := hB.out; omega)) (by simp only [List.length_nil]; omega) (by simp only [List.length_nil]; omega) hI.le ?_
        intro v9 w9 hO9 hb9 hg9
        replace hO9 : Own ruleF 92 B w9.heap.size w9 v9 x.rules := hO9
        obtain ⟨a9, c9, rfl, -, -, -⟩ := hO9.form
        refine hK.out _ _ (fun _ => hBx.out _ (hI.bel.trans hb9)) (fun hSb => ?_)
        clear hK K hSb
        try simp only [Act.put, List.setIfInBounds_toArray, List.set_cons_zero, List.set_cons_succ]
        exact IH .c2110 _ _ (by decide) ⟨t1, _, t2, s2, t3, s3, t4, s4, rfl, ⟨hI.bel.trans hb9, Nat.le_trans hI.le hg9.size, ⟨a9, c9, rfl, hO9⟩, hI.c.kept hOw (by decide) hg9, hI.s.kept hOw (by decide) hg9, hI.t.kept hOw (by decide) hg9⟩⟩
      refine AllReadyN.app ?_ ?_
      · refine AllReadyN.cons (at_op rfl) (fun K hK => ?_) AllReadyN.nil
        go_simp
        have hb9 := hI.bel.alloc hI.le (.cells #[] 101)
        refine hK.out _ _ (fun _ => hBx.out _ hb9) (fun hSb => ?_)
        clear hK K hSb
        try simp only [Act.put, List.setIfInBounds_toArray, List.set_cons_zero, List.set_cons_succ]
        exact IH .c1111 _ _ (by decide) ⟨t1, s1, t2, s2, t3, s3, _, s4, rfl, ⟨hb9, Nat.le_trans hI.le (by simp), RowSt.alloc _ hI.r, RowSt.alloc _ hI.c, RowSt.alloc _ hI.s, Own.empty tieF 101 B wv hI.le⟩⟩
      exact AllReadyN.nil
    case c1111 =>
      refine wpAnyN_ready (fuel := 5) (listed := #[true, true, true, true, true, false, true, true, true, false, true, true, true, false, true, true, true, false, false, false]) (rs := [5]) (by kernel_rfl) (by simp) ?_
      unfold C8.fr
      refine AllReadyN.app ?_ ?_
      · refine readyN_list (at_op rfl) (fun K hK => ?_)
        have hOw : Own ruleF 92 B wv.heap.size wv t1 [] := hI.r
        refine wp_appAllgC (F := ruleF) (xs := []) (ys := x.rules) (P := Try.prog) rfl (.tmp 5) (.tmp 7) 24 rfl Try.underlying24 hi0 hz0 hz1 hz2 rfl (by decide) rfl hOw rfl ((hp1.out.r).below hI.bel (by have := hB.out; omega)) (by simp only [List.length_nil]; omega) (by simp only [List.length_nil]; omega) hI.le ?_
        intro v9 w9 hO9 hb9 hg9
        replace hO9 : Own ruleF 92 B w9.heap.size w9 v9 x.rules := hO9
        obtain ⟨a9, c9, rfl, -, -, -⟩ := hO9.form
        refine hK.out _ _ (fun _ => hBx.out _ (hI.bel.trans hb9)) (fun hSb => ?_)
        clear hK K hSb
        try simp only [Act.put, List.setIfInBounds_toArray, List.set_cons_zero, List.set_cons_succ]
        exact IH .c2111 _ _ (by decide) ⟨t1, _, t2, s2, t3, s3, t4, s4, rfl, ⟨hI.bel.trans hb9, Nat.le_trans hI.le hg9.size, ⟨a9, c9, rfl, hO9⟩, hI.c.kept hOw (by decide) hg9, hI.s.kept hOw (by decide) hg9, hI.t.kept hOw (by decide) hg9⟩⟩
      exact AllReadyN.nil
    case c2000 =>
      refine wpAnyN_ready (fuel := 7) (listed := #[true, true, true, true, true, true, false, true, true, false, false, true, true, false, false, true, true, false, false, false]) (rs := [6, 10, 14]) (by kernel_rfl) (by simp) ?_
      unfold C8.fr
      refine AllReadyN.app ?_ ?_
      · refine AllReadyN.cons (at_op rfl) (fun K hK => ?_) AllReadyN.nil
        go_simp
        have hb9 := hI.bel.alloc hI.le (.cells #[] 56)
        refine hK.out _ _ (fun _ => hBx.out _ hb9) (fun hSb => ?_)
        clear hK K hSb
        try simp only [Act.put, List.setIfInBounds_toArray, List.set_cons_zero, List.set_cons_succ]
        exact IH .c2100 _ _ (by decide) ⟨t1, s1, _, s2, t3, s3, t4, s4, rfl, ⟨hb9, Nat.le_trans hI.le (by simp), RowSt.alloc _ hI.r, Own.empty chunkF 56 B wv hI.le, RowSt.alloc _ hI.s, RowSt.alloc _ hI.t⟩⟩
      refine AllReadyN.app ?_ ?_
      · refine AllReadyN.cons (at_op rfl) (fun K hK => ?_) AllReadyN.nil
        go_simp
        have hb9 := hI.bel.alloc hI.le (.cells #[] 121)
        refine hK.out _ _ (fun _ => hBx.out _ hb9) (fun hSb => ?_)
        clear hK K hSb
        try simp only [Act.put, List.setIfInBounds_toArray, List.set_cons_zero, List.set_cons_succ]
        exact IH .c2010 _ _ (by decide) ⟨t1, s1, t2, s2, _, s3, t4, s4, rfl, ⟨hb9, Nat.le_trans hI.le (by simp), RowSt.alloc _ hI.r, RowSt.alloc _ hI.c, Own.empty spanF 121 B wv hI.le, RowSt.alloc _ hI.t⟩⟩
      refine AllReadyN.app ?_ ?_
      · refine AllReadyN.cons (at_op rfl) (fun K hK => ?_) AllReadyN.nil
        go_simp
        have hb9 := hI.bel.alloc hI.le (.cells #[] 101)
        refine hK.out _ _ (fun _ => hBx.out _ hb9) (fun hSb => ?_)
        clear hK K hSb
        try simp only [Act.put, List.setIfInBounds_toArray, List.set_cons_zero, List.set_cons_succ]
        exact IH .c2001 _ _ (by decide) ⟨t1, s1, t2, s2, t3, s3, _, s4, rfl, ⟨hb9, Nat.le_trans hI.le (by simp), RowSt.alloc _ hI.r, RowSt.alloc _ hI.c, RowSt.alloc _ hI.s, Own.empty tieF 101 B wv hI.le⟩⟩
      exact AllReadyN.nil
    case c2001 =>
      refine wpAnyN_ready (fuel := 6) (listed := #[true, true, true, true, true, true, false, true, true, false, false, true, true, false, true, true, true, false, false, false]) (rs := [6, 10]) (by kernel_rfl) (by simp) ?_
      unfold C8.fr
      refine AllReadyN.app ?_ ?_
      · refine AllReadyN.cons (at_op rfl) (fun K hK => ?_) AllReadyN.nil
        go_simp
        have hb9 := hI.bel.alloc hI.le (.cells #[] 56)
        refine hK.out _ _ (fun _ => hBx.out _ hb9) (fun hSb => ?_)
        clear hK K hSb
        try simp only [Act.put, List.setIfInBounds_toArray, List.set_cons_zero, List.set_cons_succ]
        exact IH .c2101 _ _ (by decide) ⟨t1, s1, _, s2, t3, s3, t4, s4, rfl, ⟨hb9, Nat.le_trans hI.le (by simp), RowSt.alloc _ hI.r, Own.empty chunkF 56 B wv hI.le, RowSt.alloc _ hI.s, RowSt.alloc _ hI.t⟩⟩
      refine AllReadyN.app ?_ ?_
      · refine AllReadyN.cons (at_op rfl) (fun K hK => ?_) AllReadyN.nil
        go_simp
        have hb9 := hI.bel.alloc hI.le (.cells #[] 121)
        refine hK.out _ _ (fun _ => hBx.out _ hb9) (fun hSb => ?_)
        clear hK K hSb
        try simp only [Act.put, List.setIfInBounds_toArray, List.set_cons_zero, List.set_cons_succ]
        exact IH .c2011 _ _ (by decide) ⟨t1, s1, t2, s2, _, s3, t4, s4, rfl, ⟨hb9, Nat.le_trans hI.le (by simp), RowSt.alloc _ hI.r, RowSt.alloc _ hI.c, Own.empty spanF 121 B wv hI.le, RowSt.alloc _ hI.t⟩⟩
      exact AllReadyN.nil
    case c2010 =>
      refine wpAnyN_ready (fuel := 6) (listed := #[true, true, true, true, true, true, false, true, true, false, true, true, true, false, false, true, true, false, false, false]) (rs := [6, 14]) (by kernel_rfl) (by simp) ?_
      unfold C8.fr
      refine AllReadyN.app ?_ ?_
      · refine AllReadyN.cons (at_op rfl) (fun K hK => ?_) AllReadyN.nil
        go_simp
        have hb9 := hI.bel.alloc hI.le (.cells #[] 56)
        refine hK.out _ _ (fun _ => hBx.out _ hb9) (fun hSb => ?_)
        clear hK K hSb
        try simp only [Act.put, List.setIfInBounds_toArray, List.set_cons_zero, List.set_cons_succ]
        exact IH .c2110 _ _ (by decide) ⟨t1, s1, _, s2, t3, s3, t4, s4, rfl, ⟨hb9, Nat.le_trans hI.le (by simp), RowSt.alloc _ hI.r, Own.empty chunkF 56 B wv hI.le, RowSt.alloc _ hI.s, RowSt.alloc _ hI.t⟩⟩
      refine AllReadyN.app ?_ ?_
      · refine AllReadyN.cons (at_op rfl) (fun K hK => ?_) AllReadyN.nil
        go_simp
        have hb9 := hI.bel.alloc hI.le (.cells #[] 101)
        refine hK.out _ _ (fun _ => hBx.out _ hb9) (fun hSb => ?_)
        clear hK K hSb
        try simp only [Act.put, List.setIfInBounds_toArray, List.set_cons_zero, List.set_cons_succ]
        exact IH .c2011 _ _ (by decide) ⟨t1, s1, t2, s2, t3, s3, _, s4, rfl, ⟨hb9, Nat.le_trans hI.le (by simp), RowSt.alloc _ hI.r, RowSt.alloc _ hI.c, RowSt.alloc _ hI.s, Own.empty tieF 101 B wv hI.le⟩⟩
      exact AllReadyN.nil
    case c2011 =>
      refine wpAnyN_ready (fuel := 5) (listed := #[true, true, true, true, true, true, false, true, true, false, true, true, true, false, true, true, true, false, false, false]) (rs := [6]) (by kernel_rfl) (by simp) ?_
      unfold C8.fr
      refine AllReadyN.app ?_ ?_
      · refine AllReadyN.cons (at_op rfl) (fun K hK => ?_) AllReadyN.nil
        go_simp
        have hb9 := hI.bel.alloc hI.le (.cells #[] 56)
        refine hK.out _ _ (fun _ => hBx.out _ hb9) (fun hSb => ?_)
        clear hK K hSb
        try simp only [Act.put, List.setIfInBounds_toArray, List.set_cons_zero, List.set_cons_succ]
        exact IH .c2111 _ _ (by decide) ⟨t1, s1, _, s2, t3, s3, t4, s4, rfl, ⟨hb9, Nat.le_trans hI.le (by simp), RowSt.alloc _ hI.r, Own.empty chunkF 56 B wv hI.le, RowSt.alloc _ hI.s, RowSt.alloc _ hI.t⟩⟩
      exact AllReadyN.nil
    case c2100 =>
      refine wpAnyN_ready (fuel := 6) (listed := #[true, true, true, true, true, true, true, true, true, false, false, true, true, false, false, true, true, false, false, false]) (rs := [9, 10, 14]) (by kernel_rfl) (by simp) ?_
      unfold C8.fr
      refine AllReadyN.app ?_ ?_
      · refine readyN_list (at_op rfl) (fun K hK => ?_)
        have hOw : Own chunkF 56 B wv.heap.size wv t2 [] := hI.c
        refine wp_appAllgC (F := chunkF) (xs := []) (ys := x.chunks) (P := Try.prog) rfl (.tmp 9) (.tmp 11) 25 rfl Try.underlying25 hi1 hy0 hy1 hy2 rfl (by decide) rfl hOw rfl ((hp1.out.c).below hI.bel (by have := hB.out; omega)) (by simp only [List.length_nil]; omega) (by simp only [List.length_nil]; omega) hI.le ?_
        intro v9 w9 hO9 hb9 hg9
        replace hO9 : Own chunkF 56 B w9.heap.size w9 v9 x.chunks := hO9
        obtain ⟨a9, c9, rfl, -, -, -⟩ := hO9.form
        refine hK.out _ _ (fun _ => hBx.out _ (hI.bel.trans hb9)) (fun hSb => ?_)
        clear hK K hSb
        try simp only [Act.put, List.setIfInBounds_toArray, List.set_cons_zero, List.set_cons_succ]
        exact IH .c2200 _ _ (by decide) ⟨t1, s1, t2, _, t3, s3, t4, s4, rfl, ⟨hI.bel.trans hb9, Nat.le_trans hI.le hg9.size, hI.r.kept hOw (by decide) hg9, ⟨a9, c9, rfl, hO9⟩, hI.s.kept hOw (by decide) hg9, hI.t.kept hOw (by decide) hg9⟩⟩
      refine AllReadyN.app ?_ ?_
      · refine AllReadyN.cons (at_op rfl) (fun K hK => ?_) AllReadyN.nil
        go_simp
        have hb9 := hI.bel.alloc hI.le (.cells #[] 121)
        refine hK.out _ _ (fun _ => hBx.out _ hb9) (fun hSb => ?_)
        clear hK K hSb
        try simp only [Act.put, List.setIfInBounds_toArray, List.set_cons_zero, List.set_cons_succ]
        exact IH .c2110 _ _ (by decide) ⟨t1, s1, t2, s2, _, s3, t4, s4, rfl, ⟨hb9, Nat.le_trans hI.le (by simp), RowSt.alloc _ hI.r, RowSt.alloc _ hI.c, Own.empty spanF 121 B wv hI.le, RowSt.alloc _ hI.t⟩⟩
      refine AllReadyN.app ?_ ?_
      · refine AllReadyN.cons (at_op rfl) (fun K hK => ?_) AllReadyN.nil
        go_simp
        have hb9 := hI.bel.alloc hI.le (.cells #[] 101)
        refine hK.out _ _ (fun _ => hBx.out _ hb9) (fun hSb => ?_)
        clear hK K hSb
        try simp only [Act.put, List.setIfInBounds_toArray, List.set_cons_zero, List.set_cons_succ]
        exact IH .c2101 _ _ (by decide) ⟨t1, s1, t2, s2, t3, s3, _, s4, rfl, ⟨hb9, Nat.le_trans hI.le (by simp), RowSt.alloc _ hI.r, RowSt.alloc _ hI.c, RowSt.alloc _ hI.s, Own.empty tieF 101 B wv hI.le⟩⟩
      exact AllReadyN.nil
    case c2101 =>
      refine wpAnyN_ready (fuel := 5) (listed := #[true, true, true, true, true, true, true, true, true, false, false, true, true, false, true, true, true, false, false, false]) (rs := [9, 10]) (by kernel_rfl) (by simp) ?_
      unfold C8.fr
      refine AllReadyN.app ?_ ?_
      · refine readyN_list (at_op rfl) (fun K hK => ?_)
        have hOw : Own chunkF 56 B wv.heap.size wv t2 [] := hI.c
        refine wp_appAllgC (F := chunkF) (xs := []) (ys := x.chunks) (P := Try.prog) rfl (.tmp 9) (.tmp 11) 25 rfl Try.underlying25 hi1 hy0 hy1 hy2 rfl (by decide) rfl hOw rfl ((hp1.out.c).below hI.bel (by have := hB.out; omega)) (by simp only [List.length_nil]; omega) (by simp only [List.length_nil]; omega) hI.le ?_
        intro v9 w9 hO9 hb9 hg9
        replace hO9 : Own chunkF 56 B w9.heap.size w9 v9 x.chunks := hO9
        obtain ⟨a9, c9, rfl, -, -, -⟩ := hO9.form
        refine hK.out _ _ (fun _ => hBx.out _ (hI.bel.trans hb9)) (fun hSb => ?_)
        clear hK K hSb
        try simp only [Act.put, List.setIfInBounds_toArray, List.set_cons_zero, List.set_cons_succ]
        exact IH .c2201 _ _ (by decide) ⟨t1, s1, t2, _, t3, s3, t4, s4, rfl, ⟨hI.bel.trans hb9, Nat.le_trans hI.le hg9.size, hI.r.kept hOw (by decide) hg9, ⟨a9, c9, rfl, hO9⟩, hI.s.kept hOw (by decide) hg9, hI.t.kept hOw (by decide) hg9⟩⟩
      refine AllReadyN.app ?_ ?_
      · refine AllReadyN.cons (at_op rfl) (fun K hK => ?_) AllReadyN.nil
        go_simp
        have hb9 := hI.bel.alloc hI.le (.cells #[] 121)
        refine hK.out _ _ (fun _ => hBx.out _ hb9) (fun hSb => ?_)
        clear hK K hSb
        try simp only [Act.put, List.setIfInBounds_toArray, List.set_cons_zero, List.set_cons_succ]
        exact IH .c2111 _ _ (by decide) ⟨t1, s1, t2, s2, _, s3, t4, s4, rfl, ⟨hb9, Nat.le_trans hI.le (by simp), RowSt.alloc _ hI.r, RowSt.alloc _ hI.c, Own.empty spanF 121 B wv hI.le, RowSt.alloc _ hI.t⟩⟩
      exact AllReadyN.nil
    case c2110 =>
      refine wpAnyN_ready (fuel := 5) (listed := #[true, true, true, true, true, true, true, true, true, false, true, true, true, false, false, true, true, false, false, false]) (rs := [9, 14]) (by kernel_rfl) (by simp) ?_
      unfold C8.fr
      refine AllReadyN.app ?_ ?_
      · refine readyN_list (at_op rfl) (fun K hK => ?_)
        have hOw : Own chunkF 56 B wv.heap.size wv t2 [] := hI.c
        refine wp_appAllgC (F := chunkF) (xs := []) (ys := x.chunks) (P := Try.prog) rfl (.tmp 9) (.tmp 11) 25 rfl Try.underlying25 hi1 hy0 hy1 hy2 rfl (by decide) rfl hOw rfl ((hp1.out.c).below hI.bel (by have := hB.out; omega)) (by simp only [List.length_nil]; omega) (by simp only [List.length_nil]; omega) hI.le ?_
        intro v9 w9 hO9 hb9 hg9
        replace hO9 : Own chunkF 56 B w9.heap.size w9 v9 x.chunks := hO9
        obtain ⟨a9, c9, rfl, -, -, -⟩ := hO9.form
        refine hK.out _ _ (fun _ => hBx.out _ (hI.bel.trans hb9)) (fun hSb => ?_)
        clear hK K hSb
        try simp only [Act.put, List.setIfInBounds_toArray, List.set_cons_zero, List.set_cons_succ]
        exact IH .c2210 _ _ (by decide) ⟨t1, s1, t2, _, t3, s3, t4, s4, rfl, ⟨hI.bel.trans hb9, Nat.le_trans hI.le hg9.size, hI.r.kept hOw (by decide) hg9, ⟨a9, c9, rfl, hO9⟩, hI.s.kept hOw (by decide) hg9, hI.t.kept hOw (by decide) hg9⟩⟩
      refine AllReadyN.app ?_ ?_
      · refine AllReadyN.cons (at_op rfl) (fun K hK => ?_) AllReadyN.nil
        go_simp
        have hb9 := hI.bel.alloc hI.le (.cells #[] 101)
        refine hK.out _ _ (fun _ => hBx.out _ hb9) (fun hSb => ?_)
        clear hK K hSb
        try simp only [Act.put, List.setIfInBounds_toArray, List.set_cons_zero, List.set_cons_succ]
        exact IH .c2111 _ _ (by decide) ⟨t1, s1, t2, s2, t3, s3, _, s4, rfl, ⟨hb9, Nat.le_trans hI.le (by simp), RowSt.alloc _ hI.r, RowSt.alloc _ hI.c, RowSt.alloc _ hI.s, Own.empty tieF 101 B wv hI.le⟩⟩
      exact AllReadyN.nil
    case c2111 =>
      refine wpAnyN_ready (fuel := 4) (listed := #[true, true, true, true, true, true, true, true, true, false, true, true, true, false, true, true, true, false, false, false]) (rs := [9]) (by kernel_rfl) (by simp) ?_
      unfold C8.fr
      refine AllReadyN.app ?_ ?_
      · refine readyN_list (at_op rfl) (fun K hK => ?_)
        have hOw : Own chunkF 56 B wv.heap.size wv t2 [] := hI.c
        refine wp_appAllgC (F := chunkF) (xs := []) (ys := x.chunks) (P := Try.prog) rfl (.tmp 9) (.tmp 11) 25 rfl Try.underlying25 hi1 hy0 hy1 hy2 rfl (by decide) rfl hOw rfl ((hp1.out.c).below hI.bel (by have := hB.out; omega)) (by simp only [List.length_nil]; omega) (by simp only [List.length_nil]; omega) hI.le ?_
        intro v9 w9 hO9 hb9 hg9
        replace hO9 : Own chunkF 56 B w9.heap.size w9 v9 x.chunks := hO9
        obtain ⟨a9, c9, rfl, -, -, -⟩ := hO9.form
        refine hK.out _ _ (fun _ => hBx.out _ (hI.bel.trans hb9)) (fun hSb => ?_)
        clear hK K hSb
        try simp only [Act.put, List.setIfInBounds_toArray, List.set_cons_zero, List.set_cons_succ]
        exact IH .c2211 _ _ (by decide) ⟨t1, s1, t2, _, t3, s3, t4, s4, rfl, ⟨hI.bel.trans hb9, Nat.le_trans hI.le hg9.size, hI.r.kept hOw (by decide) hg9, ⟨a9, c9, rfl, hO9⟩, hI.s.kept hOw (by decide) hg9, hI.t.kept hOw (by decide) hg9⟩⟩
      exact AllReadyN.nil
    case c2200 =>
      refine wpAnyN_ready (fuel := 5) (listed := #[true, true, true, true, true, true, true, true, true, true, false, true, true, false, false, true, true, false, false, false]) (rs := [10, 14]) (by kernel_rfl) (by simp) ?_
      unfold C8.fr
      refine AllReadyN.app ?_ ?_
      · refine AllReadyN.cons (at_op rfl) (fun K hK => ?_) AllReadyN.nil
        go_simp
        have hb9 := hI.bel.alloc hI.le (.cells #[] 121)
        refine hK.out _ _ (fun _ => hBx.out _ hb9) (fun hSb => ?_)
        clear hK K hSb
        try simp only [Act.put, List.setIfInBounds_toArray, List.set_cons_zero, List.set_cons_succ]
        exact IH .c2210 _ _ (by decide) ⟨t1, s1, t2, s2, _, s3, t4, s4, rfl, ⟨hb9, Nat.le_trans hI.le (by simp), RowSt.alloc _ hI.r, RowSt.alloc _ hI.c, Own.empty spanF 121 B wv hI.le, RowSt.alloc _ hI.t⟩⟩
      refine AllReadyN.app ?_ ?_
      · refine AllReadyN.cons (at_op rfl) (fun K hK => ?_) AllReadyN.nil
        go_simp
        have hb9 := hI.bel.alloc hI.le (.cells #[] 101)
        refine hK.out _ _ (fun _ => hBx.out _ hb9) (fun hSb => ?_)
        clear hK K hSb
        try simp only [Act.put, List.setIfInBounds_toArray, List.set_cons_zero, List.set_cons_succ]
        exact IH .c2201 _ _ (by decide) ⟨t1, s1, t2, s2, t3, s3, _, s4, rfl, ⟨hb9, Nat.le_trans hI.le (by simp), RowSt.alloc _ hI.r, RowSt.alloc _ hI.c, RowSt.alloc _ hI.s, Own.empty tieF 101 B wv hI.le⟩⟩
      exact AllReadyN.nil
    case c2201 =>
      refine wpAnyN_ready (fuel := 4) (listed := #[true, true, true, true, true, true, true, true, true, true, false, true, true, false, true, true, true, false, false, false]) (rs := [10]) (by kernel_rfl) (by simp) ?_
      unfold C8.fr
      refine AllReadyN.app ?_ ?_
      · refine AllReadyN.cons (at_op rfl) (fun K hK => ?_) AllReadyN.nil
        go_simp
        have hb9 := hI.bel.alloc hI.le (.cells #[] 121)
        refine hK.out _ _ (fun _ => hBx.out _ hb9) (fun hSb => ?_)
        clear hK K hSb
        try simp only [Act.put, List.setIfInBounds_toArray, List.set_cons_zero, List.set_cons_succ]
        exact IH .c2211 _ _ (by decide) ⟨t1, s1, t2, s2, _, s3, t4, s4, rfl, ⟨hb9, Nat.le_trans hI.le (by simp), RowSt.alloc _ hI.r, RowSt.alloc _ hI.c, Own.empty spanF 121 B wv hI.le, RowSt.alloc _ hI.t⟩⟩
      exact AllReadyN.nil
    case c2210 =>
      refine wpAnyN_ready (fuel := 4) (listed := #[true, true, true, true, true, true, true, true, true, true, true, true, true, false, false, true, true, false, false, false]) (rs := [13, 14]) (by kernel_rfl) (by simp) ?_
      unfold C8.fr
      refine AllReadyN.app ?_ ?_
      · refine readyN_list (at_op rfl) (fun K hK => ?_)
        have hOw : Own spanF 121 B wv.heap.size wv t3 [] := hI.s
        refine wp_appAllgC (F := spanF) (xs := []) (ys := x.spans) (P := Try.prog) rfl (.tmp 13) (.tmp 15) 26 rfl Try.underlying26 hi2 hx0 hx1 hx2 rfl (by decide) rfl hOw rfl ((hp1.out.s).below hI.bel (by have := hB.out; omega)) (by simp only [List.length_nil]; omega) (by simp only [List.length_nil]; omega) hI.le ?_
        intro v9 w9 hO9 hb9 hg9
        replace hO9 : Own spanF 121 B w9.heap.size w9 v9 x.spans := hO9
        obtain ⟨a9, c9, rfl, -, -, -⟩ := hO9.form
        refine hK.out _ _ (fun _ => hBx.out _ (hI.bel.trans hb9)) (fun hSb => ?_)
        clear hK K hSb
        try simp only [Act.put, List.setIfInBounds_toArray, List.set_cons_zero, List.set_cons_succ]
        exact IH .c2220 _ _ (by decide) ⟨t1, s1, t2, s2, t3, _, t4, s4, rfl, ⟨hI.bel.trans hb9, Nat.le_trans hI.le hg9.size, hI.r.kept hOw (by decide) hg9, hI.c.kept hOw (by decide) hg9, ⟨a9, c9, rfl, hO9⟩, hI.t.kept hOw (by decide) hg9⟩⟩
      refine AllReadyN.app ?_ ?_
      · refine AllReadyN.cons (at_op rfl) (fun K hK => ?_) AllReadyN.nil
        go_simp
        have hb9 := hI.bel.alloc hI.le (.cells #[] 101)
        refine hK.out _ _ (fun _ => hBx.out _ hb9) (fun hSb => ?_)
        clear hK K hSb
        try simp only [Act.put, List.setIfInBounds_toArray, List.set_cons_zero, List.set_cons_succ]
        exact IH .c2211 _ _ (by decide) ⟨t1, s1, t2, s2, t3, s3, _, s4, rfl, ⟨hb9, Nat.le_trans hI.le (by simp), RowSt.alloc _ hI.r, RowSt.alloc _ hI.c, RowSt.alloc _ hI.s, Own.empty tieF 101 B wv hI.le⟩⟩
      exact AllReadyN.nil
    case c2211 =>
      refine wpAnyN_ready (fuel := 3) (listed := #[true, true, true, true, true, true, true, true, true, true, true, true, true, false, true, true, true, false, false, false]) (rs := [13]) (by kernel_rfl) (by simp) ?_
      unfold C8.fr
      refine AllReadyN.app ?_ ?_
      · refine readyN_list (at_op rfl) (fun K hK => ?_)
        have hOw : Own spanF 121 B wv.heap.size wv t3 [] := hI.s
        refine wp_appAllgC (F := spanF) (xs := []) (ys := x.spans) (P := Try.prog) rfl (.tmp 13) (.tmp 15) 26 rfl Try.underlying26 hi2 hx0 hx1 hx2 rfl (by decide) rfl hOw rfl ((hp1.out.s).below hI.bel (by have := hB.out; omega)) (by simp only [List.length_nil]; omega) (by simp only [List.length_nil]; omega) hI.le ?_
        intro v9 w9 hO9 hb9 hg9
        replace hO9 : Own spanF 121 B w9.heap.size w9 v9 x.spans := hO9
        obtain ⟨a9, c9, rfl, -, -, -⟩ := hO9.form
        refine hK.out _ _ (fun _ => hBx.out _ (hI.bel.trans hb9)) (fun hSb => ?_)
        clear hK K hSb
        try simp only [Act.put, List.setIfInBounds_toArray, List.set_cons_zero, List.set_cons_succ]
        exact IH .c2221 _ _ (by decide) ⟨t1, s1, t2, s2, t3, _, t4, s4, rfl, ⟨hI.bel.trans hb9, Nat.le_trans hI.le hg9.size, hI.r.kept hOw (by decide) hg9, hI.c.kept hOw (by decide) hg9, ⟨a9, c9, rfl, hO9⟩, hI.t.kept hOw (by decide) hg9⟩⟩
      exact AllReadyN.nil
    case c2220 =>
      refine wpAnyN_ready (fuel := 3) (listed := #[true, true, true, true, true, true, true, true, true, true, true, true, true, true, false, true, true, false, false, false]) (rs := [14]) (by kernel_rfl) (by simp) ?_
      unfold C8.fr
      refine AllReadyN.app ?_ ?_
      · refine AllReadyN.cons (at_op rfl) (fun K hK => ?_) AllReadyN.nil
        go_simp
        have hb9 := hI.bel.alloc hI.le (.cells #[] 101)
        refine hK.out _ _ (fun _ => hBx.out _ hb9) (fun hSb => ?_)
        clear hK K hSb
        try simp only [Act.put, List.setIfInBounds_toArray, List.set_cons_zero, List.set_cons_succ]
        exact IH .c2221 _ _ (by decide) ⟨t1, s1, t2, s2, t3, s3, _, s4, rfl, ⟨hb9, Nat.le_trans hI.le (by simp), RowSt.alloc _ hI.r, RowSt.alloc _ hI.c, RowSt.alloc _ hI.s, Own.empty tieF 101 B wv hI.le⟩⟩
      exact AllReadyN.nil
    case c2221 =>
      refine wpAnyN_ready (fuel := 2) (listed := #[true, true, true, true, true, true, true, true, true, true, true, true, true, true, true, true, true, false, false, false]) (rs := [17]) (by kernel_rfl) (by simp) ?_
      unfold C8.fr
      refine AllReadyN.app ?_ ?_
      · refine readyN_list (at_op rfl) (fun K hK => ?_)
        have hOw : Own tieF 101 B wv.heap.size wv t4 [] := hI.t
        refine wp_appAllgC (F := tieF) (xs := []) (ys := x.ties) (P := Try.prog) rfl (.tmp 17) (.tmp 19) 27 rfl Try.underlying27 hi3 hu0 hu1 hu2 rfl (by decide) rfl hOw rfl ((hp1.out.t).below hI.bel (by have := hB.out; omega)) (by simp only [List.length_nil]; omega) (by simp only [List.length_nil]; omega) hI.le ?_
        intro v9 w9 hO9 hb9 hg9
        replace hO9 : Own tieF 101 B w9.heap.size w9 v9 x.ties := hO9
        obtain ⟨a9, c9, rfl, -, -, -⟩ := hO9.form
        refine hK.out _ _ (fun _ => hBx.out _ (hI.bel.trans hb9)) (fun hSb => ?_)
        clear hK K hSb
        try simp only [Act.put, List.setIfInBounds_toArray, List.set_cons_zero, List.set_cons_succ]
        exact IH .c2222 _ _ (by decide) ⟨t1, s1, t2, s2, t3, s3, t4, _, rfl, ⟨hI.bel.trans hb9, Nat.le_trans hI.le hg9.size, hI.r.kept hOw (by decide) hg9, hI.c.kept hOw (by decide) hg9, hI.s.kept hOw (by decide) hg9, ⟨a9, c9, rfl, hO9⟩⟩⟩
      exact AllReadyN.nil
    case c2222 =>
      obtain ⟨b1, d1, rfl, o1⟩ := hI.r
      obtain ⟨b2, d2, rfl, o2⟩ := hI.c
      obtain ⟨b3, d3, rfl, o3⟩ := hI.s
      obtain ⟨b4, d4, rfl, o4⟩ := hI.t
      have hbel := hI.bel
      have hWv := (hbel.block (A + 1) (by have := hB.out; omega)).trans hW
      have hSb := hBx.out _ hbel
      clear hI IH hbx
      unfold C8.fr
      change wpAnyN _ _ _ _ _ _ 2 #[true, true, true, true, true, true, true, true, true, true, true, true, true, true, true, true, true, true, false, false] _ _
      refine wpAnyN_take (i := 18) (v := ?v11) (at_op rfl) (by kernel_rfl) (by kernel_rfl) (by kernel_rfl) (by kernel_rfl) (fun _ _ _ h => h) (Or.inl ⟨by rfl, ?y11⟩) (by assumption) ?r11
      case y11 =>
        intro wx hSx
        obtain ⟨p0, p1, p2, p3, p4⟩ := hSx.five
        go_simp
        try with_reducible rfl
      try simp only [Act.put, List.setIfInBounds_toArray, List.set_cons_zero, List.set_cons_succ]
      have z0 := cell_heap (j := 0) hWv rfl
      have z1 := cell_heap (j := 1) hWv rfl
      have z2 := cell_heap (j := 2) hWv rfl
      have z3 := cell_heap (j := 3) hWv rfl
      have z4 := cell_heap (j := 4) hWv rfl
      have f0 := frozen_heap (j := 0) hWv
      have f1 := frozen_heap (j := 1) hWv
      have f2 := frozen_heap (j := 2) hWv
      have f3 := frozen_heap (j := 3) hWv
      have f4 := frozen_heap (j := 4) hWv
      refine wpAnyN_ready (rs := [19]) (by kernel_rfl) (by simp) ?_
      refine AllReadyN.cons (at_op rfl) (fun K hK => ?_) AllReadyN.nil
      go_wp2_with fail
      refine hK.out _ _ (fun h => absurd rfl h) (fun _ => ?_)
      clear hK K
      try simp only [Act.put, List.setIfInBounds_toArray, List.set_cons_zero, List.set_cons_succ]
      refine wpAnyN_done (by kernel_rfl) ?_ _
      clear z0 z1 z2 z3 z4 f0 f1 f2 f3 f4 hSb
      change Exit.then _ _ _ _ (storeAll (A + 1) [.int .i64 x.indent, .slice b1 x.rules.length d1, .slice b2 x.chunks.length d2, .slice b3 x.spans.length d3, .slice b4 x.ties.length d4] 0 wv)
      have hE := stored5 hWv [.int .i64 x.indent, .slice b1 x.rules.length d1, .slice b2 x.chunks.length d2, .slice b3 x.spans.length d3, .slice b4 x.ties.length d4] rfl
      have hS := same_storeAllP (lo := B) (hi := wv.heap.size) (g := A + 1) (.inl (by have := hB.out; omega)) [.int .i64 x.indent, .slice b1 x.rules.length d1, .slice b2 x.chunks.length d2, .slice b3 x.spans.length d3, .slice b4 x.ties.length d4] 0 wv
      have hL : Below A w (storeAll (A + 1) [.int .i64 x.indent, .slice b1 x.rules.length d1, .slice b2 x.chunks.length d2, .slice b3 x.spans.length d3, .slice b4 x.ties.length d4] 0 wv) := blw_storeAll (hb1.trans (hbel.mono (by have := hB.out; omega))) (by omega) _ _
      have hz : (storeAll (A + 1) [.int .i64 x.indent, .slice b1 x.rules.length d1, .slice b2 x.chunks.length d2, .slice b3 x.spans.length d3, .slice b4 x.ties.length d4] 0 wv).heap.size = wv.heap.size := size_storeAll _ _ _ _
      have HO : POwn x b1 d1 b2 d2 b3 d3 b4 d4 w.heap.size (storeAll (A + 1) [.int .i64 x.indent, .slice b1 x.rules.length d1, .slice b2 x.chunks.length d2, .slice b3 x.spans.length d3, .slice b4 x.ties.length d4] 0 wv).heap.size (storeAll (A + 1) [.int .i64 x.indent, .slice b1 x.rules.length d1, .slice b2 x.chunks.length d2, .slice b3 x.spans.length d3, .slice b4 x.ties.length d4] 0 wv) := by
        rw [hz]
        have hlo : w.heap.size ≤ B := by have := hB.out; have := HAe.out; omega
        exact ⟨(o1.same hS).wide hlo (Nat.le_refl _), (o2.same hS).wide hlo (Nat.le_refl _), (o3.same hS).wide hlo (Nat.le_refl _), (o4.same hS).wide hlo (Nat.le_refl _)⟩
      replace hL := hL.mono (show w.heap.size ≤ A by have := HAe.out; omega)
      clear hz hS o1 o2 o3 o4 hWv hbel
      obtain ⟨q0, q1, q2, q3, q4⟩ := hE
      generalize storeAll (A + 1) [.int .i64 x.indent, .slice b1 x.rules.length d1, .slice b2 x.chunks.length d2, .slice b3 x.spans.length d3, .slice b4 x.ties.length d4] 0 wv = wf at *
      go_wp2
      refine bodyPost_ret (v := .agg #[.int .i64 x.indent, .slice b1 x.rules.length d1, .slice b2 x.chunks.length d2, .slice b3 x.spans.length d3, .slice b4 x.ties.length d4]) (by simp [results, Try.results109, go_sem, q0, q1, q2, q3, q4]) rfl ?_
      exact ⟨b1, d1, b2, d2, b3, d3, b4, d4, rfl, hL, HO⟩
end Go.Proofs.Ytllpgomloblfjaa
