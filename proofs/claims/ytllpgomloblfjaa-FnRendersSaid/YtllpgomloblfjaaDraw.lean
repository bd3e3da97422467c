/- The cursor that draws (spec.l01*): what it tells is within bounds; it turns its own block alone. -/
import Derived.Test.YtllpgomloblfjaaNest
import Derived.Test.YtllpgomloblfjaaHString
import Derived.Laws.Bits64b
import Derived.IntWalk
namespace Go.Proofs.Ytllpgomloblfjaa
open Go.RowKit
theorem and_255 (a : Int) : 0 ≤ bits .and .i64 a 255 ∧ bits .and .i64 a 255 ≤ 255 := by
  have h : bits .and .i64 a 255 = IntKind.i64.wrap ((BitVec.ofInt 64 a &&& BitVec.ofInt 64 255).toNat : Int) := rfl
  have hx : (BitVec.ofInt 64 a &&& BitVec.ofInt 64 255).toNat ≤ 255 := by
    rw [BitVec.toNat_and]
    exact Nat.le_trans Nat.and_le_right (by decide)
  rw [h, IntWalk.i64_in _ (by omega)]
  omega
theorem and_mask (a : Int) (m : Nat) (hm : m < 9223372036854775808) : 0 ≤ bits .and .i64 a m ∧ bits .and .i64 a m ≤ m := by
  have h : bits .and .i64 a m = IntKind.i64.wrap ((BitVec.ofInt 64 a &&& BitVec.ofInt 64 (m : Int)).toNat : Int) := rfl
  have hx : (BitVec.ofInt 64 a &&& BitVec.ofInt 64 (m : Int)).toNat ≤ m := by
    rw [BitVec.toNat_and]
    refine Nat.le_trans Nat.and_le_right ?_
    rw [BitVec.ofInt_natCast, BitVec.toNat_ofNat]
    exact Nat.mod_le _ _
  rw [h, IntWalk.i64_in _ (by omega)]
  omega
def bytF : Flat Int := ⟨1, fun x => [.int .u8 x], fun _ => rfl, fun x u h => by
  simp only [List.mem_cons, List.not_mem_nil, or_false] at h
  subst h; rfl⟩
def U8 (n : Int) : Prop := 0 ≤ n ∧ n ≤ 255
abbrev bytS : Shape Int := bytF.shape
theorem Rd.bytF {lo hi : Nat} {w : World} {v : Value} {xs : List Int} (h : Rd bytS lo hi w v xs) :
    ∃ a c, v = .slice a xs.length c ∧ xs.length ≤ c ∧ c ≤ maxLen ∧ (a = none → c = 0) ∧
      ∀ k (h : k < xs.length), ∃ b off, a = some ⟨b, off, none⟩ ∧ lo ≤ b ∧ b < hi ∧ w.cell? ⟨b, off + k, none⟩ = some (.int .u8 xs[k]) := by
  obtain ⟨a, c, h1, h2, h3, h4, h5⟩ := h
  refine ⟨a, c, h1, h2, h3, h4, fun k hk => ?_⟩
  obtain ⟨b, off, cs, e1, e2, e3, rfl, e5⟩ := h5 k hk
  have e : w.cell? ⟨b, off + k * 1 + 0, none⟩ = some (.int .u8 xs[k]) := e5 0 _ rfl
  rw [Nat.mul_one] at e
  exact ⟨b, off, e1, e2, e3, e⟩
theorem cell_heap0 {w : World} {b j : Nat} {c : Array Value} {T : TypeId} {v : Value} (h : w.heap[b]? = some (.cells c T)) (hj : c[j]? = some v) : w.cell? ⟨b, j, none⟩ = some v := by
  simp [World.cell?, h, hj]
theorem frozen_heap0 {w : World} {b j : Nat} {c : Array Value} {T : TypeId} (h : w.heap[b]? = some (.cells c T)) : w.frozen? ⟨b, j, none⟩ = false := by
  simp [World.frozen?, h]
/-- a cursor in block g over the bytes xs, which lie in blocks lo .. hi-1 -/
def Cur (g lo hi : Nat) (xs : List Int) (w : World) : Prop :=
  hi ≤ g ∧ g < w.heap.size ∧ (∀ x ∈ xs, U8 x) ∧ ∃ (sa : Option Addr) (sc i : Nat) (h : Int), I64 h ∧ i ≤ xs.length ∧ w.cell? ⟨g, 0, none⟩ = some (.slice sa xs.length sc) ∧ w.cell? ⟨g, 1, none⟩ = some (.int .i64 i) ∧ w.cell? ⟨g, 2, none⟩ = some (.int .i64 h) ∧
    w.frozen? ⟨g, 1, none⟩ = false ∧ w.frozen? ⟨g, 2, none⟩ = false ∧ Rd bytS lo hi w (.slice sa xs.length sc) xs
set_option maxHeartbeats 1000000 in
set_option maxRecDepth 100000 in
theorem l01Byte_any {g lo hi : Nat} {xs : List Int} {w : World} (hc : Cur g lo hi xs w) :
    Calls Try.prog 61 #[.pointer (some ⟨g, 0, none⟩)] w fun e w' => ∃ x : Int, e = .returned (.int .i64 x) ∧ U8 x ∧ Out g (g + 1) w w' ∧ Cur g lo hi xs w' := by
  obtain ⟨hg, hgs, hx, sa, sc, i, h, hh, hi1, c0, c1, c2, f1, f2, hr⟩ := hc
  have hl := hr.len_le
  go_enter Try.func61, Try.ntmps61
  go_wp2_with fail
  have hh1 : I64 (wrap64 (wrap64 (h * 6364136223846793005) + 1442695040888963407)) := by unfold I64 wrap64; omega
  generalize wrap64 (wrap64 (h * 6364136223846793005) + 1442695040888963407) = h1 at *
  have ne : ∀ {i j : Nat}, i ≠ j → (⟨g, i, none⟩ : Addr) ≠ ⟨g, j, none⟩ := fun h e => h (by injection e)
  have ho : Out g (g + 1) w (w.setCell ⟨g, 2, none⟩ (.int .i64 h1)) := (Out.refl _ _ _).setCell (p := ⟨g, 2, none⟩) (Nat.le_refl _) (Nat.lt_succ_self _) _
  have d0 : (w.setCell ⟨g, 2, none⟩ (.int .i64 h1)).cell? ⟨g, 0, none⟩ = some (.slice sa xs.length sc) := (World.cell?_setCell_other _ _ _ _ (ne (by decide))).trans c0
  have d1 : (w.setCell ⟨g, 2, none⟩ (.int .i64 h1)).cell? ⟨g, 1, none⟩ = some (.int .i64 i) := (World.cell?_setCell_other _ _ _ _ (ne (by decide))).trans c1
  have d2 : (w.setCell ⟨g, 2, none⟩ (.int .i64 h1)).cell? ⟨g, 2, none⟩ = some (.int .i64 h1) := World.cell?_setCell_same _ _ _ c2
  have e1 : (w.setCell ⟨g, 2, none⟩ (.int .i64 h1)).frozen? ⟨g, 1, none⟩ = false := by rw [World.frozen?_setCell]; exact f1
  have e2 : (w.setCell ⟨g, 2, none⟩ (.int .i64 h1)).frozen? ⟨g, 2, none⟩ = false := by rw [World.frozen?_setCell]; exact f2
  have hr2 : Rd bytS lo hi (w.setCell ⟨g, 2, none⟩ (.int .i64 h1)) (.slice sa xs.length sc) xs := hr.same (ho.same (by omega) (.inl hg))
  clear c0 c1 c2 f1 f2 hr hh
  generalize w.setCell ⟨g, 2, none⟩ (.int .i64 h1) = w2 at *
  go_quiet (fail)
  generalize hw : w2.drewN nq = w3
  replace d0 := cell_dn hw d0
  replace d1 := cell_dn hw d1
  replace d2 := cell_dn hw d2
  replace e1 := frozen_dn hw e1
  replace e2 := frozen_dn hw e2
  replace hr2 : Rd bytS lo hi w3 (.slice sa xs.length sc) xs := by subst hw; exact hr2
  replace ho : Out g (g + 1) w w3 := by subst hw; exact ho.drewN nq
  clear hw
  obtain ⟨x1, x2⟩ := and_255 (bits .xor .i64 (h1 / 8589934592) (h1 / 35184372088832))
  generalize bits .and .i64 (bits .xor .i64 (h1 / 8589934592) (h1 / 35184372088832)) 255 = x at *
  go_wp2_with fail
  by_cases hlt : i < xs.length
  · have hki : (i : Int) < (xs.length : Int) := by omega
    go_quiet (fail)
    go_wp2_with fail
    generalize hw : w3.drewN nq = w4
    replace d0 := cell_dn hw d0
    replace d1 := cell_dn hw d1
    replace d2 := cell_dn hw d2
    replace e1 := frozen_dn hw e1
    replace e2 := frozen_dn hw e2
    replace hr2 : Rd bytS lo hi w4 (.slice sa xs.length sc) xs := by subst hw; exact hr2
    replace ho : Out g (g + 1) w w4 := by subst hw; exact ho.drewN nq
    clear hw
    have hr4 := hr2
    obtain ⟨sa', sc', ea, k2, k3, k4, k5⟩ := hr2.bytF
    obtain ⟨rfl, _, rfl⟩ : sa = sa' ∧ xs.length = xs.length ∧ sc = sc' := by injection ea with e1 _ e2; exact ⟨e1, rfl, e2⟩
    clear ea hr2
    unfold maxLen at k3
    obtain ⟨b, off, rfl, hlo, hhi, q0⟩ := k5 i hlt
    have hxi : U8 xs[i] := hx _ (List.getElem_mem hlt)
    obtain ⟨y1, y2⟩ := hxi
    generalize xs[i] = y at *
    have z1 : IntKind.i64.wrap (x + y) = x + y := IntWalk.i64_in _ (by omega)
    have z2 : IntKind.i64.wrap y = y := IntWalk.i64_in _ (by omega)
    go_quiet (fail)
    clear z1 z2
    obtain ⟨x3, x4⟩ := and_255 (x + y)
    generalize bits .and .i64 (x + y) 255 = x' at *
    generalize hw : w4.drewN nq = w5
    replace d0 := cell_dn hw d0
    replace d1 := cell_dn hw d1
    replace d2 := cell_dn hw d2
    replace e1 := frozen_dn hw e1
    replace e2 := frozen_dn hw e2
    replace hr4 : Rd bytS lo hi w5 (.slice (some ⟨b, off, none⟩) xs.length sc) xs := by subst hw; exact hr4
    replace ho : Out g (g + 1) w w5 := by subst hw; exact ho.drewN nq
    clear hw k5 q0
    go_wp2
    go_ret
    have ho' := ho.setCell (p := ⟨g, 1, none⟩) (Nat.le_refl _) (Nat.lt_succ_self _) (.int .i64 ((i : Int) + 1))
    have hos : Out g (g + 1) w5 (w5.setCell ⟨g, 1, none⟩ (.int .i64 ((i : Int) + 1))) := (Out.refl _ _ _).setCell (p := ⟨g, 1, none⟩) (Nat.le_refl _) (Nat.lt_succ_self _) _
    have hs5 := ho.size
    refine ⟨x', rfl, ⟨x3, x4⟩, ho', hg, Nat.lt_of_lt_of_le hgs ho'.size, hx, _, sc, i + 1, h1, hh1, hlt, (World.cell?_setCell_other _ _ _ _ (ne (by decide))).trans d0, ?_, (World.cell?_setCell_other _ _ _ _ (ne (by decide))).trans d2, by rw [World.frozen?_setCell]; exact e1, by rw [World.frozen?_setCell]; exact e2, hr4.same (hos.same (by omega) (.inl hg))⟩
    rw [World.cell?_setCell_same _ _ _ d1]
    rfl
  · have hki : ¬ (i : Int) < (xs.length : Int) := by omega
    have hkd : decide ((i : Int) < (xs.length : Int)) = false := decide_eq_false hki
    go_quiet (fail)
    go_wp2_with fail
    generalize hw : w3.drewN nq = w4
    replace d0 := cell_dn hw d0
    replace d1 := cell_dn hw d1
    replace d2 := cell_dn hw d2
    replace e1 := frozen_dn hw e1
    replace e2 := frozen_dn hw e2
    replace hr2 : Rd bytS lo hi w4 (.slice sa xs.length sc) xs := by subst hw; exact hr2
    replace ho : Out g (g + 1) w w4 := by subst hw; exact ho.drewN nq
    clear hw
    go_wp2
    go_ret
    exact ⟨x, rfl, ⟨x1, x2⟩, ho, hg, Nat.lt_of_lt_of_le hgs ho.size, hx, sa, sc, i, h1, hh1, hi1, d0, d1, d2, e1, e2, hr2⟩
set_option maxHeartbeats 1000000 in
set_option maxRecDepth 100000 in
/-- what is drawn below n, where n is at most 256 -/
theorem l01Below_any {g lo hi : Nat} {xs : List Int} {w : World} {n : Int} (hc : Cur g lo hi xs w) (h1 : 1 ≤ n) (h2 : n ≤ 256) :
    Calls Try.prog 62 #[.pointer (some ⟨g, 0, none⟩), .int .i64 n] w fun e w' => ∃ x : Int, e = .returned (.int .i64 x) ∧ 0 ≤ x ∧ x < n ∧ Out g (g + 1) w w' ∧ Cur g lo hi xs w' := by
  go_enter Try.func62, Try.ntmps62
  go_wp2_with fail
  refine (l01Byte_any hc).mono ?_
  rintro e w1 ⟨x, rfl, ⟨x1, x2⟩, ho, hc1⟩
  have m1 := Int.emod_nonneg x (show n ≠ 0 by omega)
  have m2 := Int.emod_lt_of_pos x (show 0 < n by omega)
  go_wp2
  go_ret
  exact ⟨x % n, rfl, m1, m2, ho, hc1⟩
set_option maxHeartbeats 1000000 in
set_option maxRecDepth 100000 in
theorem l01Once_any {g lo hi : Nat} {xs : List Int} {w : World} {n : Int} (hc : Cur g lo hi xs w) (h1 : 1 ≤ n) (h2 : n ≤ 256) :
    Calls Try.prog 77 #[.pointer (some ⟨g, 0, none⟩), .int .i64 n] w fun e w' => ∃ b : Bool, e = .returned (.bool b) ∧ Out g (g + 1) w w' ∧ Cur g lo hi xs w' := by
  go_enter Try.func77, Try.ntmps77
  go_wp2_with fail
  refine (l01Below_any hc h1 h2).mono ?_
  rintro e w1 ⟨x, rfl, x1, x2, ho, hc1⟩
  go_wp2
  go_ret
  exact ⟨_, rfl, ho, hc1⟩
set_option maxHeartbeats 1000000 in
set_option maxRecDepth 100000 in
theorem l01Pick_any {g lo hi lo' hi' : Nat} {xs : List Int} {w : World} {v : Value} {ls : List ByteArray} (hc : Cur g lo hi xs w) (hr : Rd strF.shape lo' hi' w v ls) (hh : hi' ≤ w.heap.size) (hf : hi' ≤ g ∨ g + 1 ≤ lo') (h1 : 1 ≤ ls.length) (h2 : ls.length ≤ 256) :
    Calls Try.prog 96 #[.pointer (some ⟨g, 0, none⟩), v] w fun e w' => ∃ s : ByteArray, e = .returned (.string s) ∧ s ∈ ls ∧ Out g (g + 1) w w' ∧ Cur g lo hi xs w' := by
  have hr0 := hr
  obtain ⟨a, c, rfl, k2, k3, k4, k5⟩ := hr.strF
  unfold maxLen at k3
  go_enter Try.func96, Try.ntmps96
  go_wp2_with fail
  refine (l01Below_any hc (by omega) (by omega)).mono ?_
  rintro e w1 ⟨x, rfl, x1, x2, ho, hc1⟩
  obtain ⟨k, rfl⟩ := Int.eq_ofNat_of_zero_le x1
  have hk : k < ls.length := by omega
  obtain ⟨b, off, rfl, hlo, hhi, q0⟩ := k5 k hk
  have q1 : w1.cell? ⟨b, off + k, none⟩ = some (.string ls[k]) := (World.cell?_of_block (ho.same hh (hf.elim .inl .inr) b hlo hhi)).trans q0
  have hm : ls[k] ∈ ls := List.getElem_mem hk
  clear k5 q0
  generalize ls[k] = s at *
  go_wp2
  go_ret
  exact ⟨s, rfl, hm, ho, hc1⟩
set_option maxHeartbeats 1000000 in
set_option maxRecDepth 100000 in
theorem l01New_any {lo hi : Nat} {xs : List Int} {w : World} {v : Value} (hr : Rd bytS lo hi w v xs) (hh : hi ≤ w.heap.size) (hx : ∀ x ∈ xs, U8 x) (hl : xs.length ≤ 1048576) :
    Calls Try.prog 53 #[v] w fun e w' => e = .returned (.pointer (some ⟨w.heap.size, 0, none⟩)) ∧ Below w.heap.size w w' ∧ Cur w.heap.size lo hi xs w' ∧ w'.heap.size = w.heap.size + 1 := by
  have hr0 := hr
  obtain ⟨a, c, rfl, k2, k3, k4, k5⟩ := hr.bytF
  unfold maxLen at k3
  go_enter Try.func53, Try.ntmps53
  go_wp2
  go_loopw [3, 4] (fun hv i wr => ∃ (k : Nat) (h : Int), k ≤ xs.length ∧ i = .int .i64 k ∧ 0 ≤ h ∧ h ≤ 1073741823 ∧ hv = .int .i64 h ∧ w = wr) (fun _ i _ => xs.length - (intOf i).toNat)
  case atStart => exact ⟨0, _, Nat.zero_le _, rfl, by omega, by omega, rfl, rfl⟩
  case round =>
    obtain ⟨k, h, hk, rfl, h0, h1, rfl, rfl⟩ := hrel
    have fin : ∀ A : Obj, A = .cells #[.slice a xs.length c, .int .i64 0, .int .i64 h] 123 → Below w.heap.size w (w.alloc A) ∧ Cur w.heap.size lo hi xs (w.alloc A) ∧ (w.alloc A).heap.size = w.heap.size + 1 := by
      intro A hA
      have pA := heap_alloc_new w A
      have hb : Below w.heap.size w (w.alloc A) := (Below.refl _ _).alloc (Nat.le_refl _) _
      refine ⟨hb, ⟨hh, by simp, hx, a, c, 0, h, ?_, Nat.zero_le _, ?_, ?_, ?_, ?_, ?_, hr0.below hb hh⟩, by simp⟩
      · unfold I64; omega
      · exact cell_heap0 (pA.trans (congrArg some hA)) rfl
      · exact cell_heap0 (pA.trans (congrArg some hA)) rfl
      · exact cell_heap0 (pA.trans (congrArg some hA)) rfl
      · exact frozen_heap0 (pA.trans (congrArg some hA))
      · exact frozen_heap0 (pA.trans (congrArg some hA))
    by_cases hlt : k < xs.length
    · by_cases h4 : k < 4000
      · obtain ⟨b, off, rfl, hlo, hhi, q0⟩ := k5 k hlt
        obtain ⟨y1, y2⟩ := hx _ (List.getElem_mem hlt)
        generalize xs[k] = y at *
        obtain ⟨m1, m2⟩ := and_mask (h * 131 + y + 7) 1073741823 (by decide)
        have hk4 : decide ((k : Int) < 4000) = true := decide_eq_true (by omega)
        go_wp2
        go_roundw
        case rel => exact ⟨k + 1, _, by omega, by go_num, m1, m2, rfl, by trivial⟩
        case measure => simp [intOf]; omega
      · have hk4 : decide ((k : Int) < 4000) = false := decide_eq_false (by omega)
        go_wp2
        go_ret
        exact ⟨by trivial, fin _ rfl⟩
    · have hkd : decide ((k : Int) < (xs.length : Int)) = false := decide_eq_false (by omega)
      go_wp2
      go_ret
      exact ⟨by trivial, fin _ rfl⟩
end Go.Proofs.Ytllpgomloblfjaa
