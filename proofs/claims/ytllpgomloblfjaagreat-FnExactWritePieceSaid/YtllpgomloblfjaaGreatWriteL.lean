/- What is written: the law's helpers for it. -/
import Derived.Test.YtllpgomloblfjaaGreatHString
import Derived.Test.YtllpgomloblfjaaGreatHeap
import Derived.Deep.Cut
namespace Go.Proofs.YtllpgomloblfjaaGreat
open Go.RowKit

theorem two_cL {w : World} {b : Nat} {v0 v1 : Value} {T : TypeId} (h : w.heap[b]? = some (.cells #[v0, v1] T)) : w.cell? ⟨b, 0, none⟩ = some v0 ∧ w.cell? ⟨b, 1, none⟩ = some v1 := ⟨cell_heap h rfl, cell_heap h rfl⟩
theorem two_new (w : World) (A B : Obj) : ((w.alloc A).alloc B).heap[w.heap.size]? = some A ∧ ((w.alloc A).alloc B).heap[w.heap.size + 1]? = some B := by
  refine ⟨blk ((Below.refl _ _).alloc (Nat.le_refl _) B) (heap_alloc_new w A), ?_⟩
  have h := heap_alloc_new (w.alloc A) B
  rwa [show (w.alloc A).heap.size = w.heap.size + 1 by simp] at h
set_option maxHeartbeats 1000000 in
set_option maxRecDepth 100000 in
theorem eqWritten_any (xs : List ByteArray) (s : Int) (a a' : Option Addr) (c c' lo hi lo' hi' : Nat) (w : World) (hr : Rd strF.shape lo hi w (.slice a xs.length c) xs) (hh : hi ≤ w.heap.size) (hr' : Rd strF.shape lo' hi' w (.slice a' xs.length c') xs) (hh' : hi' ≤ w.heap.size) :
    Calls Tryz.prog 9 #[.agg #[.slice a xs.length c, .int .i64 s], .agg #[.slice a' xs.length c', .int .i64 s]] w fun e w' => e = .returned (.bool true) ∧ Below w.heap.size w w' := by
  go_enter Tryz.func9, Tryz.ntmps9
  go_upto_region 1 with fail
  obtain ⟨hA, hB⟩ := two_new w (.cells #[.slice a xs.length c, .int .i64 s] 31) (.cells #[.slice a' xs.length c', .int .i64 s] 31)
  have hb0 : Below w.heap.size w ((w.alloc (.cells #[.slice a xs.length c, .int .i64 s] 31)).alloc (.cells #[.slice a' xs.length c', .int .i64 s] 31)) := ((Below.refl _ _).alloc (Nat.le_refl _) _).alloc (by simp) _
  generalize (w.alloc (.cells #[.slice a xs.length c, .int .i64 s] 31)).alloc (.cells #[.slice a' xs.length c', .int .i64 s] 31) = w0 at *
  obtain ⟨p0, p1⟩ := two_cL hA
  obtain ⟨q0, q1⟩ := two_cL hB
  have hs0 := hb0.size
  have HE := Lib.hid (eqStringS_any xs _ _ lo hi lo' hi' w0 (hr.below hb0 hh) (Nat.le_trans hh hs0) (hr'.below hb0 hh') (Nat.le_trans hh' hs0))
  go_wp2_with fail
  refine HE.out.mono ?_
  clear HE p0 p1 q0 q1
  rintro e w1 ⟨rfl, k1⟩
  obtain ⟨p0, p1⟩ := two_cL (blk k1 hA)
  obtain ⟨q0, q1⟩ := two_cL (blk k1 hB)
  have hb1 := hb0.trans (k1.mono hs0)
  go_wp2
  go_ret
  exact ⟨rfl, hb1⟩
set_option maxHeartbeats 1000000 in
set_option maxRecDepth 100000 in
theorem markWritten_one {xs : List ByteArray} {a : Option Addr} {c lo hi : Nat} {s : Int} {w : World} (h : Own strF 9 lo hi w (.slice a xs.length c) xs) (hh : hi ≤ w.heap.size) (hl : xs.length ≤ 2097152) :
    Calls Tryz.prog 12 #[.agg #[.slice a xs.length c, .int .i64 s], .int .i64 1] w fun e w' => e = .returned (.int .i64 ((1 + 1 * xs.length : Nat) : Int)) ∧ Out lo hi w w' ∧ Own strF 9 lo hi w' (.slice a xs.length c) (strMarks 1 xs.length) := by
  go_enter Tryz.func12, Tryz.ntmps12
  go_upto_region 1 with fail
  have hA := heap_alloc_new w (.cells #[.slice a xs.length c, .int .i64 s] 31)
  have hb0 : Below w.heap.size w (w.alloc (.cells #[.slice a xs.length c, .int .i64 s] 31)) := (Below.refl _ _).alloc (Nat.le_refl _) _
  generalize w.alloc (.cells #[.slice a xs.length c, .int .i64 s] 31) = w0 at *
  obtain ⟨p0, p1⟩ := two_cL hA
  have hs0 := hb0.size
  have HE := Lib.hid (markStringS_z 1 (z := 1) (by simp) (h.below hb0 hh) (by omega) hl (by omega) (by omega))
  have HW := Lib.hid hb0
  clear hA hb0
  go_wp2_with fail
  refine HE.out.mono ?_
  clear HE p0 p1
  rintro e w1 ⟨rfl, k1, hm⟩
  generalize hzz : 1 + 1 * xs.length = z at *
  go_wp2
  go_ret
  exact ⟨ret_int (by omega), (Out.of_below HW.out).trans k1, hm⟩
set_option maxHeartbeats 1000000 in
set_option maxRecDepth 100000 in
theorem heldWritten_one {n : Nat} {a : Option Addr} {c lo hi : Nat} {s : Int} {w : World} (h : Rd strF.shape lo hi w (.slice a n c) (strMarks 1 n)) (hh : hi ≤ w.heap.size) (hl : n ≤ 2097152) :
    Calls Tryz.prog 13 #[.agg #[.slice a n c, .int .i64 s], .int .i64 1] w fun e w' => e = .returned (.int .i64 ((1 + 1 * n : Nat) : Int)) ∧ Below w.heap.size w w' := by
  go_enter Tryz.func13, Tryz.ntmps13
  go_upto_region 1 with fail
  have hA := heap_alloc_new w (.cells #[.slice a n c, .int .i64 s] 31)
  have hb0 : Below w.heap.size w (w.alloc (.cells #[.slice a n c, .int .i64 s] 31)) := (Below.refl _ _).alloc (Nat.le_refl _) _
  generalize w.alloc (.cells #[.slice a n c, .int .i64 s] 31) = w0 at *
  obtain ⟨p0, p1⟩ := two_cL hA
  have hs0 := hb0.size
  have HE := Lib.hid (heldStringS_z 1 n (z := 1) (by simp) (h.below hb0 hh) (by omega) hl (by omega) (by omega))
  clear hA
  go_wp2_with fail
  refine HE.out.mono ?_
  clear HE p0 p1
  rintro e w1 ⟨rfl, k1⟩
  have hzn : ¬ ((1 + 1 * n : Nat) : Int) < 0 := by omega
  generalize hzz : 1 + 1 * n = z at *
  go_wp2
  go_ret
  exact ⟨ret_int (by omega), hb0.trans (k1.mono hs0)⟩
end Go.Proofs.YtllpgomloblfjaaGreat
