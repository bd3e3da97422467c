/- markText: the mark's text is a function of the number alone. -/
import Derived.Test.YtoloplpmjcgbdaaGreatDoorBase
namespace Go.Proofs.YtoloplpmjcgbdaaGreatDoor
open Go.RowKit

def mdigF : Nat → Nat → List UInt8 → List UInt8
  | 0, _, acc => acc
  | f + 1, k, acc => if k = 0 then acc else mdigF f (k / 10) (UInt8.ofNat (48 + k % 10) :: acc)
/-- the text of mark k -/
def mt (k : Nat) : ByteArray := ⟨(109 :: mdigF k k []).toArray⟩
theorem mdigF_zero (f : Nat) (acc : List UInt8) : mdigF f 0 acc = acc := by cases f <;> simp [mdigF]
theorem mdigF_succ (f k : Nat) (acc : List UInt8) (h : k ≠ 0) : mdigF (f + 1) k acc = mdigF f (k / 10) (UInt8.ofNat (48 + k % 10) :: acc) := by
  show (if k = 0 then acc else _) = _
  rw [if_neg h]
theorem mdigF_more (f : Nat) : ∀ (k : Nat) (acc : List UInt8), k ≤ f → mdigF (f + 1) k acc = mdigF f k acc := by
  induction f with
  | zero => intro k acc h; obtain rfl : k = 0 := by omega
            simp [mdigF]
  | succ f ih =>
    intro k acc h
    by_cases hk : k = 0
    · subst hk; simp [mdigF]
    · rw [mdigF_succ _ _ _ hk, mdigF_succ _ _ _ hk]
      exact ih _ _ (by omega)
theorem mdigF_ge (f g k : Nat) (acc : List UInt8) (h : k ≤ f) : mdigF (f + g) k acc = mdigF f k acc := by
  induction g with
  | zero => rfl
  | succ g ih => rw [← Nat.add_assoc, mdigF_more _ _ _ (by omega), ih]
theorem mdigF_step (k : Nat) (acc : List UInt8) (h : 0 < k) : mdigF k k acc = mdigF (k / 10) (k / 10) (UInt8.ofNat (48 + k % 10) :: acc) := by
  obtain ⟨n, rfl⟩ : ∃ n, k = n + 1 := ⟨k - 1, by omega⟩
  rw [mdigF_succ _ _ _ (by omega)]
  have h1 := mdigF_ge ((n + 1) / 10) (n - (n + 1) / 10) ((n + 1) / 10) (UInt8.ofNat (48 + (n + 1) % 10) :: acc) (Nat.le_refl _)
  rw [show (n + 1) / 10 + (n - (n + 1) / 10) = n by omega] at h1
  exact h1

theorem run_conv_one {P : Program} (src dst e : TypeId) (hs : P.underlying src = some (.slice e)) (he : P.underlying e = some (.int .u8)) (hd : P.underlying dst = some .string) (w : World) (n : Int) (h0 : 0 ≤ n) (h1 : n ≤ 255) :
    (convert src dst (.slice (some ⟨w.heap.size, 0, none⟩) 1 1)).run P (w.alloc (.cells #[.int .u8 n] e)) = .ok (.string ⟨[UInt8.ofNat n.toNat].toArray⟩) (w.alloc (.cells #[.int .u8 n] e)) :=
  run_convert_bytes_back (w.alloc (.cells #[.int .u8 n] e)) src dst e ⟨w.heap.size, 0, none⟩ 1 [UInt8.ofNat n.toNat] hs he hd (fun j hj => by
    obtain rfl : j = 0 := by simpa using hj
    rw [Addr.add_lit, Nat.zero_add, World.cell?_alloc_at _ _ _ _ rfl]
    have : n = ((UInt8.ofNat n.toNat).toNat : Int) := by rw [UInt8.toNat_ofNat', Nat.mod_eq_of_lt (by omega)]; omega
    show some (Value.int .u8 n) = some (Value.int .u8 ((UInt8.ofNat n.toNat).toNat : Int))
    rw [← this])
set_option maxHeartbeats 400000 in
set_option maxRecDepth 100000 in
theorem markText_any (k : Nat) (w : World) (h1 : 1 ≤ k) (h2 : k ≤ 1099511627776) :
    Calls Tryz.prog 36 #[.int .i64 k] w fun e w' => e = .returned (.string (mt k)) ∧ Below w.heap.size w w' := by
  have hcv := fun (w : World) (j : Nat) => run_conv_one (P := Tryz.prog) 78 9 5 Tryz.underlying78 Tryz.underlying5 Tryz.underlying9 w (48 + (j : Int) % 10) (by omega) (by omega)
  have hk0 : decide (k = 0) = false := decide_eq_false (by omega)
  go_enter Tryz.func36, Tryz.ntmps36
  go_wp2
  go_loopw [0, 3] (fun n s wr => ∃ (j : Nat) (acc : List UInt8), n = .int .i64 j ∧ j ≤ k ∧ s = .string ⟨acc.toArray⟩ ∧ acc.length + j ≤ k ∧ mdigF j j acc = mdigF k k [] ∧ Below w.heap.size w wr) (fun n _ _ => (intOf n).toNat)
  case atStart => exact ⟨k, [], rfl, Nat.le_refl _, rfl, by simp, rfl, Below.refl _ _⟩
  case round =>
    obtain ⟨j, acc, rfl, hj, rfl, hlen, hm, hb⟩ := hrel
    have HM := Lib.hid hm
    clear hm
    by_cases hlt : 0 < j
    · go_wp2
      refine ⟨⟨j / 10, UInt8.ofNat (48 + j % 10) :: acc, by simp, by omega, ?_, by simp; omega, ?_, hb.alloc (by have := hb.size; omega) _⟩, by simp [intOf]; omega⟩
      · rw [ByteArray.mk_append_mk]
        simp [UInt8.ofNat_add]
      · rw [← HM.out, ← mdigF_step _ _ hlt]
    · obtain rfl : j = 0 := by omega
      have HM' := Lib.hid ((mdigF_zero _ _).symm.trans HM.out)
      go_wp2
      go_ret
      refine ⟨ret_str ?_, hb⟩
      rw [ByteArray.mk_append_mk, mt, ← HM'.out]
      simp
theorem markText_z (z : Int) (k : Nat) (hz : z = k) (w : World) (h1 : 1 ≤ k) (h2 : k ≤ 1099511627776) :
    Calls Tryz.prog 36 #[.int .i64 z] w fun e w' => e = .returned (.string (mt k)) ∧ Below w.heap.size w w' := by
  subst hz
  exact markText_any k w h1 h2
theorem keep1 {w w0 w' : World} {p : Addr} {u : Value} (h : w0.cell? p = some u ∧ Below w.heap.size w w0) (hb : Below w0.heap.size w0 w') : w'.cell? p = some u ∧ Below w.heap.size w w' :=
  ⟨(hb.cell (World.block_lt_of_cell? w0 p h.1)).trans h.1, h.2.trans (hb.mono h.2.size)⟩
end Go.Proofs.YtoloplpmjcgbdaaGreatDoor
