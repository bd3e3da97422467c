/- FnExactBytes: for every string the program's Bytes answers what the reference's does (both count the bytes that are neither a blank nor a line's end), and the string reads as it did. No condition. -/
import Derived.Test.YthfeochekadhcaaRows
import Derived.Test.YthfeochekadhcaaMem
import Derived.Test.YthfeochekadhcaaOpen
namespace Go.Proofs.Ythfeochekadhcaa
open Go.ChangeShapes Go.WideShapes Go.ChangeAt Go.RowKit
open Go.ChangeMaps (open_string shut_string)

def inkB (c : UInt8) : Bool := (c != 32) && (c != 10)
def ink (l : List UInt8) : Nat := (l.filter inkB).length
theorem ink_le (l : List UInt8) : ink l ≤ l.length := List.length_filter_le _ _
theorem take_snocB (s : ByteArray) (k : Nat) (h : k < s.size) : s.data.toList.take (k + 1) = s.data.toList.take k ++ [s[k]] := by
  rw [List.take_succ_eq_append_getElem (by simpa using h)]; rfl
theorem ink_snoc (l : List UInt8) (c : UInt8) : ink (l ++ [c]) = ink l + if inkB c then 1 else 0 := by
  unfold ink
  rw [List.filter_append]
  by_cases h : inkB c <;> simp [h]

theorem ink_no1 (c : UInt8) (h : (c.toNat : Int) = 32) : ¬ inkB c = true := by
  have : c = 32 := by apply UInt8.toNat_inj.1; simp; omega
  subst this; decide
theorem ink_iff (c : UInt8) : inkB c = true ↔ ((((c.toNat : Int) != 32) = true) ∧ (((c.toNat : Int) != 10) = true)) := by
  have e1 : c = 32 ↔ (c.toNat : Int) = 32 := by rw [← UInt8.toNat_inj]; simp; omega
  have e2 : c = 10 ↔ (c.toNat : Int) = 10 := by rw [← UInt8.toNat_inj]; simp; omega
  simp [inkB, e1, e2]
theorem ink_yes (c : UInt8) (h : (((c.toNat : Int) != 32) = true) ∧ (((c.toNat : Int) != 10) = true)) : inkB c = true := (ink_iff c).2 h
theorem ink_no2 (c : UInt8) (h : (((c.toNat : Int) != 32) = false) ∨ (((c.toNat : Int) != 10) = false)) : ¬ inkB c = true := by
  rw [ink_iff]; rintro ⟨a, b⟩; rcases h with h | h <;> simp_all
set_option maxHeartbeats 400000 in
theorem bytes_impl (s : ByteArray) (w : World) (hs : s.size ≤ maxLen) :
    Calls Try.prog 16 #[.string s] w fun e w' => e = .returned (.int .i64 (ink s.data.toList)) ∧ w = w' := by
  unfold maxLen at hs
  go_enter Try.func16, Try.ntmps16
  go_wp2
  go_loop [3, 4] (fun n i => ∃ k : Nat, k ≤ s.size ∧ i = .int .i64 k ∧ n = .int .i64 (ink (s.data.toList.take k))) (fun _ i => s.size - (intOf i).toNat)
  case atStart => exact ⟨0, Nat.zero_le _, rfl, rfl⟩
  case round =>
    obtain ⟨k, hk, rfl, rfl⟩ := hrel
    have hd := ink_le (s.data.toList.take k)
    have hl : (s.data.toList.take k).length ≤ k := List.length_take_le _ _
    by_cases hlt : k < s.size
    · have HS : Hid (ink (s.data.toList.take (k + 1)) = ink (s.data.toList.take k) + if inkB s[k] then 1 else 0) := by
        rw [take_snocB s k hlt]; exact ink_snoc _ _
      go_wp2
      · refine ⟨⟨k + 1, by omega, by go_num, ?_⟩, by simp [intOf]; omega⟩
        rw [HS.out, if_neg (ink_no1 _ (by assumption))]; go_num
      · refine ⟨⟨k + 1, by omega, by go_num, ?_⟩, by simp [intOf]; omega⟩
        rw [HS.out, if_pos (ink_yes _ (by assumption))]; go_num
      · refine ⟨⟨k + 1, by omega, by go_num, ?_⟩, by simp [intOf]; omega⟩
        rw [HS.out, if_neg (ink_no2 _ (by assumption))]; go_num
    · have hkk : k = s.size := by omega
      have HS : Hid (s.data.toList.take k = s.data.toList) := List.take_of_length_le (by simp; omega)
      clear hkk
      go_wp2
      go_ret
      exact ⟨ret_int (by rw [HS.out]), rfl⟩
set_option maxHeartbeats 400000 in
theorem bytes_spec (s : ByteArray) (w : World) (hs : s.size ≤ maxLen) :
    Calls Try.prog 15 #[.string s] w fun e w' => e = .returned (.int .i64 (ink s.data.toList)) ∧ w = w' := by
  unfold maxLen at hs
  go_enter Try.func15, Try.ntmps15
  go_wp2
  go_loop [3, 4] (fun n i => ∃ k : Nat, k ≤ s.size ∧ i = .int .i64 k ∧ n = .int .i64 (ink (s.data.toList.take k))) (fun _ i => s.size - (intOf i).toNat)
  case atStart => exact ⟨0, Nat.zero_le _, rfl, rfl⟩
  case round =>
    obtain ⟨k, hk, rfl, rfl⟩ := hrel
    have hd := ink_le (s.data.toList.take k)
    have hl : (s.data.toList.take k).length ≤ k := List.length_take_le _ _
    by_cases hlt : k < s.size
    · have HS : Hid (ink (s.data.toList.take (k + 1)) = ink (s.data.toList.take k) + if inkB s[k] then 1 else 0) := by
        rw [take_snocB s k hlt]; exact ink_snoc _ _
      go_wp2
      · refine ⟨⟨k + 1, by omega, by go_num, ?_⟩, by simp [intOf]; omega⟩
        rw [HS.out, if_neg (ink_no1 _ (by assumption))]; go_num
      · refine ⟨⟨k + 1, by omega, by go_num, ?_⟩, by simp [intOf]; omega⟩
        rw [HS.out, if_pos (ink_yes _ (by assumption))]; go_num
      · refine ⟨⟨k + 1, by omega, by go_num, ?_⟩, by simp [intOf]; omega⟩
        rw [HS.out, if_neg (ink_no2 _ (by assumption))]; go_num
    · have hkk : k = s.size := by omega
      have HS : Hid (s.data.toList.take k = s.data.toList) := List.take_of_length_le (by simp; omega)
      clear hkk
      go_wp2
      go_ret
      exact ⟨ret_int (by rw [HS.out]), rfl⟩

set_option maxHeartbeats 400000 in
theorem law_any (s : ByteArray) (w : World) (hs : s.size ≤ maxLen) :
    Calls Try.prog 3 #[.string s] w fun e w' => e = .returned (.bool true) ∧ w = w' := by
  have hs' := hs
  unfold maxLen at hs
  have hd := ink_le s.data.toList
  by_cases hb : 1048576 < s.size
  · go_enter Try.func3, Try.ntmps3
    go_wp2
    go_ret
    exact ⟨rfl, rfl⟩
  · go_enter Try.func3, Try.ntmps3
    go_wp2_with (first | (go_at_call 15; refine (bytes_spec _ _ hs').mono ?_; rintro e w' ⟨rfl, rfl⟩) | (go_at_call 16; refine (bytes_impl _ _ hs').mono ?_; rintro e w' ⟨rfl, rfl⟩))
    go_ret
    exact ⟨rfl, rfl⟩


set_option maxRecDepth 100000 in
theorem fnExactBytes_lifted (os : Os) (started : os.Started) (H : Type) (enc : TypeId × Value → H) :
    ReturnsInHanded {} Try.checked os 3 .any (Rows.fnExactBytesSpec.pre6 enc Try.prog Try.f3 Rows.fnExactBytesRow.domain false) (Rows.fnExactBytesSpec.post enc Try.prog Try.f3 false true false false) := by
  refine returnsInHanded_of_change (C := Try.checked) Try.own started (by kernel_rfl) Try.func3
    (ChangeSpec.witness6 (enc := enc) (C := Try.checked) false ⟨#[], #[.string ByteArray.empty], []⟩ 8 (by kernel_rfl) (by kernel_rfl) (by kernel_rfl) (by kernel_rfl)) ?_
  intro W base args ds gs before hval0 hW _ _
  have hval : ∀ (j : Nat) t v, Try.f3.params[j]? = some t → args[j]? = some v → Value.okWide Try.prog W .any base t v := hval0
  have hW' := hW
  obtain ⟨p, q, hA0, hV, rfl, hfz, hnd⟩ := hW
  have hA : DataW.TrodAll enc Try.prog W 0 (fun _ => true) true Try.f3.params.toList args.toList ds p := hA0
  rw [Try.params3] at hA hval
  obtain ⟨v0, vs0, d0, ds0, p0, q0, hargs, rfl, rfl, h0, r0⟩ := trodAll_cons hA
  obtain ⟨rfl, rfl, rfl⟩ := trodAll_nil r0
  obtain rfl : args = #[v0] := by cases args; simp_all
  obtain ⟨rfl, rfl⟩ := trodVars_none hV
  obtain ⟨a, rfl, _, _, wa⟩ := open_string Try.underlying9 (hval 0 9 v0 rfl rfl) h0
  refine (law_any a W wa).mono fun e W' ⟨he, hw⟩ => ?_
  subst he; subst hw
  exact ⟨_, rfl, law_post Try.laidOut (by intro t ht; rw [Try.params3] at ht; simp at ht; subst ht; exact ⟨by kernel_rfl, of_decide_eq_true (by kernel_rfl)⟩) hW' rfl rfl Try.underlying4 rfl rfl rfl (Below.refl _ _)⟩

theorem fnExactBytes_holds : Rows.FnExactBytesSaid :=
  OpenClaim.holds_of_wide 3 Try.f3 rfl rfl rfl rfl rfl rfl rfl ⟨rfl, rfl, rfl, rfl, rfl⟩ rfl rfl rfl rfl rfl (by kernel_rfl) Try.func3 (by kernel_rfl)
    (of_decide_eq_true (by kernel_rfl)) (by unfold Func.isWrapper; rw [if_neg (of_decide_eq_false (by kernel_rfl))]; exact ⟨rfl, rfl⟩)
    (fun os started H enc _ => fnExactBytes_lifted os started H enc)
#print axioms fnExactBytes_holds

end Go.Proofs.Ythfeochekadhcaa
