/- FreshName of both. -/
import Derived.Test.YtbgcifmhemldoaaDoorFreshP
import Derived.Test.YtbgcifmhemldoaaDoorNodeI
import Derived.Test.YtbgcifmhemldoaaDoorNodeS2
import Derived.Test.YtbgcifmhemldoaaDoorShelf2
import Derived.Test.YtbgcifmhemldoaaDoorDeepR
import Derived.Lib.ItoaMem
namespace Go.Proofs.YtbgcifmhemldoaaDoor
open Go.RowKit

theorem enter_go {P : Program} {f : FuncId} {fn : Func} {c : Code} (hf : P.funcs[f]? = some fn) (hname : (fn.name == "runtime.NumGoroutine") = false) (hb : fn.body = some c) (args : Array Value) (w : World) :
    Sem.run P (callFunc f args) w = .ok (.enter f args) w := by
  have h1 : fn.name ≠ "runtime.NumGoroutine" := by simpa using hname
  simp [callFunc, hf, h1, hb]
/-! The reference's Decimal -/
set_option maxHeartbeats 400000 in
set_option maxRecDepth 100000 in
theorem l01Figure_any (d : Nat) (h : d < 10) (w : World) : Calls Tryd.prog 40 #[.int .i64 d] w fun e w' => e = .returned (.int .u8 (48 + (d : Int))) ∧ w = w' := by
  have h1 : (d : Int) < 10 := by omega
  go_enter Tryd.func40, Tryd.ntmps40
  go_wp2
  go_ret
  exact ⟨rfl, rfl⟩
theorem decF_step {n d : Nat} {acc : List UInt8} (h : Lib.decDigits n = Lib.decDigits d ++ acc) : d / 10 = 0 ∧ Lib.decDigits n = UInt8.ofNat (48 + d % 10) :: acc ∨ d / 10 ≠ 0 ∧ Lib.decDigits n = Lib.decDigits (d / 10) ++ (UInt8.ofNat (48 + d % 10) :: acc) := by
  by_cases hs : d < 10
  · refine .inl ⟨by omega, ?_⟩
    rw [h, Lib.decDigits_one hs, show d % 10 = d by omega]; rfl
  · refine .inr ⟨by omega, ?_⟩
    rw [h, Lib.decDigits, dif_neg hs, List.append_assoc]; rfl
/-- what is left of the numeral, and what has been put down -/
def DecSt (n d : Nat) (acc : List UInt8) : Prop := (d ≠ 0 ∧ Lib.decDigits n = Lib.decDigits d ++ acc) ∨ (d = 0 ∧ Lib.decDigits n = acc)
theorem decSt_step {n d : Nat} {acc : List UInt8} (hd : d ≠ 0) (h : DecSt n d acc) : DecSt n (d / 10) (UInt8.ofNat (48 + d % 10) :: acc) := by
  rcases h with ⟨_, h⟩ | ⟨h0, _⟩
  · rcases decF_step h with ⟨a, b⟩ | ⟨a, b⟩
    · exact .inr ⟨a, b⟩
    · exact .inl ⟨a, b⟩
  · exact absurd h0 hd
theorem cons_app (b : UInt8) (acc : List UInt8) : (⟨[b].toArray⟩ : ByteArray) ++ ⟨acc.toArray⟩ = ⟨(b :: acc).toArray⟩ := by
  apply ByteArray.ext
  simp
set_option maxHeartbeats 1000000 in
set_option maxRecDepth 100000 in
theorem decimal_spec (n : Nat) (w : World) (h1 : 1 ≤ n) (h2 : n ≤ 4194304) : Calls Tryd.prog 17 #[.int .i64 n] w fun e w' => e = .returned (.string (decB n)) ∧ Below w.heap.size w w' := by
  have hcv : ∀ (w : World) (d : Nat), d < 10 → (convert 53 9 (.slice (some ⟨w.heap.size, 0, none⟩) 1 1)).run Tryd.prog (w.alloc (.cells #[.int .u8 (48 + (d : Int))] 5)) = .ok (.string ⟨[UInt8.ofNat (48 + d)].toArray⟩) (w.alloc (.cells #[.int .u8 (48 + (d : Int))] 5)) := fun w d h => by
    have e := run_conv_one (P := Tryd.prog) 53 9 5 Tryd.underlying53 Tryd.underlying5 Tryd.underlying9 w (48 + (d : Int)) (by omega) (by omega)
    rwa [show (48 + (d : Int)).toNat = 48 + d by omega] at e
  have HCV := Lib.hid hcv
  clear hcv
  have hn0 : ((n : Int) == 0) = false := beq_eq_false_iff_ne.2 (by omega)
  have hn1 : ¬ (n : Int) < 0 := by omega
  go_enter Tryd.func17, Tryd.ntmps17
  go_wp2
  go_loopw [0, 4] (fun m s wr => ∃ (d : Nat) (acc : List UInt8), m = .int .i64 d ∧ d ≤ n ∧ s = .string ⟨acc.toArray⟩ ∧ acc.length + d ≤ n ∧ Hid (DecSt n d acc) ∧ Below w.heap.size w wr) (fun m _ _ => (intOf m).toNat)
  case atStart => exact ⟨n, [], rfl, Nat.le_refl _, rfl, by simp, .inl ⟨by omega, by simp⟩, Below.refl _ _⟩
  case round =>
    obtain ⟨d, acc, rfl, hd, rfl, hlen, HS, hb⟩ := hrel
    have hsz := hb.size
    by_cases h0 : d = 0
    · subst h0
      have HE : Hid (decB n = ⟨acc.toArray⟩) := by
        rcases HS.out with ⟨a, _⟩ | ⟨_, a⟩
        · exact absurd rfl a
        · show decB n = _; unfold decB; rw [a]
      go_wp2
      go_ret
      exact ⟨by rw [HE.out]; rfl, hb⟩
    · have hd0 : ((d : Int) != 0) = true := by simpa using h0
      have HN := Lib.hid (decSt_step h0 HS.out)
      have hm : (d : Int) % 10 = ((d % 10 : Nat) : Int) := by omega
      have hm2 : (d : Int).tmod 10 = ((d % 10 : Nat) : Int) := by rw [Int.tmod_eq_emod_of_nonneg (by omega)]; omega
      have hq2 : (d : Int).tdiv 10 = ((d / 10 : Nat) : Int) := by rw [Int.tdiv_eq_ediv_of_nonneg (by omega)]; omega
      have hr10 : d % 10 < 10 := Nat.mod_lt _ (by decide)
      have hr0 : ¬ ((d % 10 : Nat) : Int) < 0 := by omega
      have hdq : d / 10 < d := by omega
      have hl2 : acc.length + 1 + d / 10 ≤ n := by omega
      have HD := Lib.hid hdq
      clear h0 hdq
      generalize d % 10 = r at *
      generalize d / 10 = q at *
      go_wp2_with fail
      refine (l01Figure_any r hr10 _).mono ?_
      rintro e w' ⟨rfl, rfl⟩
      have hc1 := HCV.out wr r hr10
      have HA := Lib.hid (cons_app (UInt8.ofNat (48 + r)) acc)
      have hbA := hb.alloc hsz (.cells #[.int .u8 (48 + (r : Int))] 5)
      go_wp2
      go_roundw
      case rel => exact ⟨q, UInt8.ofNat (48 + r) :: acc, rfl, by omega, (by rw [← HA.out]; simp), (by simp; omega), HN.out, hbA⟩
      case measure => have := HD.out; simp [intOf]; omega
theorem hasText_none {xs : List Node} {s : ByteArray} (h : ∀ i, i < xs.length → ((nd xs (i : Nat)).text.toList == s.toList) = false) : hasText xs s = false := by
  unfold hasText
  rw [List.any_eq_false]
  intro x hx
  obtain ⟨i, hi, rfl⟩ := List.mem_iff_getElem.1 hx
  have := h i hi
  rw [nd_at hi] at this
  rw [this]; decide
theorem hasText_some {xs : List Node} {s : ByteArray} {i : Nat} (hi : i < xs.length) (h : ((nd xs (i : Nat)).text.toList == s.toList) = true) : hasText xs s = true := by
  unfold hasText
  rw [List.any_eq_true]
  rw [nd_at hi] at h
  exact ⟨_, List.getElem_mem hi, h⟩
/-! The reference's FreshName -/
theorem anyT_succ {xs : List Node} {s : ByteArray} {k : Nat} (h : k < xs.length) : (xs.take (k + 1)).any (fun x => x.text.toList == s.toList) = ((xs.take k).any (fun x => x.text.toList == s.toList) || xs[k].text.toList == s.toList) := by
  rw [List.take_succ_eq_append_getElem h, List.any_append]; simp
theorem decLen : ∀ n u, u ≤ n → (Lib.decDigits u).length ≤ u + 1
  | 0, u, h => by
    obtain rfl : u = 0 := by omega
    rw [Lib.decDigits_one (by omega)]; simp
  | n + 1, u, h => by
    by_cases hs : u < 10
    · rw [Lib.decDigits_one hs]; simp
    · rw [Lib.decDigits, dif_neg hs, List.length_append]
      have := decLen n (u / 10) (by omega)
      simp
      omega
theorem candB_size (base : ByteArray) (j : Nat) (hj : j ≤ 4194304) : (candB base j).size ≤ base.size + 4194305 := by
  unfold candB
  split
  · omega
  · rw [ByteArray.size_append]
    have : (decB j).size ≤ 4194305 := by
      show (Lib.decDigits j).toArray.size ≤ _
      have := decLen j j (Nat.le_refl _)
      simp
      omega
    omega
set_option maxHeartbeats 2000000 in
set_option maxRecDepth 100000 in
theorem freshName_spec (xs : List Node) (v : Value) (lo hi : Nat) (base : ByteArray) (w : World) (hr : Rd nodeS lo hi w v xs) (hh : hi ≤ w.heap.size) (hb0 : base.size ≤ 1048576) (hl : xs.length ≤ 1048576) :
    Calls Tryd.prog 6 #[v, .string base] w fun e w' => e = .returned (.string (freshB xs base)) ∧ Below w.heap.size w w' := by
  obtain ⟨a, c, rfl⟩ := hr.sl
  obtain ⟨_, h2, h3⟩ := hr.lenEq
  have hxl : (xs.length : Int) ≤ 9223372036854775807 := by omega
  have HNO := Lib.hid (freshB_no (xs := xs) (base := base))
  have HAT := Lib.hid (fun j h => freshB_at (xs := xs) (base := base) (j := j) h)
  have HRM := Lib.hid (fun j => cand_room (xs := xs) (base := base) (j := j))
  have HSZ := Lib.hid (candB_size base)
  go_enter Tryd.func6, Tryd.ntmps6
  go_wp2_with fail
  refine (l05Name_any base _ (by omega)).mono ?_
  rintro e w' ⟨rfl, rfl⟩
  cases g1 : isNm base with
  | false =>
    have HF := Lib.hid (HNO.out (by rw [g1]; rfl))
    go_wp2
    go_ret
    exact ⟨by rw [HF.out]; rfl, Below.refl _ _⟩
  | true =>
    by_cases g2 : base.size ≤ 20
    · have hgt : ¬ (base.size : Int) > 20 := by omega
      have HY : Hid ((isNm base && decide (base.size ≤ 20)) = true) := by show _ = true; rw [g1, decide_eq_true g2]; rfl
      clear g1 g2
      go_wp2
      go_loopw [5] (fun n wr => ∃ j : Nat, 1 ≤ j ∧ j ≤ xs.length + 1 ∧ n = .int .i64 j ∧ Below w.heap.size w wr ∧ Hid (∀ i, 1 ≤ i → i < j → hasText xs (candB base i) = true)) (fun n _ => xs.length + 2 - (intOf n).toNat)
      case atStart => exact ⟨1, Nat.le_refl _, by omega, rfl, Below.refl _ _, fun i h1 h2 => by omega⟩
      case round =>
        obtain ⟨j, hj1, hj2, rfl, hb, HA⟩ := hrel
        have hsz := hb.size
        have hji : (j : Int) ≤ (xs.length : Int) + 1 := by omega
        have hrb := Lib.hid (fun w4 (h4 : Below w.heap.size w w4) => hr.below h4 hh)
        have HNS : Hid (hasText xs (candB base j) = (xs.take xs.length).any fun x => x.text.toList == (candB base j).toList) := by show _ = _; rw [List.take_length]; rfl
        have HST := Lib.hid (fun k (h : k < xs.length) => anyT_succ (s := candB base j) h)
        have HFJ := Lib.hid (HAT.out j HY.out hj1 HA.out)
        have HUP : Hid (hasText xs (candB base j) = true → Hid (∀ i, 1 ≤ i → i < j + 1 → hasText xs (candB base i) = true) ∧ j + 1 ≤ xs.length + 1) := fun h => by
          have h2 : ∀ i, 1 ≤ i → i < j + 1 → hasText xs (candB base i) = true := fun i a b => by
            by_cases e : i = j
            · subst e; exact h
            · exact HA.out i a (by omega)
          exact ⟨h2, HRM.out (j + 1) h2⟩
        by_cases hj : j = 1
        · have hjg : ¬ (j : Int) > 1 := by omega
          have HC : Hid (candB base j = base) := by subst hj; rfl
          rw [HC.out] at HNS HST HFJ HUP
          obtain ⟨w5, rfl⟩ : ∃ w5, w5 = wr := ⟨_, rfl⟩
          have HB5 := Lib.hid hb
          have HR5 := Lib.hid (hrb.out w5 hb)
          clear hb hj
          go_wp2
          clear hjg
          go_wp2
          go_loopw [7, 8] (fun hs i wr => ∃ (k : Nat), k ≤ xs.length ∧ i = .int .i64 k ∧ hs = .bool ((xs.take k).any fun x => x.text.toList == base.toList) ∧ w5 = wr) (fun _ i _ => xs.length - (intOf i).toNat)
          case atStart => exact ⟨0, Nat.zero_le _, rfl, rfl, rfl⟩
          case round =>
            obtain ⟨k, hk, rfl, rfl, rfl⟩ := hrel
            by_cases hlt : k < xs.length
            · have hki : (k : Int) < (xs.length : Int) := by omega
              have hkz : (0 : Int) ≤ (k : Int) := by omega
              obtain ⟨b, off, xa, xc, eb, _, hbb, p0, p1, p2, p3, hk⟩ := rd_nodeAt HR5.out hlt
              subst eb
              have HS2 := Lib.hid (HST.out k hlt)
              generalize xs[k].text = tx at *
              clear p0 p2 p3
              obtain ⟨bq, hbq⟩ : ∃ bq, Hid ((xs.take k).any (fun x => x.text.toList == base.toList) = bq) := ⟨_, rfl⟩
              obtain ⟨be, hbe⟩ : ∃ be, (tx.toList == base.toList) = be := ⟨_, rfl⟩
              rw [hbq.out, hbe] at HS2
              rw [hbq.out]
              cases bq with
              | true =>
                go_wp2
                go_round
                case rel => exact ⟨k + 1, by omega, by go_num, by rw [HS2.out]; rfl, by trivial⟩
                case measure => simp [intOf]; omega
              | false =>
                cases be with
                | true =>
                  go_wp2
                  go_round
                  case rel => exact ⟨k + 1, by omega, by go_num, by rw [HS2.out]; rfl, by trivial⟩
                  case measure => simp [intOf]; omega
                | false =>
                  go_wp2
                  go_round
                  case rel => exact ⟨k + 1, by omega, by go_num, by rw [HS2.out]; rfl, by trivial⟩
                  case measure => simp [intOf]; omega
            · have hki : ¬ (k : Int) < (xs.length : Int) := by omega
              obtain rfl : k = xs.length := by omega
              obtain ⟨bq, hbq⟩ : ∃ bq, Hid ((xs.take xs.length).any (fun x => x.text.toList == base.toList) = bq) := ⟨_, rfl⟩
              rw [hbq.out]
              have HQ := Lib.hid (HNS.out.trans hbq.out)
              cases bq with
              | true =>
                have HU := Lib.hid (HUP.out HQ.out)
                go_wp2
                go_roundw
                case rel => exact ⟨j + 1, by omega, HU.out.2, by go_num, HB5.out, HU.out.1.out⟩
                case measure => have := HU.out.2; simp [intOf]; omega
              | false =>
                have HU := Lib.hid (HFJ.out HQ.out)
                go_wp2
                go_ret
                exact ⟨by rw [HU.out]; rfl, HB5.out⟩
        · have hjg : (j : Int) > 1 := by omega
          have HC : Hid (candB base j = base ++ decB j) := candB_more (by omega)
          have hcs := HSZ.out j (by omega)
          rw [HC.out] at hcs
          rw [ByteArray.size_append] at hcs
          go_wp2_with fail
          refine (decimal_spec j _ hj1 (by omega)).mono ?_
          rintro e w5 ⟨rfl, hb5⟩
          have HB5 := Lib.hid (hb.trans (hb5.mono hsz))
          have HR5 := Lib.hid (hrb.out w5 HB5.out)
          have HC2 := Lib.hid HC.out.symm
          go_wp2
          rw [HC2.out]
          generalize candB base j = nm at *
          go_wp2
          go_loopw [7, 8] (fun hs i wr => ∃ (k : Nat), k ≤ xs.length ∧ i = .int .i64 k ∧ hs = .bool ((xs.take k).any fun x => x.text.toList == nm.toList) ∧ w5 = wr) (fun _ i _ => xs.length - (intOf i).toNat)
          case atStart => exact ⟨0, Nat.zero_le _, rfl, rfl, rfl⟩
          case round =>
            obtain ⟨k, hk, rfl, rfl, rfl⟩ := hrel
            by_cases hlt : k < xs.length
            · have hki : (k : Int) < (xs.length : Int) := by omega
              have hkz : (0 : Int) ≤ (k : Int) := by omega
              obtain ⟨b, off, xa, xc, eb, _, hbb, p0, p1, p2, p3, hk⟩ := rd_nodeAt HR5.out hlt
              subst eb
              have HS2 := Lib.hid (HST.out k hlt)
              generalize xs[k].text = tx at *
              clear p0 p2 p3
              obtain ⟨bq, hbq⟩ : ∃ bq, Hid ((xs.take k).any (fun x => x.text.toList == nm.toList) = bq) := ⟨_, rfl⟩
              obtain ⟨be, hbe⟩ : ∃ be, (tx.toList == nm.toList) = be := ⟨_, rfl⟩
              rw [hbq.out, hbe] at HS2
              rw [hbq.out]
              cases bq with
              | true =>
                go_wp2
                go_round
                case rel => exact ⟨k + 1, by omega, by go_num, by rw [HS2.out]; rfl, by trivial⟩
                case measure => simp [intOf]; omega
              | false =>
                cases be with
                | true =>
                  go_wp2
                  go_round
                  case rel => exact ⟨k + 1, by omega, by go_num, by rw [HS2.out]; rfl, by trivial⟩
                  case measure => simp [intOf]; omega
                | false =>
                  go_wp2
                  go_round
                  case rel => exact ⟨k + 1, by omega, by go_num, by rw [HS2.out]; rfl, by trivial⟩
                  case measure => simp [intOf]; omega
            · have hki : ¬ (k : Int) < (xs.length : Int) := by omega
              obtain rfl : k = xs.length := by omega
              obtain ⟨bq, hbq⟩ : ∃ bq, Hid ((xs.take xs.length).any (fun x => x.text.toList == nm.toList) = bq) := ⟨_, rfl⟩
              rw [hbq.out]
              have HQ := Lib.hid (HNS.out.trans hbq.out)
              cases bq with
              | true =>
                have HU := Lib.hid (HUP.out HQ.out)
                go_wp2
                go_roundw
                case rel => exact ⟨j + 1, by omega, HU.out.2, by go_num, HB5.out, HU.out.1.out⟩
                case measure => have := HU.out.2; simp [intOf]; omega
              | false =>
                have HU := Lib.hid (HFJ.out HQ.out)
                go_wp2
                go_ret
                exact ⟨by rw [HU.out]; rfl, HB5.out⟩
    · have hgt : (base.size : Int) > 20 := by omega
      have HF := Lib.hid (HNO.out (by rw [decide_eq_false g2, Bool.and_false]))
      clear g1
      go_wp2
      go_ret
      exact ⟨by rw [HF.out]; rfl, Below.refl _ _⟩
end Go.Proofs.YtbgcifmhemldoaaDoor
