/- SignsOf of the program and of the reference. -/
import Derived.Test.YtglcndihhlmogaaDoorSignSs
import Derived.Test.YtglcndihhlmogaaDoorSignI3
import Derived.Test.YtglcndihhlmogaaDoorApp
namespace Go.Proofs.YtglcndihhlmogaaDoor
open Go.RowKit

theorem Tryd.infoSign : (Tryd.prog.info? 34).map (fun i => (i.zero, i.size, i.bytes)) = some (some (.agg #[.int .i64 0, .string ByteArray.empty, .int .i64 0, .bool false]), 4, 40) := by kernel_rfl
theorem u8_is (c : UInt8) (n : Nat) (hn : n < 256) : ((c.toNat : Int) == (n : Int)) = true → c = UInt8.ofNat n := by
  intro h
  apply UInt8.toNat_inj.1
  have := eq_of_beq h
  rw [UInt8.toNat_ofNat', Nat.mod_eq_of_lt (by omega)]
  omega
theorem u8_isnt (c : UInt8) (n : Nat) (hn : n < 256) : ((c.toNat : Int) == (n : Int)) = false → ¬ c = UInt8.ofNat n := by
  intro h e
  rw [e, UInt8.toNat_ofNat', Nat.mod_eq_of_lt (by omega)] at h
  simp at h
/-- what SignsOf answers: signs of its own, or none -/
def SignsRet (t : ByteArray) (B : Nat) (w' : World) (e : Ending) : Prop := ∃ (u : Value) (q : Int) (ok : Bool), e = .returned (.tuple #[u, .int .i64 q, .bool ok]) ∧ Own signF 34 B w'.heap.size w' u (signsL t) ∧ (ok = false → signsL t = [])
theorem signsL_big {t : ByteArray} (h : 3000 < t.size) : signsL t = [] := by unfold signsL signsB; rw [if_pos h]; rfl
theorem signsL_of {t : ByteArray} (h : ¬ 3000 < t.size) {r : Option (List Sign)} (hr : scan t 0 0 [] = r) : signsL t = r.getD [] := by unfold signsL signsB; rw [if_neg h, hr]
theorem results_tmp3 {fn : Func} {t u v : Tmp} (h : fn.results = #[.tmp t, .tmp u, .tmp v]) (tmps : Array Value) (P : Program) (w : World) :
    (results fn tmps).run P w = .ok (.tuple #[tmps.getD t undef, tmps.getD u undef, tmps.getD v undef]) w := by
  simp [results, h]
set_option maxHeartbeats 4000000 in
set_option maxRecDepth 100000 in
theorem signsOf_impl (t : ByteArray) (w : World) (hs : t.size ≤ 1073741824) :
    Calls Tryd.prog 14 #[.string t] w fun e w' => SignsRet t w.heap.size w' e ∧ Below w.heap.size w w' := by
  obtain ⟨i0, hi0, hz0, hz1, hz2⟩ := info_parts Tryd.infoSign
  obtain ⟨B, HB⟩ : ∃ B, Hid (B = w.heap.size) := ⟨_, rfl⟩
  have hBw : B ≤ w.heap.size := Nat.le_of_eq HB.out
  have hBw' : w.heap.size ≤ B := Nat.le_of_eq HB.out.symm
  go_enter Tryd.func14, Tryd.ntmps14
  by_cases hbig : 3000 < t.size
  · have hbi : (3000 : Int) < (t.size : Int) := by omega
    have HF := Lib.hid (signsL_big hbig)
    go_wp2
    refine bodyPost_ret (results_tmp3 rfl _ _ _) rfl ?_
    refine ⟨⟨_, _, _, rfl, ?_, fun _ => HF.out⟩, Below.refl _ _⟩
    rw [HF.out]
    exact Own.nil _ _ _ _ _
  · have hbi : ¬ (3000 : Int) < (t.size : Int) := by omega
    have HL := Lib.hid (fun r h => signsL_of (t := t) hbig (r := r) h)
    go_wp2
    go_loopw [5, 6, 7] (fun out b i wr => ∃ (a br : Nat) (ls : List Sign), a ≤ t.size ∧ i = .int .i64 a ∧ b = .int .i64 br ∧ br ≤ a ∧ ls.length ≤ a ∧ Hid (scan t 0 0 [] = scan t a br ls) ∧ Below B w wr ∧ Own signF 34 B wr.heap.size wr out ls) (fun _ _ i _ => t.size - (intOf i).toNat)
    case atStart => exact ⟨0, 0, [], Nat.zero_le _, rfl, rfl, Nat.le_refl _, Nat.le_refl _, rfl, Below.refl _ _, Own.nil _ _ _ _ _⟩
    case round =>
      obtain ⟨a, br, ls, ha, rfl, rfl, hbr, hll, HS, hb, hO⟩ := hrel
      have hsz := hb.size
      by_cases hlt : a < t.size
      · have hki : (a : Int) < (t.size : Int) := by omega
        have hkz : (0 : Int) ≤ (a : Int) := by omega
        have HB32 := Lib.hid (fun h : t[a] = 32 => scan_blank (br := br) (out := ls) hlt h)
        have HB10 := Lib.hid (fun h : t[a] = 10 => scan_line (br := br) (out := ls) hlt h)
        have HBN := Lib.hid (fun (h1 : ¬ t[a] = 32) (h2 : ¬ t[a] = 10) => scan_none (br := br) (out := ls) hlt h1 h2)
        have HBS := Lib.hid (fun (h1 : ¬ t[a] = 32) (h2 : ¬ t[a] = 10) k x n => scan_sign (br := br) (k := k) (x := x) (n := n) (out := ls) hlt h1 h2)
        cases h32 : ((t[a].toNat : Int) == 32) with
        | true =>
          have HF := Lib.hid (HB32.out (u8_is _ 32 (by omega) h32))
          clear HB32 HB10 HBN HBS
          go_wp2
          go_roundw
          case rel => exact ⟨a + 1, br, ls, by omega, by go_num, rfl, by omega, by omega, HS.out.trans HF.out, hb, hO⟩
          case measure => simp [intOf]; omega
        | false =>
          have hn32 := Lib.hid (u8_isnt _ 32 (by omega) h32)
          cases h10 : ((t[a].toNat : Int) == 10) with
          | true =>
            have HF := Lib.hid (HB10.out (u8_is _ 10 (by omega) h10))
            clear HB32 HB10 HBN HBS
            go_wp2
            go_roundw
            case rel => exact ⟨a + 1, br + 1, ls, by omega, by go_num, by go_num, by omega, by omega, HS.out.trans HF.out, hb, hO⟩
            case measure => simp [intOf]; omega
          | false =>
            have hn10 := Lib.hid (u8_isnt _ 10 (by omega) h10)
            have HT := Lib.hid (sgn_tl hlt)
            have HP := Lib.hid (fun k x n => sgn_pos (t := t) (a := a) (k := k) (x := x) (n := n))
            have hts : (t.extract a t.size).size ≤ 4611686018427387904 := by rw [ByteArray.size_extract]; omega
            have ht0 : 0 < (t.extract a t.size).size := by rw [ByteArray.size_extract]; omega
            have hz : (a : Int) ≤ (t.size : Int) := by omega
            clear HB32 HB10
            go_wp2_with fail
            refine (signAt_head (t.extract a t.size) _ hts ht0).mono ?_
            rintro e w2 ⟨⟨k, x, n, ok, rfl, hsg⟩, hb2⟩
            have hs2 := hb2.size
            have HG := Lib.hid (HT.out.symm.trans hsg)
            have hb3 := hb.trans (hb2.mono (by omega))
            clear hsg HT
            cases ok with
            | false =>
              have HF := Lib.hid (HL.out _ (HS.out.trans (HBN.out hn32.out hn10.out HG.out)))
              clear HBN HBS hn32 hn10
              go_wp2
              refine bodyPost_ret (results_tmp3 rfl _ _ _) rfl ?_
              have e := HB.out
              subst e
              refine ⟨⟨_, _, _, rfl, ?_, fun _ => HF.out⟩, hb3⟩
              rw [HF.out]
              exact Own.nil _ _ _ _ _
            | true =>
              obtain ⟨hn0, hnt⟩ := HP.out k x n HG.out
              obtain ⟨bb, hbb⟩ : ∃ bb, decide ((1 : Int) < (br : Int)) = bb := ⟨_, rfl⟩
              have HBB := Lib.hid (show decide (1 < br) = bb by rw [← hbb]; exact decide_eq_decide.2 (by omega))
              have HF := Lib.hid (HBS.out hn32.out hn10.out k x n HG.out)
              rw [HBB.out] at HF
              have hO2 := (hO.below hb2 (Nat.le_refl _)).up
              clear HBN HBS hn32 hn10 HBB
              go_wp2_with (at_builtin; refine wp_app1 (F := signF) (P := Tryd.prog) (y := ⟨k, x, (a : Int), bb⟩) rfl (.tmp 44) (.tmp 51) 29 rfl Tryd.underlying29 hi0 hz0 hz1 hz2 rfl (by decide) rfl (hO2.alloc _) w2.heap.size rfl (heap_alloc_new _ _) rfl (by omega) (by omega) (by simp; omega) ?_; intro v' w' hO' hb')
              go_roundw
              case rel => exact ⟨a + n, 0, ls ++ [⟨k, x, (a : Int), bb⟩], by omega, by go_num, rfl, by omega, by simp; omega, HS.out.trans HF.out, hb3.trans (blw_al1 hb' (by omega)), hO'⟩
              case measure => simp [intOf]; omega
      · have hki : ¬ (a : Int) < (t.size : Int) := by omega
        have HF := Lib.hid (HL.out _ (HS.out.trans (scan_end hlt)))
        clear HL
        go_wp2
        refine bodyPost_ret (results_tmp3 rfl _ _ _) rfl ?_
        have e := HB.out
        subst e
        refine ⟨⟨_, _, _, rfl, ?_, fun h => by cases h⟩, hb⟩
        rw [HF.out]
        exact hO
set_option maxHeartbeats 4000000 in
set_option maxRecDepth 100000 in
theorem signsOf_spec (t : ByteArray) (w : World) (hs : t.size ≤ 1073741824) :
    Calls Tryd.prog 12 #[.string t] w fun e w' => SignsRet t w.heap.size w' e ∧ Below w.heap.size w w' := by
  obtain ⟨i0, hi0, hz0, hz1, hz2⟩ := info_parts Tryd.infoSign
  obtain ⟨B, HB⟩ : ∃ B, Hid (B = w.heap.size) := ⟨_, rfl⟩
  have hBw : B ≤ w.heap.size := Nat.le_of_eq HB.out
  have hBw' : w.heap.size ≤ B := Nat.le_of_eq HB.out.symm
  go_enter Tryd.func12, Tryd.ntmps12
  by_cases hbig : 3000 < t.size
  · have hbi : (3000 : Int) < (t.size : Int) := by omega
    have HF := Lib.hid (signsL_big hbig)
    go_wp2
    refine bodyPost_ret (results_tmp3 rfl _ _ _) rfl ?_
    refine ⟨⟨_, _, _, rfl, ?_, fun _ => HF.out⟩, (Below.refl _ _).alloc (Nat.le_refl _) _⟩
    rw [HF.out]
    exact Own.empty _ _ _ _ (Nat.le_refl _)
  · have hbi : ¬ (3000 : Int) < (t.size : Int) := by omega
    have HL := Lib.hid (fun r h => signsL_of (t := t) hbig (r := r) h)
    go_wp2
    go_loopw [5, 6, 7] (fun out i b wr => ∃ (a br : Nat) (ls : List Sign), a ≤ t.size ∧ i = .int .i64 a ∧ b = .int .i64 br ∧ br ≤ a ∧ ls.length ≤ a ∧ Hid (scan t 0 0 [] = scan t a br ls) ∧ Below B w wr ∧ Own signF 34 B wr.heap.size wr out ls) (fun _ i _ _ => t.size - (intOf i).toNat)
    case atStart => exact ⟨0, 0, [], Nat.zero_le _, rfl, rfl, Nat.le_refl _, Nat.le_refl _, rfl, (Below.refl _ _).alloc hBw _, Own.empty _ _ _ _ hBw⟩
    case round =>
      obtain ⟨a, br, ls, ha, rfl, rfl, hbr, hll, HS, hb, hO⟩ := hrel
      have hsz := hb.size
      by_cases hlt : a < t.size
      · have hki : (a : Int) < (t.size : Int) := by omega
        have hkz : (0 : Int) ≤ (a : Int) := by omega
        have HB32 := Lib.hid (fun h : t[a] = 32 => scan_blank (br := br) (out := ls) hlt h)
        have HB10 := Lib.hid (fun h : t[a] = 10 => scan_line (br := br) (out := ls) hlt h)
        have HBN := Lib.hid (fun (h1 : ¬ t[a] = 32) (h2 : ¬ t[a] = 10) => scan_none (br := br) (out := ls) hlt h1 h2)
        have HBS := Lib.hid (fun (h1 : ¬ t[a] = 32) (h2 : ¬ t[a] = 10) k x n => scan_sign (br := br) (k := k) (x := x) (n := n) (out := ls) hlt h1 h2)
        cases h32 : ((t[a].toNat : Int) == 32) with
        | true =>
          have HF := Lib.hid (HB32.out (u8_is _ 32 (by omega) h32))
          clear HB32 HB10 HBN HBS
          go_wp2
          go_roundw
          case rel => exact ⟨a + 1, br, ls, by omega, by go_num, rfl, by omega, by omega, HS.out.trans HF.out, hb, hO⟩
          case measure => simp [intOf]; omega
        | false =>
          have hn32 := Lib.hid (u8_isnt _ 32 (by omega) h32)
          cases h10 : ((t[a].toNat : Int) == 10) with
          | true =>
            have HF := Lib.hid (HB10.out (u8_is _ 10 (by omega) h10))
            clear HB32 HB10 HBN HBS
            go_wp2
            go_roundw
            case rel => exact ⟨a + 1, br + 1, ls, by omega, by go_num, by go_num, by omega, by omega, HS.out.trans HF.out, hb, hO⟩
            case measure => simp [intOf]; omega
          | false =>
            have hn10 := Lib.hid (u8_isnt _ 10 (by omega) h10)
            have HP := Lib.hid (fun k x n => sgn_pos (t := t) (a := a) (k := k) (x := x) (n := n))
            clear HB32 HB10
            go_wp2_with fail
            refine (l04Sign_any t a _ (by omega) hlt).mono ?_
            rintro e w2 ⟨⟨k, x, p, n, rfl, hnt', hsg0, hsg1⟩, hb2⟩
            have hs2 := hb2.size
            have HG0 := Lib.hid hsg0
            have HG1 := Lib.hid hsg1
            have hb3 := hb.trans (hb2.mono (by omega))
            clear hsg0 hsg1
            by_cases hn0 : n = 0
            · subst hn0
              have HF := Lib.hid (HL.out _ (HS.out.trans (HBN.out hn32.out hn10.out (HG0.out rfl))))
              clear HBN HBS hn32 hn10
              go_wp2
              refine bodyPost_ret (results_tmp3 rfl _ _ _) rfl ?_
              have e := HB.out
              subst e
              refine ⟨⟨_, _, _, rfl, ?_, fun _ => HF.out⟩, (hb3.alloc (by omega) _).alloc (by simp; omega) _⟩
              rw [HF.out]
              exact empty2 _ _ (by omega)
            · obtain ⟨hG, rfl⟩ := HG1.out (by omega)
              have HG := Lib.hid hG
              clear hG HG0 HG1
              obtain ⟨_, hnt⟩ := HP.out k x n HG.out
              have hn0i : ((n : Int) == 0) = false := beq_eq_false_iff_ne.2 (by omega)
              obtain ⟨bb, hbb⟩ : ∃ bb, decide ((1 : Int) < (br : Int)) = bb := ⟨_, rfl⟩
              have HBB := Lib.hid (show decide (1 < br) = bb by rw [← hbb]; exact decide_eq_decide.2 (by omega))
              have HF := Lib.hid (HBS.out hn32.out hn10.out k x n HG.out)
              rw [HBB.out] at HF
              have hO2 := (hO.below hb2 (Nat.le_refl _)).up
              clear HBN HBS hn32 hn10 HBB hn0
              go_wp2_with (at_builtin; refine wp_app1 (F := signF) (P := Tryd.prog) (y := ⟨k, x, (a : Int), bb⟩) rfl (.tmp 46) (.tmp 48) 29 rfl Tryd.underlying29 hi0 hz0 hz1 hz2 rfl (by decide) rfl ((hO2.alloc _).alloc _) (w2.heap.size + 1) rfl (heap_alloc2_new _ _ _) rfl (by omega) (by omega) (by simp; omega) ?_; intro v' w' hO' hb')
              go_roundw
              case rel => exact ⟨a + n, 0, ls ++ [⟨k, x, (a : Int), bb⟩], by omega, by go_num, rfl, by omega, by simp; omega, HS.out.trans HF.out, hb3.trans (blw_al2 hb' (by omega)), hO'⟩
              case measure => simp [intOf]; omega
      · have hki : ¬ (a : Int) < (t.size : Int) := by omega
        have HF := Lib.hid (HL.out _ (HS.out.trans (scan_end hlt)))
        clear HL
        go_wp2
        refine bodyPost_ret (results_tmp3 rfl _ _ _) rfl ?_
        have e := HB.out
        subst e
        refine ⟨⟨_, _, _, rfl, ?_, fun h => by cases h⟩, hb⟩
        rw [HF.out]
        exact hO
end Go.Proofs.YtglcndihhlmogaaDoor
