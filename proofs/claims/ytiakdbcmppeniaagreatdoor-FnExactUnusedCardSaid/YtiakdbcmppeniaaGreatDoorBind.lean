/- The names of functions and methods, of both. By mk_names.py. -/
import Derived.Test.YtiakdbcmppeniaaGreatDoorNames
namespace Go.Proofs.YtiakdbcmppeniaaGreatDoor
open Go.RowKit

theorem BOwn.alloc {B n : Nat} {w : World} {bs : List Bool} (h : BOwn B w n bs) (o : Obj) : BOwn B (w.alloc o) n bs := ⟨h.1.alloc o, h.2⟩
theorem good_bnd {xs : List Node} {k : Int} (g : Good xs k) (h : isBnd (nd xs k).kind = true) : 1 ≤ (nd xs k).kids.length := by
  have h1 := g.count
  unfold isBnd at h
  rw [Bool.or_eq_true, beq_iff_eq, beq_iff_eq] at h
  rcases h with h | h <;> rw [h] at h1
  · have : loK 9 = 1 := rfl; omega
  · have : loK 20 = 1 := rfl; omega
set_option maxHeartbeats 4000000 in
set_option maxRecDepth 100000 in
theorem bindersOf_any (xs : List Node) (us : List Int) (v u : Value) (lo hi lo2 hi2 : Nat) (w : World) (hr : Rd nodeS lo hi w v xs) (hh : hi ≤ w.heap.size) (hu : Rd intS lo2 hi2 w u us) (hh2 : hi2 ≤ w.heap.size) (hl : xs.length ≤ 1048576) (hg : ∀ x ∈ us, 0 ≤ x ∧ x < xs.length ∧ Good xs x) :
    Calls Tryz.prog 32 #[v, u] w fun e w' => e = .returned (.slice (some ⟨w.heap.size, 0, none⟩) xs.length xs.length) ∧ ∃ bs, BSt xs us bs ∧ Below w.heap.size w w' ∧ BOwn w.heap.size w' xs.length bs := by
  obtain ⟨a, c, rfl⟩ := hr.sl
  obtain ⟨ua, uc, rfl⟩ := hu.sl
  obtain ⟨_, h2, h3⟩ := hr.lenEq
  obtain ⟨_, u2, u3⟩ := hu.lenEq
  have hul : (us.length : Int) ≤ 9223372036854775807 := by omega
  have hxl : (xs.length : Int) ≤ 9223372036854775807 := by omega
  obtain ⟨j0, hj0, hy0, hy1, hy2⟩ := info_parts Tryz.infoBool1
  have HR := Lib.hid (fun w4 (h4 : Below w.heap.size w w4) => hr.below h4 hh)
  have HU := Lib.hid (fun w4 (h4 : Below w.heap.size w w4) => hu.below h4 hh2)
  go_enter Tryz.func32, Tryz.ntmps32
  go_wp2_with (at_make; refine wpList_make_full _ rfl _ _ 44 rfl w.heap.size 4 j0 _ 1 Tryz.underlying44 hj0 hy0 hy1 _ _ _ _ xs.length rfl rfl rfl rfl ?b1 ?b2 ?b3 ?_)
  case b1 => first | omega | (rw [hy2]; omega)
  case b2 => first | (unfold maxLen; omega) | omega
  try (case b3 => exact Nat.le_refl _)
  intro w1 hown hgr
  have hb1 : Below w.heap.size w w1 := (Below.refl _ _).grown hgr (Nat.le_refl _) (fun k hk => by cases hk)
  have hB0 : Own bolF 4 w.heap.size w1.heap.size w1 (.slice (some ⟨w.heap.size, 0, none⟩) xs.length xs.length) (List.replicate xs.length false) :=
    Own.of_row hown (by simp) (by have h := made_cells bolF (by decide) false #[.bool false] rfl xs.length; rw [show xs.length * bolF.size = xs.length from Nat.mul_one _] at h; exact h) (Nat.le_refl _)
  have hBO : BOwn w.heap.size w1 xs.length (List.replicate xs.length false) := ⟨⟨hB0.1, fun g hg => by have e : w.heap.size = g := Option.some.inj hg; omega⟩, List.length_replicate ..⟩
  clear hown hgr hB0
  generalize hG : w.heap.size = G at *
  go_wp2
  go_loopw [16] (fun i wr => ∃ (t : Nat) (bs : List Bool), t ≤ us.length ∧ i = .int .i64 t ∧ Hid (BSt xs (us.take t) bs) ∧ Below G w wr ∧ BOwn G wr xs.length bs) (fun i _ => us.length - (intOf i).toNat)
  case atStart => exact ⟨0, _, Nat.zero_le _, rfl, bst_none xs, hb1, hBO⟩
  case round =>
    clear hBO hb1
    obtain ⟨t, bs, ht, rfl, HS, hb, hO⟩ := hrel
    have hsz : G ≤ wr.heap.size := by have := hb.size; omega
    have hGs := hO.size
    by_cases htl : t < us.length
    · obtain ⟨ub, uoff, rfl, _, _, uc0⟩ := (HU.out wr (by first | exact hb | (rw [hG]; exact hb))).intAt htl
      have hti : (t : Int) < (us.length : Int) := by omega
      have htz : (0 : Int) ≤ (t : Int) := by omega
      have hm := hg _ (List.getElem_mem htl)
      have hge : us.getD t 0 = us[t] := by rw [List.getD_eq_getElem?_getD, List.getElem?_eq_getElem htl]; rfl
      rw [hge] at uc0
      have HEN := Lib.hid (fun hb cs (h : BKid xs (us.take t) ((nd xs us[t]).kids.take ((nd xs us[t]).kids.length - 1)) cs) => bkid_end htl hb h)
      have HNO := Lib.hid (fun hb => bst_no htl hb HS.out)
      have HGB := Lib.hid (fun h => good_bnd hm.2.2 h)
      have HBE := Lib.hid hm.2.2.below
      obtain ⟨y, hy⟩ : ∃ y : Nat, us[t] = (y : Int) := ⟨us[t].toNat, by omega⟩
      rw [hy] at uc0 hm HEN HNO HGB HBE
      have hyl : y < xs.length := by omega
      have hyi : (y : Int) < (xs.length : Int) := by omega
      have hyz : (0 : Int) ≤ (y : Int) := by omega
      obtain ⟨b, off, ya, yc, eb, _, _, q0, q1, q2, q3, hk⟩ := rd_nodeAt (HR.out wr (by first | exact hb | (rw [hG]; exact hb))) hyl
      subst eb
      have HX : Hid (nd xs (y : Int) = xs[y]) := nd_at hyl
      rw [HX.out] at HEN HNO HGB HBE
      have H0 := Lib.hid (bkid_start HS.out)
      clear hge hy hm
      have hyb : y < xs.length := hyl
      generalize xs[y] = z at *
      obtain ⟨zk, zt, ks, zb⟩ := z
      simp only at q0 q1 q2 q3 hk HEN HNO HGB
      obtain ⟨_, hkl, hkc⟩ := hk.lenEq
      have hki : (ks.length : Int) ≤ 9223372036854775807 := by omega
      have hhi : hi ≤ G := hh
      have HKB := Lib.hid (fun w4 (h4 : Below G wr w4) => hk.below h4 hhi)
      obtain ⟨d9, e9⟩ : ∃ d, (zk == 9) = d := ⟨_, rfl⟩
      obtain ⟨d20, e20⟩ : ∃ d, (zk == 20) = d := ⟨_, rfl⟩
      have HIB := Lib.hid (show isBnd zk = (d9 || d20) by unfold isBnd; rw [e9, e20])
      cases d9 with
      | true =>
        have hgo := True.intro
        have hlen1 := HGB.out (by rw [HIB.out]; rfl)
        replace hlen1 : 1 ≤ ks.length := hlen1
        have n1 : (0 : Int) ≤ (ks.length : Int) - 1 := by omega
        have n2 : (ks.length : Int) - 1 ≤ (yc : Int) := by omega
        have n3 : ((ks.length : Int) - 1).toNat = ks.length - 1 := by omega
        go_wp2
        have hbA := hb.alloc hsz (Obj.cells #[Value.int IntKind.i64 zk, Value.string zt, Value.slice ya ks.length yc, Value.bool zb] 38)
        have hOA := hO.alloc (Obj.cells #[Value.int IntKind.i64 zk, Value.string zt, Value.slice ya ks.length yc, Value.bool zb] 38)
        have hal : Below G wr (wr.alloc (Obj.cells #[Value.int IntKind.i64 zk, Value.string zt, Value.slice ya ks.length yc, Value.bool zb] 38)) := (Below.refl G wr).alloc hsz _
        have hpN := heap_alloc_new wr (Obj.cells #[Value.int IntKind.i64 zk, Value.string zt, Value.slice ya ks.length yc, Value.bool zb] 38)
        have y0 : (wr.alloc (Obj.cells #[Value.int IntKind.i64 zk, Value.string zt, Value.slice ya ks.length yc, Value.bool zb] 38)).cell? ⟨wr.heap.size, 0, none⟩ = some (.int .i64 zk) := cell_heap (j := 0) hpN rfl
        have y2 : (wr.alloc (Obj.cells #[Value.int IntKind.i64 zk, Value.string zt, Value.slice ya ks.length yc, Value.bool zb] 38)).cell? ⟨wr.heap.size, 2, none⟩ = some (.slice ya ks.length yc) := cell_heap (j := 2) hpN rfl
        have hsA : (wr.alloc (Obj.cells #[Value.int IntKind.i64 zk, Value.string zt, Value.slice ya ks.length yc, Value.bool zb] 38)).heap.size = wr.heap.size + 1 := by simp
        clear hpN q0 q1 q2 q3
        generalize wr.alloc (Obj.cells #[Value.int IntKind.i64 zk, Value.string zt, Value.slice ya ks.length yc, Value.bool zb] 38) = w3 at *
        generalize wr.heap.size = YB at *
        go_loopw [40] (fun i w4 => ∃ (s : Nat) (cs : List Bool), s + 1 ≤ ks.length ∧ i = .int .i64 s ∧ Hid (BKid xs (us.take t) (ks.take s) cs) ∧ Below G w3 w4 ∧ (w4.cell? ⟨YB, 0, none⟩ = some (.int .i64 zk) ∧ w4.cell? ⟨YB, 2, none⟩ = some (.slice ya ks.length yc)) ∧ BOwn G w4 xs.length cs) (fun i _ => ks.length - (intOf i).toNat)
        case atStart => exact ⟨0, bs, by omega, rfl, H0.out, Below.refl _ _, ⟨y0, y2⟩, hOA⟩
        case round =>
          obtain ⟨s, cs, hs, rfl, HM, hb5, ⟨y0, y2⟩, hO5⟩ := hrel
          have hk5 := HKB.out _ (hal.trans hb5)
          by_cases hsl : s + 1 < ks.length
          · obtain ⟨kb, koff, rfl, _, _, kc0⟩ := hk5.intAt (k := s) (by omega)
            have hsi : (s : Int) < (ks.length : Int) - 1 := by omega
            have hsz2 : (0 : Int) ≤ (s : Int) := by omega
            have hsk : (s : Int) < (ks.length : Int) := by omega
            have hbk := HBE.out s (by show s < ks.length; omega)
            have hkd : kd (⟨zk, zt, ks, zb⟩ : Node) s = ks.getD s 0 := rfl
            rw [hkd] at hbk
            obtain ⟨p, hp⟩ : ∃ p : Nat, ks.getD s 0 = (p : Int) := ⟨(ks.getD s 0).toNat, by omega⟩
            have HN := Lib.hid (bkid_succ HM.out (by omega) hp (by omega))
            rw [hp] at kc0 hbk
            clear hkd hp
            have hpl : p < xs.length := by omega
            have hpi : (p : Int) < (xs.length : Int) := by omega
            have hpz : (0 : Int) ≤ (p : Int) := by omega
            have c1 := hO5.cell hpl
            have f1 := hO5.frozen p
            have hO6 := hO5.put hpl true
            have hb6 := hb5.setCell (p := ⟨G, p, none⟩) (Nat.le_refl _) (.bool true)
            have hne : ∀ j, (⟨G, p, none⟩ : Addr) ≠ ⟨YB, j, none⟩ := fun j h => by injection h; omega
            have y01 := (World.cell?_setCell_other _ _ _ (.bool true) (hne 0)).trans y0
            have y21 := (World.cell?_setCell_other _ _ _ (.bool true) (hne 2)).trans y2
            go_wp2
            go_roundw
            case rel => exact ⟨s + 1, _, by omega, by go_num, HN.out, hb6, ⟨y01, y21⟩, hO6⟩
            case measure => simp [intOf]; omega
          · have hsi : ¬ (s : Int) < (ks.length : Int) - 1 := by omega
            have HE2 := Lib.hid (HEN.out (by rw [HIB.out]; rfl) cs (by have e := HM.out; rwa [show s = ks.length - 1 by omega] at e))
            go_wp2
            go_roundw
            case rel => exact ⟨t + 1, cs, by omega, by go_num, HE2.out, hbA.trans hb5, hO5⟩
            case measure => simp [intOf]; omega
      | false =>
      cases d20 with
      | true =>
        have hgo := True.intro
        have hlen1 := HGB.out (by rw [HIB.out]; rfl)
        replace hlen1 : 1 ≤ ks.length := hlen1
        have n1 : (0 : Int) ≤ (ks.length : Int) - 1 := by omega
        have n2 : (ks.length : Int) - 1 ≤ (yc : Int) := by omega
        have n3 : ((ks.length : Int) - 1).toNat = ks.length - 1 := by omega
        go_wp2
        have hbA := hb.alloc hsz (Obj.cells #[Value.int IntKind.i64 zk, Value.string zt, Value.slice ya ks.length yc, Value.bool zb] 38)
        have hOA := hO.alloc (Obj.cells #[Value.int IntKind.i64 zk, Value.string zt, Value.slice ya ks.length yc, Value.bool zb] 38)
        have hal : Below G wr (wr.alloc (Obj.cells #[Value.int IntKind.i64 zk, Value.string zt, Value.slice ya ks.length yc, Value.bool zb] 38)) := (Below.refl G wr).alloc hsz _
        have hpN := heap_alloc_new wr (Obj.cells #[Value.int IntKind.i64 zk, Value.string zt, Value.slice ya ks.length yc, Value.bool zb] 38)
        have y0 : (wr.alloc (Obj.cells #[Value.int IntKind.i64 zk, Value.string zt, Value.slice ya ks.length yc, Value.bool zb] 38)).cell? ⟨wr.heap.size, 0, none⟩ = some (.int .i64 zk) := cell_heap (j := 0) hpN rfl
        have y2 : (wr.alloc (Obj.cells #[Value.int IntKind.i64 zk, Value.string zt, Value.slice ya ks.length yc, Value.bool zb] 38)).cell? ⟨wr.heap.size, 2, none⟩ = some (.slice ya ks.length yc) := cell_heap (j := 2) hpN rfl
        have hsA : (wr.alloc (Obj.cells #[Value.int IntKind.i64 zk, Value.string zt, Value.slice ya ks.length yc, Value.bool zb] 38)).heap.size = wr.heap.size + 1 := by simp
        clear hpN q0 q1 q2 q3
        generalize wr.alloc (Obj.cells #[Value.int IntKind.i64 zk, Value.string zt, Value.slice ya ks.length yc, Value.bool zb] 38) = w3 at *
        generalize wr.heap.size = YB at *
        go_loopw [40] (fun i w4 => ∃ (s : Nat) (cs : List Bool), s + 1 ≤ ks.length ∧ i = .int .i64 s ∧ Hid (BKid xs (us.take t) (ks.take s) cs) ∧ Below G w3 w4 ∧ (w4.cell? ⟨YB, 0, none⟩ = some (.int .i64 zk) ∧ w4.cell? ⟨YB, 2, none⟩ = some (.slice ya ks.length yc)) ∧ BOwn G w4 xs.length cs) (fun i _ => ks.length - (intOf i).toNat)
        case atStart => exact ⟨0, bs, by omega, rfl, H0.out, Below.refl _ _, ⟨y0, y2⟩, hOA⟩
        case round =>
          obtain ⟨s, cs, hs, rfl, HM, hb5, ⟨y0, y2⟩, hO5⟩ := hrel
          have hk5 := HKB.out _ (hal.trans hb5)
          by_cases hsl : s + 1 < ks.length
          · obtain ⟨kb, koff, rfl, _, _, kc0⟩ := hk5.intAt (k := s) (by omega)
            have hsi : (s : Int) < (ks.length : Int) - 1 := by omega
            have hsz2 : (0 : Int) ≤ (s : Int) := by omega
            have hsk : (s : Int) < (ks.length : Int) := by omega
            have hbk := HBE.out s (by show s < ks.length; omega)
            have hkd : kd (⟨zk, zt, ks, zb⟩ : Node) s = ks.getD s 0 := rfl
            rw [hkd] at hbk
            obtain ⟨p, hp⟩ : ∃ p : Nat, ks.getD s 0 = (p : Int) := ⟨(ks.getD s 0).toNat, by omega⟩
            have HN := Lib.hid (bkid_succ HM.out (by omega) hp (by omega))
            rw [hp] at kc0 hbk
            clear hkd hp
            have hpl : p < xs.length := by omega
            have hpi : (p : Int) < (xs.length : Int) := by omega
            have hpz : (0 : Int) ≤ (p : Int) := by omega
            have c1 := hO5.cell hpl
            have f1 := hO5.frozen p
            have hO6 := hO5.put hpl true
            have hb6 := hb5.setCell (p := ⟨G, p, none⟩) (Nat.le_refl _) (.bool true)
            have hne : ∀ j, (⟨G, p, none⟩ : Addr) ≠ ⟨YB, j, none⟩ := fun j h => by injection h; omega
            have y01 := (World.cell?_setCell_other _ _ _ (.bool true) (hne 0)).trans y0
            have y21 := (World.cell?_setCell_other _ _ _ (.bool true) (hne 2)).trans y2
            go_wp2
            go_roundw
            case rel => exact ⟨s + 1, _, by omega, by go_num, HN.out, hb6, ⟨y01, y21⟩, hO6⟩
            case measure => simp [intOf]; omega
          · have hsi : ¬ (s : Int) < (ks.length : Int) - 1 := by omega
            have HE2 := Lib.hid (HEN.out (by rw [HIB.out]; rfl) cs (by have e := HM.out; rwa [show s = ks.length - 1 by omega] at e))
            go_wp2
            go_roundw
            case rel => exact ⟨t + 1, cs, by omega, by go_num, HE2.out, hbA.trans hb5, hO5⟩
            case measure => simp [intOf]; omega
      | false =>
        have HE2 := Lib.hid (HNO.out (by rw [HIB.out]; rfl))
        go_wp2
        go_roundw
        case rel => exact ⟨t + 1, bs, by omega, by go_num, HE2.out, hb.alloc hsz _, hO.alloc _⟩
        case measure => simp [intOf]; omega
    · have hti : ¬ (t : Int) < (us.length : Int) := by omega
      have HE2 : Hid (BSt xs us bs) := by have e := HS.out; rwa [List.take_of_length_le (by omega)] at e
      go_wp2
      go_ret
      subst hG
      exact ⟨rfl, bs, HE2.out, hb, hO⟩
set_option maxHeartbeats 4000000 in
set_option maxRecDepth 100000 in
theorem l22Params_any (xs : List Node) (us : List Int) (v u : Value) (lo hi lo2 hi2 : Nat) (w : World) (hr : Rd nodeS lo hi w v xs) (hh : hi ≤ w.heap.size) (hu : Rd intS lo2 hi2 w u us) (hh2 : hi2 ≤ w.heap.size) (hl : xs.length ≤ 1048576) (hg : ∀ x ∈ us, 0 ≤ x ∧ x < xs.length ∧ Good xs x) :
    Calls Tryz.prog 31 #[v, u] w fun e w' => e = .returned (.slice (some ⟨w.heap.size, 0, none⟩) xs.length xs.length) ∧ ∃ bs, BSt xs us bs ∧ Below w.heap.size w w' ∧ BOwn w.heap.size w' xs.length bs := by
  obtain ⟨a, c, rfl⟩ := hr.sl
  obtain ⟨ua, uc, rfl⟩ := hu.sl
  obtain ⟨_, h2, h3⟩ := hr.lenEq
  obtain ⟨_, u2, u3⟩ := hu.lenEq
  have hul : (us.length : Int) ≤ 9223372036854775807 := by omega
  have hxl : (xs.length : Int) ≤ 9223372036854775807 := by omega
  obtain ⟨j0, hj0, hy0, hy1, hy2⟩ := info_parts Tryz.infoBool1
  have HR := Lib.hid (fun w4 (h4 : Below w.heap.size w w4) => hr.below h4 hh)
  have HU := Lib.hid (fun w4 (h4 : Below w.heap.size w w4) => hu.below h4 hh2)
  go_enter Tryz.func31, Tryz.ntmps31
  go_wp2_with (at_make; refine wpList_make_full _ rfl _ _ 44 rfl w.heap.size 4 j0 _ 1 Tryz.underlying44 hj0 hy0 hy1 _ _ _ _ xs.length rfl rfl rfl rfl ?b1 ?b2 ?b3 ?_)
  case b1 => first | omega | (rw [hy2]; omega)
  case b2 => first | (unfold maxLen; omega) | omega
  try (case b3 => exact Nat.le_refl _)
  intro w1 hown hgr
  have hb1 : Below w.heap.size w w1 := (Below.refl _ _).grown hgr (Nat.le_refl _) (fun k hk => by cases hk)
  have hB0 : Own bolF 4 w.heap.size w1.heap.size w1 (.slice (some ⟨w.heap.size, 0, none⟩) xs.length xs.length) (List.replicate xs.length false) :=
    Own.of_row hown (by simp) (by have h := made_cells bolF (by decide) false #[.bool false] rfl xs.length; rw [show xs.length * bolF.size = xs.length from Nat.mul_one _] at h; exact h) (Nat.le_refl _)
  have hBO : BOwn w.heap.size w1 xs.length (List.replicate xs.length false) := ⟨⟨hB0.1, fun g hg => by have e : w.heap.size = g := Option.some.inj hg; omega⟩, List.length_replicate ..⟩
  clear hown hgr hB0
  generalize hG : w.heap.size = G at *
  go_wp2
  go_loopw [6] (fun i wr => ∃ (t : Nat) (bs : List Bool), t ≤ us.length ∧ i = .int .i64 t ∧ Hid (BSt xs (us.take t) bs) ∧ Below G w wr ∧ BOwn G wr xs.length bs) (fun i _ => us.length - (intOf i).toNat)
  case atStart => exact ⟨0, _, Nat.zero_le _, rfl, bst_none xs, hb1, hBO⟩
  case round =>
    clear hBO hb1
    obtain ⟨t, bs, ht, rfl, HS, hb, hO⟩ := hrel
    have hsz : G ≤ wr.heap.size := by have := hb.size; omega
    have hGs := hO.size
    by_cases htl : t < us.length
    · obtain ⟨ub, uoff, rfl, _, _, uc0⟩ := (HU.out wr (by first | exact hb | (rw [hG]; exact hb))).intAt htl
      have hti : (t : Int) < (us.length : Int) := by omega
      have htz : (0 : Int) ≤ (t : Int) := by omega
      have hm := hg _ (List.getElem_mem htl)
      have hge : us.getD t 0 = us[t] := by rw [List.getD_eq_getElem?_getD, List.getElem?_eq_getElem htl]; rfl
      rw [hge] at uc0
      have HEN := Lib.hid (fun hb cs (h : BKid xs (us.take t) ((nd xs us[t]).kids.take ((nd xs us[t]).kids.length - 1)) cs) => bkid_end htl hb h)
      have HNO := Lib.hid (fun hb => bst_no htl hb HS.out)
      have HGB := Lib.hid (fun h => good_bnd hm.2.2 h)
      have HBE := Lib.hid hm.2.2.below
      obtain ⟨y, hy⟩ : ∃ y : Nat, us[t] = (y : Int) := ⟨us[t].toNat, by omega⟩
      rw [hy] at uc0 hm HEN HNO HGB HBE
      have hyl : y < xs.length := by omega
      have hyi : (y : Int) < (xs.length : Int) := by omega
      have hyz : (0 : Int) ≤ (y : Int) := by omega
      obtain ⟨b, off, ya, yc, eb, _, _, q0, q1, q2, q3, hk⟩ := rd_nodeAt (HR.out wr (by first | exact hb | (rw [hG]; exact hb))) hyl
      subst eb
      have HX : Hid (nd xs (y : Int) = xs[y]) := nd_at hyl
      rw [HX.out] at HEN HNO HGB HBE
      have H0 := Lib.hid (bkid_start HS.out)
      clear hge hy hm
      have hyb : y < xs.length := hyl
      generalize xs[y] = z at *
      obtain ⟨zk, zt, ks, zb⟩ := z
      simp only at q0 q1 q2 q3 hk HEN HNO HGB
      obtain ⟨_, hkl, hkc⟩ := hk.lenEq
      have hki : (ks.length : Int) ≤ 9223372036854775807 := by omega
      have hhi : hi ≤ G := hh
      have HKB := Lib.hid (fun w4 (h4 : Below G wr w4) => hk.below h4 hhi)
      obtain ⟨d9, e9⟩ : ∃ d, (zk == 9) = d := ⟨_, rfl⟩
      obtain ⟨d20, e20⟩ : ∃ d, (zk == 20) = d := ⟨_, rfl⟩
      have HIB := Lib.hid (show isBnd zk = (d9 || d20) by unfold isBnd; rw [e9, e20])
      cases d9 with
      | true =>
        have hgo := True.intro
        have hlen1 := HGB.out (by rw [HIB.out]; rfl)
        replace hlen1 : 1 ≤ ks.length := hlen1
        have n1 : (0 : Int) ≤ (ks.length : Int) - 1 := by omega
        have n2 : (ks.length : Int) - 1 ≤ (yc : Int) := by omega
        have n3 : ((ks.length : Int) - 1).toNat = ks.length - 1 := by omega
        go_wp2
        have hbA := hb.alloc hsz (Obj.cells #[Value.int IntKind.i64 zk, Value.string zt, Value.slice ya ks.length yc, Value.bool zb] 38)
        have hOA := hO.alloc (Obj.cells #[Value.int IntKind.i64 zk, Value.string zt, Value.slice ya ks.length yc, Value.bool zb] 38)
        have hal : Below G wr (wr.alloc (Obj.cells #[Value.int IntKind.i64 zk, Value.string zt, Value.slice ya ks.length yc, Value.bool zb] 38)) := (Below.refl G wr).alloc hsz _
        have hpN := heap_alloc_new wr (Obj.cells #[Value.int IntKind.i64 zk, Value.string zt, Value.slice ya ks.length yc, Value.bool zb] 38)
        have y0 : (wr.alloc (Obj.cells #[Value.int IntKind.i64 zk, Value.string zt, Value.slice ya ks.length yc, Value.bool zb] 38)).cell? ⟨wr.heap.size, 0, none⟩ = some (.int .i64 zk) := cell_heap (j := 0) hpN rfl
        have y2 : (wr.alloc (Obj.cells #[Value.int IntKind.i64 zk, Value.string zt, Value.slice ya ks.length yc, Value.bool zb] 38)).cell? ⟨wr.heap.size, 2, none⟩ = some (.slice ya ks.length yc) := cell_heap (j := 2) hpN rfl
        have hsA : (wr.alloc (Obj.cells #[Value.int IntKind.i64 zk, Value.string zt, Value.slice ya ks.length yc, Value.bool zb] 38)).heap.size = wr.heap.size + 1 := by simp
        clear hpN q0 q1 q2 q3
        generalize wr.alloc (Obj.cells #[Value.int IntKind.i64 zk, Value.string zt, Value.slice ya ks.length yc, Value.bool zb] 38) = w3 at *
        generalize wr.heap.size = YB at *
        go_loopw [8] (fun i w4 => ∃ (s : Nat) (cs : List Bool), s + 1 ≤ ks.length ∧ i = .int .i64 s ∧ Hid (BKid xs (us.take t) (ks.take s) cs) ∧ Below G w3 w4 ∧ (w4.cell? ⟨YB, 0, none⟩ = some (.int .i64 zk) ∧ w4.cell? ⟨YB, 2, none⟩ = some (.slice ya ks.length yc)) ∧ BOwn G w4 xs.length cs) (fun i _ => ks.length - (intOf i).toNat)
        case atStart => exact ⟨0, bs, by omega, rfl, H0.out, Below.refl _ _, ⟨y0, y2⟩, hOA⟩
        case round =>
          obtain ⟨s, cs, hs, rfl, HM, hb5, ⟨y0, y2⟩, hO5⟩ := hrel
          have hk5 := HKB.out _ (hal.trans hb5)
          by_cases hsl : s + 1 < ks.length
          · obtain ⟨kb, koff, rfl, _, _, kc0⟩ := hk5.intAt (k := s) (by omega)
            have hsi : (s : Int) + 1 < (ks.length : Int) := by omega
            have hsz2 : (0 : Int) ≤ (s : Int) := by omega
            have hsk : (s : Int) < (ks.length : Int) := by omega
            have hbk := HBE.out s (by show s < ks.length; omega)
            have hkd : kd (⟨zk, zt, ks, zb⟩ : Node) s = ks.getD s 0 := rfl
            rw [hkd] at hbk
            obtain ⟨p, hp⟩ : ∃ p : Nat, ks.getD s 0 = (p : Int) := ⟨(ks.getD s 0).toNat, by omega⟩
            have HN := Lib.hid (bkid_succ HM.out (by omega) hp (by omega))
            rw [hp] at kc0 hbk
            clear hkd hp
            have hpl : p < xs.length := by omega
            have hpi : (p : Int) < (xs.length : Int) := by omega
            have hpz : (0 : Int) ≤ (p : Int) := by omega
            have c1 := hO5.cell hpl
            have f1 := hO5.frozen p
            have hO6 := hO5.put hpl true
            have hb6 := hb5.setCell (p := ⟨G, p, none⟩) (Nat.le_refl _) (.bool true)
            have hne : ∀ j, (⟨G, p, none⟩ : Addr) ≠ ⟨YB, j, none⟩ := fun j h => by injection h; omega
            have y01 := (World.cell?_setCell_other _ _ _ (.bool true) (hne 0)).trans y0
            have y21 := (World.cell?_setCell_other _ _ _ (.bool true) (hne 2)).trans y2
            go_wp2
            go_roundw
            case rel => exact ⟨s + 1, _, by omega, by go_num, HN.out, hb6, ⟨y01, y21⟩, hO6⟩
            case measure => simp [intOf]; omega
          · have hsi : ¬ (s : Int) + 1 < (ks.length : Int) := by omega
            have HE2 := Lib.hid (HEN.out (by rw [HIB.out]; rfl) cs (by have e := HM.out; rwa [show s = ks.length - 1 by omega] at e))
            go_wp2
            go_roundw
            case rel => exact ⟨t + 1, cs, by omega, by go_num, HE2.out, hbA.trans hb5, hO5⟩
            case measure => simp [intOf]; omega
      | false =>
      cases d20 with
      | true =>
        have hgo := True.intro
        have hlen1 := HGB.out (by rw [HIB.out]; rfl)
        replace hlen1 : 1 ≤ ks.length := hlen1
        have n1 : (0 : Int) ≤ (ks.length : Int) - 1 := by omega
        have n2 : (ks.length : Int) - 1 ≤ (yc : Int) := by omega
        have n3 : ((ks.length : Int) - 1).toNat = ks.length - 1 := by omega
        go_wp2
        have hbA := hb.alloc hsz (Obj.cells #[Value.int IntKind.i64 zk, Value.string zt, Value.slice ya ks.length yc, Value.bool zb] 38)
        have hOA := hO.alloc (Obj.cells #[Value.int IntKind.i64 zk, Value.string zt, Value.slice ya ks.length yc, Value.bool zb] 38)
        have hal : Below G wr (wr.alloc (Obj.cells #[Value.int IntKind.i64 zk, Value.string zt, Value.slice ya ks.length yc, Value.bool zb] 38)) := (Below.refl G wr).alloc hsz _
        have hpN := heap_alloc_new wr (Obj.cells #[Value.int IntKind.i64 zk, Value.string zt, Value.slice ya ks.length yc, Value.bool zb] 38)
        have y0 : (wr.alloc (Obj.cells #[Value.int IntKind.i64 zk, Value.string zt, Value.slice ya ks.length yc, Value.bool zb] 38)).cell? ⟨wr.heap.size, 0, none⟩ = some (.int .i64 zk) := cell_heap (j := 0) hpN rfl
        have y2 : (wr.alloc (Obj.cells #[Value.int IntKind.i64 zk, Value.string zt, Value.slice ya ks.length yc, Value.bool zb] 38)).cell? ⟨wr.heap.size, 2, none⟩ = some (.slice ya ks.length yc) := cell_heap (j := 2) hpN rfl
        have hsA : (wr.alloc (Obj.cells #[Value.int IntKind.i64 zk, Value.string zt, Value.slice ya ks.length yc, Value.bool zb] 38)).heap.size = wr.heap.size + 1 := by simp
        clear hpN q0 q1 q2 q3
        generalize wr.alloc (Obj.cells #[Value.int IntKind.i64 zk, Value.string zt, Value.slice ya ks.length yc, Value.bool zb] 38) = w3 at *
        generalize wr.heap.size = YB at *
        go_loopw [8] (fun i w4 => ∃ (s : Nat) (cs : List Bool), s + 1 ≤ ks.length ∧ i = .int .i64 s ∧ Hid (BKid xs (us.take t) (ks.take s) cs) ∧ Below G w3 w4 ∧ (w4.cell? ⟨YB, 0, none⟩ = some (.int .i64 zk) ∧ w4.cell? ⟨YB, 2, none⟩ = some (.slice ya ks.length yc)) ∧ BOwn G w4 xs.length cs) (fun i _ => ks.length - (intOf i).toNat)
        case atStart => exact ⟨0, bs, by omega, rfl, H0.out, Below.refl _ _, ⟨y0, y2⟩, hOA⟩
        case round =>
          obtain ⟨s, cs, hs, rfl, HM, hb5, ⟨y0, y2⟩, hO5⟩ := hrel
          have hk5 := HKB.out _ (hal.trans hb5)
          by_cases hsl : s + 1 < ks.length
          · obtain ⟨kb, koff, rfl, _, _, kc0⟩ := hk5.intAt (k := s) (by omega)
            have hsi : (s : Int) + 1 < (ks.length : Int) := by omega
            have hsz2 : (0 : Int) ≤ (s : Int) := by omega
            have hsk : (s : Int) < (ks.length : Int) := by omega
            have hbk := HBE.out s (by show s < ks.length; omega)
            have hkd : kd (⟨zk, zt, ks, zb⟩ : Node) s = ks.getD s 0 := rfl
            rw [hkd] at hbk
            obtain ⟨p, hp⟩ : ∃ p : Nat, ks.getD s 0 = (p : Int) := ⟨(ks.getD s 0).toNat, by omega⟩
            have HN := Lib.hid (bkid_succ HM.out (by omega) hp (by omega))
            rw [hp] at kc0 hbk
            clear hkd hp
            have hpl : p < xs.length := by omega
            have hpi : (p : Int) < (xs.length : Int) := by omega
            have hpz : (0 : Int) ≤ (p : Int) := by omega
            have c1 := hO5.cell hpl
            have f1 := hO5.frozen p
            have hO6 := hO5.put hpl true
            have hb6 := hb5.setCell (p := ⟨G, p, none⟩) (Nat.le_refl _) (.bool true)
            have hne : ∀ j, (⟨G, p, none⟩ : Addr) ≠ ⟨YB, j, none⟩ := fun j h => by injection h; omega
            have y01 := (World.cell?_setCell_other _ _ _ (.bool true) (hne 0)).trans y0
            have y21 := (World.cell?_setCell_other _ _ _ (.bool true) (hne 2)).trans y2
            go_wp2
            go_roundw
            case rel => exact ⟨s + 1, _, by omega, by go_num, HN.out, hb6, ⟨y01, y21⟩, hO6⟩
            case measure => simp [intOf]; omega
          · have hsi : ¬ (s : Int) + 1 < (ks.length : Int) := by omega
            have HE2 := Lib.hid (HEN.out (by rw [HIB.out]; rfl) cs (by have e := HM.out; rwa [show s = ks.length - 1 by omega] at e))
            go_wp2
            go_roundw
            case rel => exact ⟨t + 1, cs, by omega, by go_num, HE2.out, hbA.trans hb5, hO5⟩
            case measure => simp [intOf]; omega
      | false =>
        have HE2 := Lib.hid (HNO.out (by rw [HIB.out]; rfl))
        go_wp2
        have hbA := hb.alloc hsz (Obj.cells #[Value.int IntKind.i64 zk, Value.string zt, Value.slice ya ks.length yc, Value.bool zb] 38)
        have hOA := hO.alloc (Obj.cells #[Value.int IntKind.i64 zk, Value.string zt, Value.slice ya ks.length yc, Value.bool zb] 38)
        have hal : Below G wr (wr.alloc (Obj.cells #[Value.int IntKind.i64 zk, Value.string zt, Value.slice ya ks.length yc, Value.bool zb] 38)) := (Below.refl G wr).alloc hsz _
        have hpN := heap_alloc_new wr (Obj.cells #[Value.int IntKind.i64 zk, Value.string zt, Value.slice ya ks.length yc, Value.bool zb] 38)
        have y0 : (wr.alloc (Obj.cells #[Value.int IntKind.i64 zk, Value.string zt, Value.slice ya ks.length yc, Value.bool zb] 38)).cell? ⟨wr.heap.size, 0, none⟩ = some (.int .i64 zk) := cell_heap (j := 0) hpN rfl
        have y2 : (wr.alloc (Obj.cells #[Value.int IntKind.i64 zk, Value.string zt, Value.slice ya ks.length yc, Value.bool zb] 38)).cell? ⟨wr.heap.size, 2, none⟩ = some (.slice ya ks.length yc) := cell_heap (j := 2) hpN rfl
        have hsA : (wr.alloc (Obj.cells #[Value.int IntKind.i64 zk, Value.string zt, Value.slice ya ks.length yc, Value.bool zb] 38)).heap.size = wr.heap.size + 1 := by simp
        clear hpN q0 q1 q2 q3
        generalize wr.alloc (Obj.cells #[Value.int IntKind.i64 zk, Value.string zt, Value.slice ya ks.length yc, Value.bool zb] 38) = w3 at *
        generalize wr.heap.size = YB at *
        go_loopw [8] (fun i w4 => i = .int .i64 0 ∧ w3 = w4) (fun _ _ => 0)
        case atStart => exact ⟨rfl, rfl⟩
        case round =>
          obtain ⟨rfl, rfl⟩ := hrel
          cases hsl : decide ((1 : Int) < (ks.length : Int)) with
          | true =>
            have hsi : (1 : Int) < (ks.length : Int) := of_decide_eq_true hsl
            clear hsl
            go_wp2
            go_roundw
            case rel => exact ⟨t + 1, bs, by omega, by go_num, HE2.out, hbA, hOA⟩
            case measure => simp [intOf]; omega
          | false =>
            have hsi : ¬ (1 : Int) < (ks.length : Int) := of_decide_eq_false hsl
            clear hsl
            go_wp2
            go_roundw
            case rel => exact ⟨t + 1, bs, by omega, by go_num, HE2.out, hbA, hOA⟩
            case measure => simp [intOf]; omega
    · have hti : ¬ (t : Int) < (us.length : Int) := by omega
      have HE2 : Hid (BSt xs us bs) := by have e := HS.out; rwa [List.take_of_length_le (by omega)] at e
      go_wp2
      go_ret
      subst hG
      exact ⟨rfl, bs, HE2.out, hb, hO⟩
end Go.Proofs.YtiakdbcmppeniaaGreatDoor
