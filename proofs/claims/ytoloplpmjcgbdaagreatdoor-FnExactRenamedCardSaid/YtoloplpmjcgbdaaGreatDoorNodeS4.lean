/- NodeOk of the reference. -/
import Derived.Test.YtoloplpmjcgbdaaGreatDoorNodeS3
import Derived.Test.YtoloplpmjcgbdaaGreatDoorNodeI5
namespace Go.Proofs.YtoloplpmjcgbdaaGreatDoor
open Go.RowKit

theorem blank_iff (k : Int) : (isStp k || isMem k || k == 21) = ((isStp k || (k == 19)) || (k == 20) || (k == 21)) := by
  by_cases h : k = 12
  · subst h; rfl
  · unfold isMem
    rw [beq_eq_false_iff_ne.2 h, Bool.false_or]
    cases isStp k <;> cases (k == 20) <;> cases (k == 19) <;> rfl
theorem good_ofS {xs : List Node} {k : Int} {x : Node} (hx : nd xs k = x) (h0 : 0 ≤ k) (h1 : k < xs.length) (hkd : 1 ≤ x.kind ∧ x.kind ≤ 22) (ht : textOk x.kind x.text = true) (hc : loK x.kind ≤ x.kids.length ∧ x.kids.length ≤ hiK x.kind)
    (hk : KidsOk k x x.kids.length) (hf : ∀ i, i < x.kids.length → callOk xs (nd xs (kd x i)) ∧ fitS xs x i = true) (hb : (isStp x.kind || isMem x.kind || x.kind == 21) = true ∨ x.blank = false) : Good xs k := by
  constructor
  · exact h0
  · exact h1
  · rw [hx]; exact hkd
  · rw [hx]; exact ht
  · rw [hx]; exact hb
  · rw [hx]; exact hc
  · rw [hx]; exact fun i hi => (hk i hi).1
  · rw [hx]; exact fun i j hij hj => (hk j hj).2 i hij
  · rw [hx]; exact fun i hi => (hf i hi).1
  · rw [hx]
    intro i hi
    have := (hf i hi).2
    unfold fitS at this
    rw [Bool.and_eq_true] at this
    exact this.1
  · rw [hx]
    intro h10 i hi hil
    have := (hf i hil).2
    unfold fitS at this
    rw [Bool.and_eq_true, if_pos ⟨h10, hi⟩] at this
    simpa using this.2
theorem good_fitS {xs : List Node} {k : Int} {x : Node} (hx : nd xs k = x) (g : Good xs k) : ∀ i, i < x.kids.length → callOk xs (nd xs (kd x i)) ∧ fitS xs x i = true := by
  have h1 := g.calls
  have h2 := g.names
  have h3 := g.fits
  rw [hx] at h1 h2 h3
  intro i hi
  refine ⟨h1 i hi, ?_⟩
  unfold fitS
  rw [h3 i hi, Bool.true_and]
  by_cases c : x.kind = 10 ∧ 0 < i
  · rw [if_pos c, beq_iff_eq]; exact h2 c.1 i c.2 hi
  · rw [if_neg c]
/-- the first m kids fit -/
def FitsS (xs : List Node) (x : Node) (m : Nat) : Prop := ∀ i, i < m → callOk xs (nd xs (kd x i)) ∧ fitS xs x i = true
theorem fitsS_succ {xs : List Node} {x : Node} {m : Nat} (h : FitsS xs x m) (h1 : callOk xs (nd xs (kd x m))) (h2 : fitS xs x m = true) : FitsS xs x (m + 1) := by
  intro i hi
  by_cases e : i = m
  · subst e; exact ⟨h1, h2⟩
  · exact h i (by omega)
set_option maxHeartbeats 8000000 in
set_option maxRecDepth 100000 in
theorem nodeOk_spec (xs : List Node) (v : Value) (lo hi : Nat) (k : Int) (w : World) (hr : Rd nodeS lo hi w v xs) (hh : hi ≤ w.heap.size) (hs : ∀ x ∈ xs, x.text.size ≤ 4611686018427387904) (hI : -9223372036854775808 ≤ k) :
    Calls Tryz.prog 66 #[v, .int .i64 k] w fun e w' => e = .returned (.bool (nodeOk xs k)) ∧ Below w.heap.size w w' := by
  obtain ⟨a, c, rfl, h2, h3, h4, h5⟩ := hr.nodeS
  unfold maxLen at h3
  by_cases hin : 0 ≤ k ∧ k < xs.length
  · have hN := Lib.hid (l01In_yes k 0 ((xs.length : Int) - 1) w hin.1 (by omega))
    obtain ⟨m, rfl⟩ : ∃ m : Nat, k = (m : Int) := ⟨k.toNat, by omega⟩
    have hml : m < xs.length := by omega
    have hmi : (m : Int) < (xs.length : Int) := by omega
    have hmz : (0 : Int) ≤ (m : Int) := by omega
    obtain ⟨b, off, ka, kc, rfl, hlo, hhi, d0, d1, d2, d3, hk⟩ := h5 m hml
    have hsx := hs _ (List.getElem_mem hml)
    have HX : Hid (nd xs (m : Int) = xs[m]) := nd_at hml
    have HR := Lib.hid hr
    have H5 := Lib.hid h5
    have HFits := Lib.hid (fun (j : Nat) (hj : j < xs[m].kids.length) (hb : 0 ≤ kd xs[m] j ∧ kd xs[m] j < xs.length) (hcall : callOk xs (nd xs (kd xs[m] j))) (hkind : 1 ≤ xs[m].kind ∧ xs[m].kind ≤ 22) (w1 : World) (hr1 : Rd nodeS lo hi w1 (.slice (some ⟨b, off, none⟩) xs.length c) xs) (hh1 : hi ≤ w1.heap.size) => fits_any xs _ lo hi m j w1 hr1 hh1 hml hj hb hcall hkind)
    clear h5 hr hin hs
    generalize xs[m] = x at *
    obtain ⟨_, hkl, hkc⟩ := hk.lenEq
    have hgt := Lib.hid (fun (g : Good xs m) => (by have := g.text; rw [HX.out] at this; exact this : textOk x.kind x.text = true))
    have hgr := Lib.hid (fun (g : Good xs m) => (by have := g.kind; rw [HX.out] at this; exact this : 1 ≤ x.kind ∧ x.kind ≤ 22))
    have hgn := Lib.hid (fun (g : Good xs m) => (by have := g.count; rw [HX.out] at this; exact this : loK x.kind ≤ x.kids.length ∧ x.kids.length ≤ hiK x.kind))
    have hgf := Lib.hid (good_fitS HX.out)
    have hgk := Lib.hid (good_kids HX.out)
    have hgb := Lib.hid (fun (g : Good xs m) => (by have := g.blank; rw [HX.out, blank_iff] at this; exact this : ((isStp x.kind || (x.kind == 19)) || (x.kind == 20) || (x.kind == 21)) = true ∨ x.blank = false))
    have hgo := Lib.hid (good_ofS (x := x) HX.out hmz hmi)
    rw [blank_iff] at hgo
    obtain ⟨kind, text, kids, blank⟩ := x
    simp only at d0 d1 d2 d3 hk hsx hkl hkc
    have hlo0 : (0 : Int) ≤ (loK kind : Int) := by omega
    by_cases hkind : 1 ≤ kind ∧ kind ≤ 22
    · have hK := Lib.hid (l01In_yes kind 1 22 w hkind.1 hkind.2)
      have HKI := Lib.hid hkind
      clear hkind
      go_enter Tryz.func66, Tryz.ntmps66
      go_wp2_with fail
      refine hN.out.mono ?_
      rintro e w' ⟨rfl, hw⟩
      subst hw
      go_wp2_with fail
      refine hK.out.mono ?_
      rintro e w' ⟨rfl, hw⟩
      subst hw
      go_wp2_with fail
      generalize hX : Obj.cells #[Value.int IntKind.i64 kind, Value.string text, Value.slice ka kids.length kc, Value.bool blank] 38 = X
      have hbX : Below w.heap.size w (w.alloc X) := (Below.refl _ _).alloc (Nat.le_refl _) _
      have hsX : (w.alloc X).heap.size = w.heap.size + 1 := by simp
      have x0 : (w.alloc X).cell? ⟨w.heap.size, 0, none⟩ = some (.int .i64 kind) := by rw [← hX]; exact cell_heap (j := 0) (heap_alloc_new w _) rfl
      have x1 : (w.alloc X).cell? ⟨w.heap.size, 1, none⟩ = some (.string text) := by rw [← hX]; exact cell_heap (j := 1) (heap_alloc_new w _) rfl
      have x2 : (w.alloc X).cell? ⟨w.heap.size, 2, none⟩ = some (.slice ka kids.length kc) := by rw [← hX]; exact cell_heap (j := 2) (heap_alloc_new w _) rfl
      have x3 : (w.alloc X).cell? ⟨w.heap.size, 3, none⟩ = some (.bool blank) := by rw [← hX]; exact cell_heap (j := 3) (heap_alloc_new w _) rfl
      generalize w.alloc X = w0 at *
      clear hX
      refine (l05Count_any kind _ HKI.out).mono ?_
      rintro e w' ⟨rfl, hw⟩
      subst hw
      go_wp2_with fail
      by_cases hcn : loK kind ≤ kids.length ∧ kids.length ≤ hiK kind
      · refine (l01In_yes kids.length (loK kind) (hiK kind) _ (by omega) (by omega)).mono ?_
        rintro e w' ⟨rfl, hw⟩
        subst hw
        have HCN := Lib.hid hcn
        clear hcn
        go_wp2_with fail
        refine (l05Text_any kind text _ (by omega)).mono ?_
        rintro e w' ⟨rfl, hw⟩
        subst hw
        cases ht : textOk kind text with
        | false =>
          have HF := Lib.hid (nodeOk_no (xs := xs) (k := m) (fun g => by have h : textOk kind text = true := hgt.out g; rw [ht] at h; cases h))
          go_wp2
          go_ret
          exact ⟨ret_bool HF.out.symm, hbX⟩
        | true =>
          have HT := Lib.hid ht
          clear ht
          have HKD : Hid (∀ i, kd (⟨kind, text, kids, blank⟩ : Node) i = kids.getD i 0) := fun i => rfl
          have HC1 : Hid (∀ wr, Below w0.heap.size w0 wr → wr.cell? ⟨w.heap.size, 0, none⟩ = some (.int .i64 kind) ∧ wr.cell? ⟨w.heap.size, 2, none⟩ = some (.slice ka kids.length kc)) := fun wr hb => ⟨(hb.cell (p := ⟨w.heap.size, 0, none⟩) (by show w.heap.size < _; omega)).trans x0, (hb.cell (p := ⟨w.heap.size, 2, none⟩) (by show w.heap.size < _; omega)).trans x2⟩
          have HBW : Hid (∀ wr, Below w0.heap.size w0 wr → Below w.heap.size w wr) := fun wr hb => hbX.trans (hb.mono (by omega))
          obtain ⟨dS, eS⟩ : ∃ d, (isStp kind || (kind == 19)) = d := ⟨_, rfl⟩
          have HSt := Lib.hid (l05Statement_any kind w0)
          rw [eS] at HSt
          have HBC : Hid ((dS = true ∨ kind = 20 ∨ kind = 21) ∨ blank = false → ((isStp kind || (kind == 19)) || (kind == 20) || (kind == 21)) = true ∨ blank = false) := by
            rintro ((h | h | h) | h)
            · rw [eS, h]; exact .inl rfl
            · subst h; exact .inl rfl
            · subst h; exact .inl rfl
            · exact .inr h
          have HBN : Hid (Good xs m → (dS = true ∨ kind = 20 ∨ kind = 21) ∨ blank = false) := fun g => by
            have h := hgb.out g
            simp only [eS] at h
            rw [Bool.or_eq_true, Bool.or_eq_true, beq_iff_eq, beq_iff_eq] at h
            rcases h with ((h | h) | h) | h
            · exact .inl (.inl h)
            · exact .inl (.inr (.inl h))
            · exact .inl (.inr (.inr h))
            · exact .inr h
          clear eS
          rcases Bool.eq_false_or_eq_true blank with hbl | hbl
          case' inl =>
            go_wp2_with fail
            refine HSt.out.mono ?_
            rintro e w' ⟨rfl, hw⟩
            subst hw
            cases dS
            case' false =>
              cases n20 : (kind != 20)
              case' true =>
                cases n21 : (kind != 21)
                case true =>
                  have HF := Lib.hid (nodeOk_no (xs := xs) (k := m) (fun g => by
                    have h := HBN.out g
                    have h20 : kind ≠ 20 := by simpa using n20
                    have h21 : kind ≠ 21 := by simpa using n21
                    simp [h20, h21, hbl] at h))
                  go_wp2
                  go_ret
                  exact ⟨ret_bool HF.out.symm, hbX⟩
          all_goals
            have HB := Lib.hid (HBC.out (by first | exact .inr hbl | exact .inl (.inl rfl) | exact .inl (.inr (.inl (by simpa using n20))) | exact .inl (.inr (.inr (by simpa using n21)))))
            clear HBC HBN HSt
            go_wp2
            try clear n21
            try clear n20
            clear hbl
            go_loopw [8] (fun i wr => ∃ j : Nat, j ≤ kids.length ∧ i = .int .i64 j ∧ Hid (KidsOk m ⟨kind, text, kids, blank⟩ j) ∧ Below w0.heap.size w0 wr) (fun i _ => kids.length - (intOf i).toNat)
            case atStart => exact ⟨0, Nat.zero_le _, rfl, (fun i hi => absurd hi (Nat.not_lt_zero _)), Below.refl _ _⟩
            case round =>
              obtain ⟨j, hj, rfl, HA, hbr⟩ := hrel
              have hsr := hbr.size
              have hbW := HBW.out wr hbr
              have hkr := hk.below hbW hh
              obtain ⟨y0, y2⟩ := HC1.out wr hbr
              by_cases hlt : j < kids.length
              · obtain ⟨kb, koff, rfl, _, khi, kc0⟩ := hkr.intAt hlt
                have hji : (j : Int) < (kids.length : Int) := by omega
                have hjz : (0 : Int) ≤ (j : Int) := by omega
                have HNK := Lib.hid (fun (g : Good xs m) => hgk.out g j hlt)
                have HSK := Lib.hid (kidsOk_succ HA.out)
                obtain ⟨kj, hkj⟩ : ∃ kj, Hid (kids.getD j 0 = kj) := ⟨_, rfl⟩
                rw [HKD.out j, hkj.out] at HNK HSK
                rw [hkj.out] at kc0
                by_cases hrg : 0 ≤ kj ∧ kj < (m : Int)
                · have HI := Lib.hid (l01In_yes (kj) 0 ((m : Int) - 1) wr hrg.1 (by omega))
                  have HRG := Lib.hid hrg
                  clear hrg
                  go_wp2_with fail
                  refine HI.out.mono ?_
                  rintro e w' ⟨rfl, hw⟩
                  subst hw
                  clear HI
                  go_wp2
                  go_loopw [9] (fun i w2 => ∃ t : Nat, t ≤ j ∧ i = .int .i64 t ∧ Hid (∀ s, s < t → kids.getD s 0 ≠ kj) ∧ Below w0.heap.size w0 w2) (fun i _ => j - (intOf i).toNat)
                  case atStart => exact ⟨0, Nat.zero_le _, rfl, (fun s hs => absurd hs (Nat.not_lt_zero _)), hbr⟩
                  case round =>
                    clear y0 y2 kc0 hkr hbW hsr hbr
                    obtain ⟨t, ht, rfl, HT2, hb2⟩ := hrel
                    have hs2 := hb2.size
                    have hbW := HBW.out _ hb2
                    obtain ⟨y0, y2⟩ := HC1.out _ hb2
                    have hkr := hk.below hbW hh
                    by_cases htj : t < j
                    · have hti : (t : Int) < (j : Int) := by omega
                      have htk : (t : Int) < (kids.length : Int) := by omega
                      have htz : (0 : Int) ≤ (t : Int) := by omega
                      have kc0 := hkr.cellsAt j hlt
                      have kc1 := hkr.cellsAt t (by omega)
                      obtain ⟨kt, hkt⟩ : ∃ kt, Hid (kids.getD t 0 = kt) := ⟨_, rfl⟩
                      rw [hkj.out] at kc0
                      rw [hkt.out] at kc1
                      cases heq : (kj == kt) with
                      | true =>
                        have HF := Lib.hid (nodeOk_no (xs := xs) (k := m) (fun g => by
                          have h := (HNK.out g).2 t htj
                          rw [HKD.out t, hkt.out] at h
                          exact h (by simpa using (beq_iff_eq.1 heq).symm)))
                        go_wp2_with fail
                        go_quiet (fail)
                        go_wp2
                        go_ret
                        exact ⟨ret_bool HF.out.symm, blw_drewN hbW _⟩
                      | false =>
                        have HNE : Hid (∀ s, s < t + 1 → kids.getD s 0 ≠ kj) := by
                          intro s hs e
                          by_cases c : s = t
                          · subst c; rw [hkt.out] at e; rw [e] at heq; simp at heq
                          · exact HT2.out s (by omega) e
                        go_wp2_with fail
                        go_quiet (fail)
                        go_wp2
                        go_roundw
                        case rel => exact ⟨t + 1, by omega, by go_num, HNE.out, blw_drewN hb2 _⟩
                        case measure => simp [intOf]; omega
                    · have hti : ¬ (t : Int) < (j : Int) := by omega
                      have HKK := Lib.hid (HSK.out HRG.out (fun s hs => by rw [HKD.out s]; exact HT2.out s (by omega)))
                      go_wp2
                      go_roundw
                      case rel => exact ⟨j + 1, by omega, by go_num, HKK.out, hb2⟩
                      case measure => simp [intOf]; omega
                · have HI := Lib.hid (l01In_no (kj) 0 ((m : Int) - 1) wr (by omega))
                  have HF := Lib.hid (nodeOk_no (xs := xs) (k := m) (fun g => hrg (HNK.out g).1))
                  clear hrg
                  go_wp2_with fail
                  refine HI.out.mono ?_
                  rintro e w' ⟨rfl, hw⟩
                  subst hw
                  go_wp2
                  go_ret
                  exact ⟨ret_bool HF.out.symm, hbW⟩
              · have hji : ¬ (j : Int) < (kids.length : Int) := by omega
                have HK1 : Hid (KidsOk m ⟨kind, text, kids, blank⟩ kids.length) := by have e := HA.out; rwa [show j = kids.length by omega] at e
                go_wp2
                go_loopw [10] (fun i w2 => ∃ t : Nat, t ≤ kids.length ∧ i = .int .i64 t ∧ Hid (FitsS xs ⟨kind, text, kids, blank⟩ t) ∧ Below w0.heap.size w0 w2) (fun i _ => kids.length - (intOf i).toNat)
                case atStart => exact ⟨0, Nat.zero_le _, rfl, (fun i hi => absurd hi (Nat.not_lt_zero _)), hbr⟩
                case round =>
                  clear y0 y2 hkr hbW hsr hbr HA
                  obtain ⟨t, ht, rfl, HF2, hb2⟩ := hrel
                  have hs2 := hb2.size
                  have hbW := HBW.out _ hb2
                  obtain ⟨y0, y2⟩ := HC1.out _ hb2
                  have hkr := hk.below hbW hh
                  by_cases hlt : t < kids.length
                  · obtain ⟨kb, koff, rfl, _, khi, kc0⟩ := hkr.intAt hlt
                    have hti : (t : Int) < (kids.length : Int) := by omega
                    have htz : (0 : Int) ≤ (t : Int) := by omega
                    have hbd := (HK1.out t hlt).1
                    have HFN := Lib.hid (fun (g : Good xs m) => hgf.out g t hlt)
                    have HFS := Lib.hid (fitsS_succ HF2.out)
                    have HFT := Lib.hid (HFits.out t hlt)
                    rw [HKD.out t] at hbd HFN HFS HFT
                    obtain ⟨q, hq⟩ : ∃ q : Nat, kids.getD t 0 = (q : Int) := ⟨(kids.getD t 0).toNat, by omega⟩
                    rw [hq] at kc0 hbd HFN HFS HFT
                    clear hq
                    have hql : q < xs.length := by omega
                    have hqi : (q : Int) < (xs.length : Int) := by omega
                    have hqz : (0 : Int) ≤ (q : Int) := by omega
                    obtain ⟨b', off', ya, yc, eb, _, hhy, q0, q1, q2, q3, hry0⟩ := H5.out q hql
                    injection eb with eb
                    injection eb with e1 e2
                    subst e1; subst e2
                    have t0 := (hbW.cell (p := ⟨b, _, none⟩) (by show b < _; omega)).trans q0
                    have t1 := (hbW.cell (p := ⟨b, _, none⟩) (by show b < _; omega)).trans q1
                    have t2 := (hbW.cell (p := ⟨b, _, none⟩) (by show b < _; omega)).trans q2
                    have t3 := (hbW.cell (p := ⟨b, _, none⟩) (by show b < _; omega)).trans q3
                    have hry := hry0.below hbW hh
                    rw [nd_at hql] at HFN HFS HFT
                    have HFT2 := Lib.hid (fun hc w1 h1 h2 => HFT.out ⟨hqz, hqi⟩ hc HKI.out w1 h1 h2)
                    clear q0 q1 q2 q3 hry0 hbd HFT
                    generalize xs[q] = y at *
                    obtain ⟨yk, yt, ys, yb⟩ := y
                    simp only at t0 t1 t2 t3 hry
                    obtain ⟨_, hyl, hyc⟩ := hry.lenEq
                    have hrA : Hid (∀ Y, Rd nodeS lo hi (wr.alloc Y) (.slice (some ⟨b, off, none⟩) xs.length c) xs ∧ hi ≤ (wr.alloc Y).heap.size ∧ Below w0.heap.size w0 (wr.alloc Y) ∧ Below wr.heap.size wr (wr.alloc Y)) := by
                      intro Y
                      have hY : Below wr.heap.size wr (wr.alloc Y) := (Below.refl _ _).alloc (Nat.le_refl _) Y
                      have hY0 : Below w0.heap.size w0 (wr.alloc Y) := hb2.alloc hs2 Y
                      have h1 := (HBW.out _ hY0).size
                      exact ⟨HR.out.below (HBW.out _ hY0) hh, by omega, hY0, hY⟩
                    generalize hFV : fitS xs ⟨kind, text, kids, blank⟩ t = fv at *
                    clear hFV
                    by_cases h5k : yk = 5
                    · have t5 : (yk == 5) = true := by rw [h5k]; rfl
                      by_cases hy0 : 0 < ys.length
                      · obtain ⟨yb2, yoff, rfl, _, _, yc0⟩ := hry.intAt hy0
                        rw [Nat.add_zero] at yc0
                        have yc1 := al1 yc0
                        have y21 := al1 y2
                        have hyz : ((ys.length : Int) == 0) = false := eqfS (by omega)
                        have hyi : (0 : Int) < (ys.length : Int) := by omega
                        obtain ⟨f, hf⟩ : ∃ f, Hid (ys.getD 0 0 = f) := ⟨_, rfl⟩
                        rw [hf.out] at yc1
                        have HCO : Hid (callOk xs ⟨yk, yt, ys, yb⟩ ↔ 0 ≤ f ∧ f < xs.length) := by
                          show callOk xs ⟨yk, yt, ys, yb⟩ ↔ _
                          unfold callOk kd
                          rw [hf.out]
                          exact ⟨fun h => (h h5k).2, fun h _ => ⟨hy0, h⟩⟩
                        clear yc0 h5k hy0 hf
                        go_wp2_with fail
                        by_cases hfr : 0 ≤ f ∧ f < xs.length
                        · refine (l01In_yes f 0 ((xs.length : Int) - 1) _ hfr.1 (by omega)).mono ?_
                          rintro e w' ⟨rfl, rfl⟩
                          have HC := Lib.hid (HCO.out.2 hfr)
                          clear hfr HCO
                          go_wp2_with fail
                          refine (HFT2.out HC.out _ (hrA.out _).1 (hrA.out _).2.1).mono ?_
                          rintro e w3 ⟨rfl, hb3⟩
                          have hb4 : Below w0.heap.size w0 w3 := (hrA.out _).2.2.1.trans (hb3.mono (hrA.out _).2.2.1.size)
                          cases fv with
                          | false =>
                            have HF := Lib.hid (nodeOk_no (xs := xs) (k := m) (fun g => by have h := (HFN.out g).2; cases h))
                            go_wp2
                            go_ret
                            exact ⟨ret_bool HF.out.symm, HBW.out _ hb4⟩
                          | true =>
                            have HR1 := Lib.hid (HFS.out HC.out rfl)
                            go_wp2
                            go_roundw
                            case rel => exact ⟨t + 1, by omega, by go_num, HR1.out, hb4⟩
                            case measure => simp [intOf]; omega
                        · refine (l01In_no f 0 ((xs.length : Int) - 1) _ (by omega)).mono ?_
                          rintro e w' ⟨rfl, rfl⟩
                          have HF := Lib.hid (nodeOk_no (xs := xs) (k := m) (fun g => hfr (HCO.out.1 (HFN.out g).1)))
                          clear hfr HCO
                          go_wp2
                          go_ret
                          exact ⟨ret_bool HF.out.symm, HBW.out _ (hrA.out _).2.2.1⟩
                      · have hyz : ((ys.length : Int) == 0) = true := by rw [beq_iff_eq]; omega
                        have HF := Lib.hid (nodeOk_no (xs := xs) (k := m) (fun g => hy0 ((HFN.out g).1 h5k).1))
                        clear h5k
                        go_wp2
                        go_ret
                        exact ⟨ret_bool HF.out.symm, HBW.out _ (hrA.out _).2.2.1⟩
                    · have t5 : (yk == 5) = false := eqfS h5k
                      have HC : Hid (callOk xs ⟨yk, yt, ys, yb⟩) := fun h => absurd h h5k
                      clear h5k
                      go_wp2_with fail
                      refine (HFT2.out HC.out _ (hrA.out _).1 (hrA.out _).2.1).mono ?_
                      rintro e w3 ⟨rfl, hb3⟩
                      have hb4 : Below w0.heap.size w0 w3 := (hrA.out _).2.2.1.trans (hb3.mono (hrA.out _).2.2.1.size)
                      cases fv with
                      | false =>
                        have HF := Lib.hid (nodeOk_no (xs := xs) (k := m) (fun g => by have h := (HFN.out g).2; cases h))
                        go_wp2
                        go_ret
                        exact ⟨ret_bool HF.out.symm, HBW.out _ hb4⟩
                      | true =>
                        have HR1 := Lib.hid (HFS.out HC.out rfl)
                        go_wp2
                        go_roundw
                        case rel => exact ⟨t + 1, by omega, by go_num, HR1.out, hb4⟩
                        case measure => simp [intOf]; omega
                  · have hti : ¬ (t : Int) < (kids.length : Int) := by omega
                    have HF := Lib.hid (nodeOk_iff.2 (hgo.out HKI.out HT.out HCN.out HK1.out (by have e := HF2.out; rwa [show t = kids.length by omega] at e) HB.out))
                    go_wp2
                    go_ret
                    exact ⟨ret_bool HF.out.symm, hbW⟩
      · refine (l01In_no kids.length (loK kind) (hiK kind) _ (by omega)).mono ?_
        rintro e w' ⟨rfl, hw⟩
        subst hw
        have HF := Lib.hid (nodeOk_no (xs := xs) (k := m) (fun g => hcn (hgn.out g)))
        clear hcn
        go_wp2
        go_ret
        exact ⟨ret_bool HF.out.symm, hbX⟩
    · have hK := Lib.hid (l01In_no kind 1 22 w hkind)
      have HF := Lib.hid (nodeOk_no (xs := xs) (k := m) (fun g => hkind (hgr.out g)))
      clear hkind
      go_enter Tryz.func66, Tryz.ntmps66
      go_wp2_with fail
      refine hN.out.mono ?_
      rintro e w' ⟨rfl, hw⟩
      subst hw
      go_wp2_with fail
      refine hK.out.mono ?_
      rintro e w' ⟨rfl, hw⟩
      subst hw
      go_wp2
      go_ret
      exact ⟨ret_bool HF.out.symm, Below.refl _ _⟩
  · have hN := Lib.hid (l01In_no k 0 ((xs.length : Int) - 1) w (by omega))
    have HF := Lib.hid (nodeOk_no (xs := xs) (k := k) (fun g => hin ⟨g.low, g.high⟩))
    go_enter Tryz.func66, Tryz.ntmps66
    go_wp2_with fail
    refine hN.out.mono ?_
    rintro e w' ⟨rfl, rfl⟩
    go_wp2
    go_ret
    exact ⟨ret_bool HF.out.symm, Below.refl _ _⟩
end Go.Proofs.YtoloplpmjcgbdaaGreatDoor
