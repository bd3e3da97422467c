/- Right values counted on, by the program and by the reference. -/
import Derived.Test.YtllpgomloblfjaaBestP
import Derived.Test.YtllpgomloblfjaaPieceOkS
import Derived.Test.YtllpgomloblfjaaApp
import Derived.Deep.Cut
import Derived.Deep.QuietTactic
namespace Go.Proofs.Ytllpgomloblfjaa
open Go.RowKit

def curV (v : List Int) (k : Nat) : List Int := v.take k ++ List.replicate (v.length - k) 0
theorem curV_len (v : List Int) {k : Nat} (h : k ≤ v.length) : (curV v k).length = v.length := by unfold curV; rw [List.length_append, List.length_take, List.length_replicate]; omega
theorem curV_all (v : List Int) : curV v v.length = v := by unfold curV; simp
theorem curV_at {v : List Int} {m : Nat} (h : m < v.length) : curV v (m + 1) = v.take m ++ v[m] :: List.replicate (v.length - m - 1) 0 := by
  unfold curV
  rw [List.take_succ_eq_append_getElem h, List.append_assoc, Nat.sub_sub]; rfl
theorem curV_set {v : List Int} {m : Nat} (h : m < v.length) (u : Int) : (curV v (m + 1)).set m u = v.take m ++ u :: List.replicate (v.length - m - 1) 0 := by
  have hl : (v.take m).length = m := by rw [List.length_take]; omega
  rw [curV_at h, List.set_append_right _ _ (by omega), hl, Nat.sub_self, List.set_cons_zero]
theorem curV_get {v : List Int} {m : Nat} (h : m < v.length) (h2 : m < (curV v (m + 1)).length) : (curV v (m + 1))[m] = v[m] := by
  have e := curV_at h
  have hl : (v.take m).length = m := by rw [List.length_take]; omega
  simp only [e]
  rw [List.getElem_append_right (by omega)]
  simp [hl]
theorem curV_zero {v : List Int} {m : Nat} (h : m < v.length) : (curV v (m + 1)).set m 0 = curV v m := by
  rw [curV_set h]
  unfold curV
  obtain ⟨d, hd⟩ : ∃ d, v.length - m = d + 1 := ⟨v.length - m - 1, by omega⟩
  rw [hd, List.replicate_succ, show d + 1 - 1 = d by omega]
theorem next_of {x : Piece} {v : List Int} {m : Nat} (h : m < v.length) (hr : m < x.rules.length) (h1 : v[m] + 1 < x.rules[m].values) (h2 : ∀ j (h : j < x.rules.length), m < j → x.rules[j].values ≤ v.getD j 0 + 1) : NextV x v ((curV v (m + 1)).set m (v[m] + 1)) := by
  have hl : (v.take m).length = m := by rw [List.length_take]; omega
  refine ⟨v.take m, v[m], v.drop (m + 1), ?_, ?_, ?_, ?_⟩
  · rw [← List.drop_eq_getElem_cons h, List.take_append_drop]
  · rw [curV_set h, List.length_drop, Nat.sub_sub]
  · simp only [hl]; exact ⟨hr, h1⟩
  · rw [hl]; exact h2
theorem own_cell1 {T lo hi g n c k : Nat} {w : World} {xs : List Int} (h : Own intF T lo hi w (.slice (some ⟨g, 0, none⟩) n c) xs) (hn : n = xs.length) (hk : k < xs.length) : w.cell? ⟨g, k, none⟩ = some (.int .i64 xs[k]) :=
  (congrArg (fun z => w.cell? ⟨g, z, none⟩) (Nat.mul_one k).symm).trans ((h.cell (j := 0) hn hk (by decide)).trans rfl)
theorem own_set1 {T lo hi g n c k : Nat} {w : World} {xs : List Int} (h : Own intF T lo hi w (.slice (some ⟨g, 0, none⟩) n c) xs) (hn : n = xs.length) (hk : k < xs.length) (u : Int) : Own intF T lo hi (w.setCell ⟨g, k, none⟩ (.int .i64 u)) (.slice (some ⟨g, 0, none⟩) n c) (xs.set k u) := by
  have := h.set (k := k) (j := 0) (u := .int .i64 u) (x := u) hn hk (by decide) rfl
  rwa [show k * intF.size + 0 = k from Nat.mul_one k] at this
/-- what a step on leaves -/
def NextPost (x : Piece) (v : List Int) (s : Value) (lo hi : Nat) (w : World) (e : Ending) (w' : World) : Prop :=
  Out lo hi w w' ∧ ((e = .returned (.bool true) ∧ ∃ v', NextV x v v' ∧ Own intF 3 lo hi w' s v') ∨ (e = .returned (.bool false) ∧ LastV x v))
set_option maxHeartbeats 2000000 in
set_option maxRecDepth 100000 in
theorem l10Next_spec (x : Piece) (v : List Int) (ra ca sa ta va : Option Addr) (rc cc sc tc vc lo hi lo' hi' : Nat) (w : World) (hp : PFour x ra rc ca cc sa sc ta tc lo hi w) (hd : hi ≤ lo') (hO : Own intF 3 lo' hi' w (.slice va v.length vc) v) (hh : lo' ≤ hi') (hh' : hi' ≤ w.heap.size) (hx : Right x) (hf : FullV x v) :
    Calls Try.prog 59 #[x.v ra rc ca cc sa sc ta tc, .slice va v.length vc] w (NextPost x v (.slice va v.length vc) lo' hi' w) := by
  obtain ⟨hrp, -, -, -⟩ := hp
  obtain ⟨hrl, hr5⟩ := at_rule hrp
  have hvl := hf.full
  have hx8 := hx.rules
  unfold Piece.v
  have hX0 := PBox.new x ra ca sa ta rc cc sc tc w
  have hb0 : Below w.heap.size w (w.alloc (.cells #[.int .i64 x.indent, .slice ra x.rules.length rc, .slice ca x.chunks.length cc, .slice sa x.spans.length sc, .slice ta x.ties.length tc] 29)) := (Below.refl _ _).alloc (Nat.le_refl _) _
  have HVL := Lib.hid hvl
  clear hvl
  go_enter Try.func59, Try.ntmps59
  go_wp2_with fail
  generalize w.alloc (.cells #[.int .i64 x.indent, .slice ra x.rules.length rc, .slice ca x.chunks.length cc, .slice sa x.spans.length sc, .slice ta x.ties.length tc] 29) = w0 at *
  have hs0 := hb0.size
  have hxl0 := hX0.lt
  have hO0 := hO.below hb0 hh'
  have hT0 : Out lo' hi' w w0 := Out.of_below hb0
  clear hb0 hO
  have hv8 : v.length ≤ 8 := by have := HVL.out; omega
  go_loopw [5] (fun i wr => ∃ k : Nat, k ≤ v.length ∧ i = .int .i64 ((k : Int) - 1) ∧ Own intF 3 lo' hi' wr (.slice va v.length vc) (curV v k) ∧ Hid (∀ j (h : j < x.rules.length), k ≤ j → x.rules[j].values ≤ v.getD j 0 + 1) ∧ Out lo' hi' w wr ∧ PBox x ra rc ca cc sa sc ta tc w.heap.size wr) (fun i _ => (intOf i + 1).toNat)
  case atStart => exact ⟨v.length, Nat.le_refl _, int_eq (IntWalk.wrap64_in _ (by omega)), by rw [curV_all]; exact hO0, (fun j hj hk => by have := HVL.out; omega), hT0, hX0⟩
  case round =>
    clear hO0 hT0 hX0 hxl0 hs0
    obtain ⟨k, hk, rfl, hO, HL, hT, hX⟩ := hrel
    have hsz := hT.size
    by_cases hk0 : k = 0
    · subst hk0
      have hLast : Hid (LastV x v) := fun j h => HL.out j h (Nat.zero_le _)
      clear HL
      go_wp2
      go_ret
      exact ⟨hT, .inr ⟨rfl, hLast.out⟩⟩
    · obtain ⟨m, rfl⟩ : ∃ m, k = m + 1 := ⟨k - 1, by omega⟩
      have hiz : (((m + 1 : Nat) : Int) - 1) = (m : Int) := by omega
      rw [hiz]
      have hmz : (m : Int) ≥ 0 := by omega
      have hmz2 : (0 : Int) ≤ (m : Int) := by omega
      have hmr : m < x.rules.length := by have := HVL.out; omega
      have hmi : (m : Int) < (v.length : Int) := by omega
      have hmi2 : (m : Int) < (x.rules.length : Int) := by omega
      obtain ⟨a', c', e0, -, -, hg⟩ := hO.form
      have hcl := curV_len v hk
      obtain ⟨g, e1, hg1, hg2⟩ := hg (by omega)
      obtain rfl : va = some ⟨g, 0, none⟩ := by injection e0 with e0 _ _; rw [e0, e1]
      clear e0 e1
      have cv := own_cell1 hO hcl.symm (k := m) (by omega)
      rw [curV_get (by omega)] at cv
      have fv := hO.frozen hcl.symm m
      obtain ⟨b, off, rfl, hlo, hhi, c0, -⟩ := hr5 m hmr
      have hbl : b < w.heap.size := by omega
      have d0 : wr.cell? ⟨b, off + m * 2, none⟩ = some (.int .i64 x.rules[m].values) := (World.cell?_of_block (a := ⟨b, _, none⟩) (hT.block b (by omega) (by omega))).trans c0
      have hbd := hf.val m hmr
      rw [getD_at (by omega)] at hbd
      have hrd := hx.rule m hmr
      have HNX : Hid (v[m] + 1 < x.rules[m].values → NextV x v ((curV v (m + 1)).set m (v[m] + 1))) := fun h => next_of (by omega) hmr h (fun j h hj => HL.out j h hj)
      have HLX : Hid (¬ v[m] + 1 < x.rules[m].values → ∀ j (h : j < x.rules.length), m ≤ j → x.rules[j].values ≤ v.getD j 0 + 1) := fun h j hj hm => by
        by_cases e : j = m
        · subst e; rw [getD_at (by omega)]; omega
        · exact HL.out j hj (by omega)
      have hOY := own_set1 hO hcl.symm (k := m) (by omega) (v[m] + 1)
      have hOZ := own_set1 hO hcl.symm (k := m) (by omega) 0
      rw [curV_zero (by omega)] at hOZ
      have hTY := hT.setCell (p := ⟨g, m, none⟩) hg1 hg2 (.int .i64 (v[m] + 1))
      have hTZ := hT.setCell (p := ⟨g, m, none⟩) hg1 hg2 (.int .i64 0)
      have hXg : w.heap.size ≠ g := by omega
      have hXY := hX.far (j := m) hXg (.int .i64 (v[m] + 1))
      have hXZ := hX.far (j := m) hXg (.int .i64 0)
      clear c0 HL
      obtain ⟨vm, hvm⟩ : ∃ vm : Int, v[m] = vm := ⟨_, rfl⟩
      obtain ⟨rv, hrv⟩ : ∃ rv : Int, x.rules[m].values = rv := ⟨_, rfl⟩
      rw [hvm] at cv hbd HNX HLX hOY hTY hXY
      rw [hrv] at d0 hbd hrd HNX HLX
      clear hvm hrv
      have hwv : IntKind.i64.wrap (vm + 1) = vm + 1 := IntWalk.i64_in _ (by omega)
      obtain ⟨p0, p1, p2, p3, p4⟩ := hX.five
      by_cases hlt : vm + 1 < rv
      · have HN := Lib.hid (HNX.out hlt)
        clear HNX HLX hOZ hTZ hXZ
        go_upto_region 4 with fail
        go_quiet (fail)
        have hOF : Own intF 3 lo' hi' ((wr.drewN nq).setCell ⟨g, m, none⟩ (.int .i64 (vm + 1))) (.slice (some ⟨g, 0, none⟩) v.length vc) ((curV v (m + 1)).set m (vm + 1)) := hOY
        have hTF := (hT.drewN nq).setCell (p := ⟨g, m, none⟩) hg1 hg2 (.int .i64 (vm + 1))
        have cF : (wr.drewN nq).cell? ⟨g, m, none⟩ = some (.int .i64 vm) := cv
        have fF : (wr.drewN nq).frozen? ⟨g, m, none⟩ = false := fv
        clear hOY hTY hXY cv fv d0 p0 p1 p2 p3 p4 hX hO hT
        generalize wr.drewN nq = w3 at *
        generalize (curV v (m + 1)).set m (vm + 1) = zs at *
        go_wp2
        go_ret
        exact ⟨hTF, .inl ⟨rfl, _, HN.out, hOF⟩⟩
      · have HN := Lib.hid (HLX.out hlt)
        clear HNX HLX hOY hTY hXY
        go_upto_region 4 with fail
        go_quiet (fail)
        have hOF : Own intF 3 lo' hi' ((wr.drewN nq).setCell ⟨g, m, none⟩ (.int .i64 0)) (.slice (some ⟨g, 0, none⟩) v.length vc) (curV v m) := hOZ
        have hTF := (hT.drewN nq).setCell (p := ⟨g, m, none⟩) hg1 hg2 (.int .i64 0)
        have hXF := (hX.drewN nq).far (j := m) hXg (.int .i64 0)
        have cF : (wr.drewN nq).cell? ⟨g, m, none⟩ = some (.int .i64 vm) := cv
        have fF : (wr.drewN nq).frozen? ⟨g, m, none⟩ = false := fv
        clear hOZ hTZ hXZ cv fv d0 p0 p1 p2 p3 p4 hX hO hT
        generalize wr.drewN nq = w3 at *
        go_wp2
        go_roundw
        case rel => exact ⟨m, by omega, by go_num, hOF, HN.out, hTF, hXF⟩
        case measure => first | (simp [intOf]; done) | (simp [intOf]; omega)
end Go.Proofs.Ytllpgomloblfjaa
