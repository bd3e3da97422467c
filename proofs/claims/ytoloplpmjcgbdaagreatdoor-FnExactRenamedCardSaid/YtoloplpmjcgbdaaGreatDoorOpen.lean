/- The arguments of a law, opened: what can be read as data reads as Lean values; and the law's frame: a call that answers true and leaves the old blocks alone meets the row's post. -/
import Derived.Test.YtoloplpmjcgbdaaGreatDoorRows
import Derived.Test.YtoloplpmjcgbdaaGreatDoorMem
import Derived.ProofKit
import Derived.Deep.Slices
namespace Go.Proofs.YtoloplpmjcgbdaaGreatDoor
open Go.ChangeShapes Go.WideShapes Go.ChangeAt Go.RowKit Go.Deep
open Go.ChangeMaps (open_string shut_string)

theorem Tryz.own : ownKnob Tryz.prog.godebug = none := by kernel_rfl
theorem Tryz.laidOut : laidOutB Tryz.prog = true := by kernel_rfl

theorem Tryz.cellsInt : Tryz.prog.cellsOf 3 = 1 := by kernel_rfl
theorem Tryz.cellsStr : Tryz.prog.cellsOf 9 = 1 := by kernel_rfl
theorem Tryz.cellsBool : Tryz.prog.cellsOf 4 = 1 := by kernel_rfl
theorem list1 {α : Type} {cs : List α} (h : cs.length = 1) : ∃ a, cs = [a] := by
  match cs, h with
  | [a], _ => exact ⟨a, rfl⟩
theorem list_cons {α : Type} {cs : List α} {n : Nat} (h : cs.length = n + 1) : ∃ a r, cs = a :: r ∧ r.length = n := by
  match cs, h with
  | a :: r, h => exact ⟨a, r, rfl, by simpa using h⟩
theorem list_nil {α : Type} {cs : List α} (h : cs.length = 0) : cs = [] := List.eq_nil_of_length_eq_zero h

def I64 (n : Int) : Prop := -9223372036854775808 ≤ n ∧ n ≤ 9223372036854775807
theorem I64.of_wf {n : Int} (h : (Lit.int .i64 n).wf = true) : I64 n := by
  simp [Lit.wf, IntKind.min, IntKind.max, IntKind.signed, IntKind.bits] at h
  unfold I64; omega

/-- Whatever is read at type t reads by the shape S, in old blocks. -/
def Opens {α : Type} (P : Program) (S : Shape α) (t : TypeId) (ok : α → Prop) : Prop :=
  ∀ (H : Type) (enc : TypeId × Value → H) (w : World) (base : Nat) (spare : Nat → Bool) (held : Bool) (fuel : Nat) (cs : List Value) (x : DataW H × List MemPlace),
    DataW.trod enc P w base spare held fuel t cs = some x → ∃ a, S.rel 0 w.heap.size w a cs ∧ ok a

def intF : Flat Int := ⟨1, fun x => [.int .i64 x], fun _ => rfl, fun x u h => by
  simp only [List.mem_cons, List.not_mem_nil, or_false] at h
  subst h; rfl⟩
def strF : Flat ByteArray := ⟨1, fun x => [.string x], fun _ => rfl, fun x u h => by
  simp only [List.mem_cons, List.not_mem_nil, or_false] at h
  subst h; rfl⟩
def bolF : Flat Bool := ⟨1, fun x => [.bool x], fun _ => rfl, fun x u h => by
  simp only [List.mem_cons, List.not_mem_nil, or_false] at h
  subst h; rfl⟩
def SzOk (s : ByteArray) : Prop := s.size ≤ maxLen

theorem opens_int {P : Program} {t : TypeId} (h : P.underlying t = some (.int .i64)) : Opens P intF.shape t I64 := by
  intro H enc w base spare held fuel cs x hx
  obtain ⟨n, rfl, _, hw⟩ := DataW.trod_int h hx
  exact ⟨n, rfl, .of_wf hw⟩
theorem opens_str {P : Program} {t : TypeId} (h : P.underlying t = some .string) : Opens P strF.shape t SzOk := by
  intro H enc w base spare held fuel cs x hx
  obtain ⟨s, rfl, _, hs⟩ := DataW.trod_string h hx
  exact ⟨s, rfl, hs⟩
theorem opens_bool {P : Program} {t : TypeId} (h : P.underlying t = some .bool) : Opens P bolF.shape t (fun _ => True) := by
  intro H enc w base spare held fuel cs x hx
  obtain ⟨b, rfl, _⟩ := DataW.trod_bool h hx
  exact ⟨b, rfl, trivial⟩

theorem opens_sl {α : Type} {P : Program} {S : Shape α} {t e : TypeId} {ok : α → Prop} (h : P.underlying t = some (.slice e)) (hs : P.cellsOf e = S.size) (hp : 0 < S.size) (hS : Opens P S e ok) :
    Opens P S.sl t (fun xs => ∀ x ∈ xs, ok x) := by
  intro H enc w base spare held fuel cs x hx
  rcases open_slice h hx with ⟨rfl, _⟩ | ⟨a, len, cap, m, n, D, Pl, rfl, hb, hl, hm, hmm, _, hi⟩
  · exact ⟨[], ⟨_, rfl, Rd.nil _ _ _ _⟩, fun x hx => by cases hx⟩
  · have hlm : len ≤ m := by rw [hmm]; split <;> omega
    rw [hs] at hi
    have key : ∀ i, i < len → ∃ y, (∃ cs', S.rel 0 w.heap.size w y cs' ∧ a.spot = none ∧ ∀ j u, cs'[j]? = some u → w.cell? ⟨a.block, a.off + i * S.size + j, none⟩ = some u) ∧ ok y := by
      intro i him
      obtain ⟨cs', hc, ht⟩ := hi i (by omega)
      obtain ⟨_, hcl, hat⟩ := World.cells?_some hc
      obtain ⟨y, hy, hok⟩ := hS H enc w base spare held n cs' _ ht
      have hspot : a.spot = none := by
        obtain ⟨cs0, h0, _⟩ := hi 0 (by omega)
        rw [Nat.zero_mul] at h0
        obtain ⟨_, hcl0, hat0⟩ := World.cells?_some h0
        have h1 := hat0 0 hp
        have h2 : (a.add 0).add 0 = a := rfl
        rw [h2, List.getElem?_eq_getElem (by omega)] at h1
        cases hsp : a.spot with
        | none => rfl
        | some q =>
          unfold World.cell? at h1
          rw [hsp] at h1
          split at h1 <;> simp at h1
      refine ⟨y, ⟨cs', hy, hspot, fun j u hu => ?_⟩, hok⟩
      have hj : j < S.size := by
        have := (List.getElem?_eq_some_iff.1 hu).1
        omega
      have h1 := hat j hj
      rw [hu] at h1
      obtain ⟨ab, ao, asp⟩ := a
      simp only at hspot
      subst hspot
      rwa [Addr.add_lit, Addr.add_lit] at h1
    obtain ⟨xs, hxl, hxs⟩ := list_of len key
    refine ⟨xs, ⟨_, rfl, some a, cap, by rw [hxl], by omega, hm, (fun e => by cases e), fun k hk => ?_⟩, fun x hx => ?_⟩
    · obtain ⟨⟨cs', h1, h2, h3⟩, _⟩ := hxs k hk
      have hlt : a.block < w.heap.size := by
        have hne : 0 < cs'.length := by rw [S.len h1]; exact hp
        exact Go.block_lt_of_cell (a := ⟨a.block, _, none⟩) (h3 0 _ (List.getElem?_eq_getElem hne))
      refine ⟨a.block, a.off, cs', ?_, Nat.zero_le _, hlt, h1, h3⟩
      obtain ⟨ab, ao, asp⟩ := a
      simp only at h2
      subst h2
      rfl
    · obtain ⟨i, hi, rfl⟩ := List.mem_iff_getElem.1 hx
      exact (hxs i hi).2

/-- A slice argument. -/
theorem open_sl {α : Type} {P : Program} {S : Shape α} {t e : TypeId} {ok : α → Prop} {H : Type} {enc : TypeId × Value → H} {w : World} {base b0 : Nat} {spare : Nat → Bool} {held : Bool} {r : Reach} {v : Value} {d : DataW H} {p : List MemPlace}
    (ht : P.underlying t = some (.slice e)) (hO : Opens P S.sl t (fun xs => ∀ x ∈ xs, ok x)) (hv : Value.okWide P w r b0 t v) (h : DataW.Trod enc P w base spare held t v d p) : ∃ xs, Rd S 0 w.heap.size w v xs ∧ ∀ x ∈ xs, ok x := by
  obtain ⟨a, len, cap, rfl⟩ := okWide_slice ht hv
  obtain ⟨fuel, hf⟩ := h
  obtain ⟨xs, ⟨v', hv', hr⟩, hok⟩ := hO H enc w base spare held fuel _ _ hf
  obtain rfl : Value.slice a len cap = v' := by simpa [Value.cells] using hv'
  exact ⟨xs, hr, hok⟩
/-- A struct argument. -/
theorem open_st {α : Type} {P : Program} {S : Shape α} {t : TypeId} {fs : Array Field} {ok : α → Prop} {H : Type} {enc : TypeId × Value → H} {w : World} {base b0 : Nat} {spare : Nat → Bool} {held : Bool} {r : Reach} {v : Value} {d : DataW H} {p : List MemPlace}
    (ht : P.underlying t = some (.struct fs)) (hO : Opens P S t ok) (hv : Value.okWide P w r b0 t v) (h : DataW.Trod enc P w base spare held t v d p) : ∃ x cs, v = .agg cs ∧ S.rel 0 w.heap.size w x cs.toList ∧ ok x := by
  obtain ⟨cs, rfl, _⟩ := okWide_struct ht hv
  obtain ⟨fuel, hf⟩ := h
  obtain ⟨x, hr, hok⟩ := hO H enc w base spare held fuel _ _ hf
  exact ⟨x, cs, rfl, hr, hok⟩

section
variable {H : Type} {enc : TypeId × Value → H} {P : Program}
theorem trodAll_below (hl : laidOutB P = true) {W W' : World} {sp : Nat → Bool} : ∀ {ts : List TypeId} {vs : List Value} {ds : List (DataW H)} {p : List MemPlace},
    (∀ t ∈ ts, P.readableRec t = true ∧ t < P.types.size) → DataW.TrodAll enc P W 0 (fun _ => true) true ts vs ds p → (∀ x ∈ p, W.sameAt W' x) → (∀ x ∈ p, sp x.block = true) → DataW.TrodAll enc P W' 0 sp true ts vs ds p
  | [], vs, ds, p, _, h, _, _ => by
    obtain ⟨rfl, rfl, rfl⟩ := trodAll_nil h
    rfl
  | t :: ts, vs, ds, p, hr, h, hs, hsp => by
    obtain ⟨v, vs', d, ds', p1, q, rfl, rfl, rfl, h1, h2⟩ := trodAll_cons h
    exact ⟨p1, q, WideElems.Trod_stays hl (hr t (by simp)).1 (hr t (by simp)).2 h1 (fun x hx => hs x (by simp [hx])) (fun x hx => hsp x (by simp [hx])),
      trodAll_below hl (fun t' ht' => hr t' (by simp [ht'])) h2 (fun x hx => hs x (by simp [hx])) (fun x hx => hsp x (by simp [hx])), rfl⟩

/-- A call that answered true and left the old blocks alone. -/
theorem law_post {f : Func} {s : ChangeSpec} {apart fresh handsOn again : Bool} {W W' : World} {args : Array Value} {ds gs : List (DataW H)} {before : List MemPlace} {tb : TypeId}
    (hl : laidOutB P = true) (hr : ∀ t ∈ f.params.toList, P.readableRec t = true ∧ t < P.types.size)
    (hW : DataW.Whole enc P f.params.toList s.vars apart W args.toList ds gs before) (hvars : s.vars = []) (hrt : f.resultTypes = #[tb]) (htb : P.underlying tb = some .bool)
    (hres : (s.fn H (ds ++ gs)).results = [.lit (.bool true)]) (hargs : (s.fn H (ds ++ gs)).args = ds) (hvs : (s.fn H (ds ++ gs)).vars = [])
    (hb : Below W.heap.size W W') : s.post enc P f apart fresh handsOn again W args (.bool true) W' := by
  have hW0 := hW
  obtain ⟨p, q, hA, hV, rfl, hfz, hnd⟩ := hW
  rw [hvars] at hV
  obtain ⟨rfl, rfl⟩ := trodVars_none hV
  have hlt : ∀ x ∈ p ++ [], x.block < W.heap.size := fun x hx => by simpa using hW0.lt x hx
  have hs : ∀ x ∈ p, W.sameAt W' x := fun x hx => hb.same (hlt x (by simp [hx]))
  have hA' : ∀ sp : Nat → Bool, (∀ x ∈ p, sp x.block = true) → DataW.TrodAll enc P W' 0 sp true f.params.toList args.toList (s.fn H (ds ++ [])).args p := fun sp hsp => by
    rw [hargs]
    exact trodAll_below hl hr hA hs hsp
  have hV' : ∀ sp : Nat → Bool, DataW.TrodVars enc P W' sp s.vars (s.fn H (ds ++ [])).vars [] := fun sp => by
    rw [hvs, hvars]
    rfl
  have hR' : ∀ (b : Nat) (sp : Nat → Bool) (hd : Bool), DataW.TrodAll enc P W' b sp hd f.resultTypes.toList ((Value.bool true).resultList f.resultTypes.size) (s.fn H (ds ++ [])).results [] := fun b sp hd => by
    rw [hres, hrt]
    exact trodAll_mk1 (shut_bool htb true)
  refine ⟨ds, [], p ++ [], [], p, [], hW0, hR' _ _ _, hA' _ (fun x hx => decide_eq_true (hlt x (by simp [hx]))), hV' _, World.keptBut_mono (fun x hx => ⟨hx, .inr (by simpa using hx)⟩) (hb.frame (· ∈ p ++ [])), fun _ => ?_⟩
  refine ⟨ok_one hrt rfl (okWide_bool_mk htb true), _, _, ([] ++ p) ++ [], ⟨[] ++ p, [], trodAll_append (hA' _ (fun _ _ => rfl)) (hR' _ _ _), hV' _, rfl, ?_, ?_⟩, ?_⟩
  · intro b off hx
    have hin : MemPlace.cell b off ∈ p ++ [] := by simpa using hx
    rw [hb.frozen (hlt _ hin)]
    exact hfz b off hin
  · intro ha
    simpa using hnd ha
  · intro x hx _
    simpa using hx
end
end Go.Proofs.YtoloplpmjcgbdaaGreatDoor
