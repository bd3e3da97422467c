/- Split: how it lies in memory; the law's helpers for it. By gen.py. -/
import Derived.Test.YtllpgomloblfjaaMark
namespace Go.Proofs.Ytllpgomloblfjaa
open Go.RowKit
structure Split where
  rule : Int
  fro : Int
  space : Bool
  nest : Int
def splitF : Flat Split := ⟨4, fun x => [.int .i64 x.rule, .int .i64 x.fro, .bool x.space, .int .i64 x.nest], fun _ => rfl, fun x u h => by
  simp only [List.mem_cons, List.not_mem_nil, or_false] at h
  rcases h with h | h | h | h <;> subst h <;> rfl⟩
def Split.v (x : Split) : Value := .agg #[.int .i64 x.rule, .int .i64 x.fro, .bool x.space, .int .i64 x.nest]
def Split.zero : Split := ⟨0, 0, false, 0⟩
theorem Rd.splitF {lo hi : Nat} {w : World} {v : Value} {xs : List Split} (h : Rd splitF.shape lo hi w v xs) :
    ∃ a c, v = .slice a xs.length c ∧ xs.length ≤ c ∧ c ≤ maxLen ∧ (a = none → c = 0) ∧
      ∀ k (h : k < xs.length), ∃ b off, a = some ⟨b, off, none⟩ ∧ lo ≤ b ∧ b < hi ∧ w.cell? ⟨b, off + k * 4, none⟩ = some (.int .i64 xs[k].rule) ∧ w.cell? ⟨b, off + k * 4 + 1, none⟩ = some (.int .i64 xs[k].fro) ∧ w.cell? ⟨b, off + k * 4 + 1 + 1, none⟩ = some (.bool xs[k].space) ∧ w.cell? ⟨b, off + k * 4 + 1 + 1 + 1, none⟩ = some (.int .i64 xs[k].nest) := by
  obtain ⟨a, c, h1, h2, h3, h4, h5⟩ := h
  refine ⟨a, c, h1, h2, h3, h4, fun k hk => ?_⟩
  obtain ⟨b, off, cs, e1, e2, e3, rfl, e5⟩ := h5 k hk
  exact ⟨b, off, e1, e2, e3, e5 0 _ rfl, e5 1 _ rfl, e5 2 _ rfl, e5 3 _ rfl⟩
theorem Try.cells139 : Try.prog.cellsOf 139 = 4 := by kernel_rfl
def Split.Ok (x : Split) : Prop := I64 x.rule ∧ I64 x.fro ∧ True ∧ I64 x.nest
theorem opens_Split : Opens Try.prog splitF.shape 139 Split.Ok := by
  intro H enc w base spare held fuel cs x hx
  obtain ⟨ys, m, _, _, hlen, hl, hf⟩ := DataW.trod_struct Try.underlying139 hx
  rw [Try.cells139] at hlen
  obtain ⟨c0, r0, rfl, hn0⟩ := list_cons hlen
  obtain ⟨c1, r1, rfl, hn1⟩ := list_cons hn0
  obtain ⟨c2, r2, rfl, hn2⟩ := list_cons hn1
  obtain ⟨c3, r3, rfl, hn3⟩ := list_cons hn2
  obtain rfl := list_nil hn3
  have h0 : DataW.trod enc Try.prog w base spare held m 3 ((([c0, c1, c2, c3] : List Value).drop 0).take (Try.prog.cellsOf 3)) = ys[0]? := hf 0 _ rfl
  rw [Try.cellsInt, List.getElem?_eq_getElem (show 0 < ys.length by rw [hl]; exact of_decide_eq_true rfl)] at h0
  obtain ⟨a0, e0, k0⟩ := opens_int Try.underlying3 H enc w base spare held m _ _ h0
  have h1 : DataW.trod enc Try.prog w base spare held m 3 ((([c0, c1, c2, c3] : List Value).drop 1).take (Try.prog.cellsOf 3)) = ys[1]? := hf 1 _ rfl
  rw [Try.cellsInt, List.getElem?_eq_getElem (show 1 < ys.length by rw [hl]; exact of_decide_eq_true rfl)] at h1
  obtain ⟨a1, e1, k1⟩ := opens_int Try.underlying3 H enc w base spare held m _ _ h1
  have h2 : DataW.trod enc Try.prog w base spare held m 4 ((([c0, c1, c2, c3] : List Value).drop 2).take (Try.prog.cellsOf 4)) = ys[2]? := hf 2 _ rfl
  rw [Try.cellsBool, List.getElem?_eq_getElem (show 2 < ys.length by rw [hl]; exact of_decide_eq_true rfl)] at h2
  obtain ⟨a2, e2, k2⟩ := opens_bool Try.underlying4 H enc w base spare held m _ _ h2
  have h3 : DataW.trod enc Try.prog w base spare held m 3 ((([c0, c1, c2, c3] : List Value).drop 3).take (Try.prog.cellsOf 3)) = ys[3]? := hf 3 _ rfl
  rw [Try.cellsInt, List.getElem?_eq_getElem (show 3 < ys.length by rw [hl]; exact of_decide_eq_true rfl)] at h3
  obtain ⟨a3, e3, k3⟩ := opens_int Try.underlying3 H enc w base spare held m _ _ h3
  obtain rfl : c0 = .int .i64 a0 := (List.cons.inj e0).1
  obtain rfl : c1 = .int .i64 a1 := (List.cons.inj e1).1
  obtain rfl : c2 = .bool a2 := (List.cons.inj e2).1
  obtain rfl : c3 = .int .i64 a3 := (List.cons.inj e3).1
  exact ⟨⟨a0, a1, a2, a3⟩, rfl, k0, k1, k2, k3⟩

set_option maxHeartbeats 400000 in
theorem toSplit_any (x : Split) (w : World) :
    Calls Try.prog 135 #[x.v] w fun e w' => e = .returned x.v ∧ Below w.heap.size w w' := by
  obtain ⟨rule, fro, space, nest⟩ := x
  unfold Split.v
  simp only
  go_enter Try.func135, Try.ntmps135
  go_wp2
  exact bodyPost_ret (v := .agg #[.int .i64 rule, .int .i64 fro, .bool space, .int .i64 nest]) (by simp [results, Try.results135, go_sem]) rfl ⟨rfl, (((Below.refl _ _).alloc (Nat.le_refl _) _).alloc (by simp) _).alloc (by simp; omega) _⟩

set_option maxHeartbeats 400000 in
theorem eqSplit_any (x : Split) (w : World) :
    Calls Try.prog 136 #[x.v, x.v] w fun e w' => e = .returned (.bool true) ∧ Below w.heap.size w w' := by
  obtain ⟨rule, fro, space, nest⟩ := x
  unfold Split.v
  simp only
  go_enter Try.func136, Try.ntmps136
  go_wp2
  go_ret
  exact ⟨rfl, ((Below.refl _ _).alloc (Nat.le_refl _) _).alloc (by simp) _⟩
end Go.Proofs.Ytllpgomloblfjaa
