/-
  No cell of these rows narrows 'for every input' (looked for: loops, veiled, ifaces, maps, wideKeys, modest, calm, conditions, laid).
  DERIVED. THE GIVEN ROWS OF THIS SEAT. 2 by the template 'for every input the law returns true; each argument reads behind the call as it read before'; 0 by the template 'total and deterministic' (their statements: YtllpgomloblfjaaGreatTotals.lean).
  GIVEN WITH THE SEED: the statements are not yours to turn. If you find one false, say at which input.
  Laid BY PROGRAM, IN A SANDBOX (cutbox-rows.mjs): the forced cells as the released guide's own fill.sh prints them over the translation 24ae2c2816f2fc26… (all of the seat's roots in one cut). By AI agents, Wed Nov 11 2026. No macro, syntax, notation, axiom, sorry.
-/
import Derived.Test.YtllpgomloblfjaaGreatChecked
import GoSem.Claim
import GoSem.ClaimJoined
import GoSem.ClaimMapViews
import Derived.JoinedTies
import Derived.KernelRfl
namespace Go.Proofs.YtllpgomloblfjaaGreat
/- THE CELL 'sum', in the pinned program and in every row, IS THE sha256 OF THE DUMP (.gsa) THAT YtllpgomloblfjaaGreatProg.lean LOADS. Nothing in Lean hashes anything: it is a label: what it is worth is what the hold of that sum in a sandbox is worth. -/
noncomputable def Tryz.pinned : Pinned := { name := "ytllpgomloblfjaagreat", sum := "24ae2c2816f2fc26f986ad6782361a6e7d7c8910e400992351d8c897c8785324", checked := Tryz.checked }
namespace Rows
def none {H : Type} : Left H := { results := [], args := [] }

/-- 'laws.FnExactWritePiece': WHATEVER THE INPUT: true; the input reads as it did. -/
def fnExactWritePieceSpec : ChangeSpec := { name := "fnExactWritePiece", fn := fun _ => fun
  | [d1, d2, d3] => { results := [.lit (.bool true)], args := [d1, d2, d3] }
  | _ => none }
def fnExactWritePieceRow : OpenClaim := { program := "ytllpgomloblfjaagreat", sum := "24ae2c2816f2fc26f986ad6782361a6e7d7c8910e400992351d8c897c8785324", func := "loop.example/g00459/laws.FnExactWritePiece", spec := "fnExactWritePiece", inPlace := ["internal/abi.NoEscape", "internal/bytealg.MakeNoZero"], apart := false }
def FnExactWritePieceSaid : Prop := fnExactWritePieceRow.holds Tryz.pinned (OpenSpec.ofChange fnExactWritePieceSpec)

/-- ITS FALSE NEIGHBOUR: 'it returns false'. Refute it at one input. -/
def fnExactWritePieceWrong : ChangeSpec := { name := "fnExactWritePiece", fn := fun _ => fun
  | [d1, d2, d3] => { results := [.lit (.bool false)], args := [d1, d2, d3] }
  | _ => none }
def FnExactWritePieceWrongFalsely : Prop := fnExactWritePieceRow.holds Tryz.pinned (OpenSpec.ofChange fnExactWritePieceWrong)

/-- 'laws.FnExactTrueSearch': WHATEVER THE INPUT: true; the input reads as it did. -/
def fnExactTrueSearchSpec : ChangeSpec := { name := "fnExactTrueSearch", fn := fun _ => fun
  | [d1, d2, d3] => { results := [.lit (.bool true)], args := [d1, d2, d3] }
  | _ => none }
def fnExactTrueSearchRow : OpenClaim := { program := "ytllpgomloblfjaagreat", sum := "24ae2c2816f2fc26f986ad6782361a6e7d7c8910e400992351d8c897c8785324", func := "loop.example/g00459/laws.FnExactTrueSearch", spec := "fnExactTrueSearch", inPlace := ["internal/abi.NoEscape", "internal/bytealg.MakeNoZero"], apart := false }
def FnExactTrueSearchSaid : Prop := fnExactTrueSearchRow.holds Tryz.pinned (OpenSpec.ofChange fnExactTrueSearchSpec)

/-- ITS FALSE NEIGHBOUR: 'it returns false'. Refute it at one input. -/
def fnExactTrueSearchWrong : ChangeSpec := { name := "fnExactTrueSearch", fn := fun _ => fun
  | [d1, d2, d3] => { results := [.lit (.bool false)], args := [d1, d2, d3] }
  | _ => none }
def FnExactTrueSearchWrongFalsely : Prop := fnExactTrueSearchRow.holds Tryz.pinned (OpenSpec.ofChange fnExactTrueSearchWrong)

/- THE SECOND FORM. 'bulk': how many values and letters a reading holds, each counted each time it is reached (what is shared counts as often as it is met; a slice's spare places count too). A statement '..UptoSaid' is the law's where the arguments, and the package variables that the reading takes, are together of bulk at most 1048576: NARROWER than '..Said'. Prove '..Said' where nothing that the law and all that it calls make is longer than what came in: it says more and counts as full. Else prove '..UptoSaid'. A law counts once. -/
mutual
def uptoBulk {H : Type} : DataW H → Nat
  | .lit (.string bytes) => bytes.length + 1
  | .lit _ => 1
  | .nil => 1
  | .ptr d => uptoBulk d + 1
  | .slice elems spare => uptoBulkAll elems + uptoBulkAll spare + 1
  | .agg parts => uptoBulkAll parts + 1
  | .iface _ d => uptoBulk d + 1
  | .map entries => uptoBulkEntries entries + 1
  | .held _ => 1
def uptoBulkAll {H : Type} : List (DataW H) → Nat
  | [] => 0
  | d :: r => uptoBulk d + uptoBulkAll r
def uptoBulkEntries {H : Type} : List (Lit × DataW H) → Nat
  | [] => 0
  | x :: r => uptoBulkEntry x + uptoBulkEntries r
def uptoBulkEntry {H : Type} : Lit × DataW H → Nat
  | (.string bytes, d) => bytes.length + uptoBulk d + 1
  | (_, d) => uptoBulk d + 1
 end
def uptoSmall : (H : Type) → List (DataW H) → Bool := fun _ ds => decide (uptoBulkAll ds ≤ 1048576)
def OpenSpec.upto (s : _root_.Go.ChangeSpec) : _root_.Go.OpenSpec := { _root_.Go.OpenSpec.ofChange s with cond := some uptoSmall }

/-- 'laws.FnExactWritePiece', WHERE WHAT IT READS IS OF BULK AT MOST 1048576: true; the input reads as it did. -/
def fnExactWritePieceUptoRow : OpenClaim := { program := "ytllpgomloblfjaagreat", sum := "24ae2c2816f2fc26f986ad6782361a6e7d7c8910e400992351d8c897c8785324", func := "loop.example/g00459/laws.FnExactWritePiece", spec := "fnExactWritePiece", inPlace := ["internal/abi.NoEscape", "internal/bytealg.MakeNoZero"], apart := false, narrowed := true }
def FnExactWritePieceUptoSaid : Prop := fnExactWritePieceUptoRow.holds Tryz.pinned (OpenSpec.upto fnExactWritePieceSpec)

/-- 'laws.FnExactTrueSearch', WHERE WHAT IT READS IS OF BULK AT MOST 1048576: true; the input reads as it did. -/
def fnExactTrueSearchUptoRow : OpenClaim := { program := "ytllpgomloblfjaagreat", sum := "24ae2c2816f2fc26f986ad6782361a6e7d7c8910e400992351d8c897c8785324", func := "loop.example/g00459/laws.FnExactTrueSearch", spec := "fnExactTrueSearch", inPlace := ["internal/abi.NoEscape", "internal/bytealg.MakeNoZero"], apart := false, narrowed := true }
def FnExactTrueSearchUptoSaid : Prop := fnExactTrueSearchUptoRow.holds Tryz.pinned (OpenSpec.upto fnExactTrueSearchSpec)

end Rows
end Go.Proofs.YtllpgomloblfjaaGreat
