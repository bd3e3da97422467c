/-
  No cell of these rows narrows 'for every input' (looked for: loops, veiled, ifaces, maps, wideKeys, modest, calm, conditions, laid).
  DERIVED. THE GIVEN ROWS OF THIS SEAT. 12 by the template 'for every input the law returns true; each argument reads behind the call as it read before'; 0 by the template 'total and deterministic' (their statements: YthfeochekadhcaaTotals.lean).
  GIVEN WITH THE SEED: the statements are not yours to turn. If you find one false, say at which input.
  Laid BY PROGRAM, IN A SANDBOX (cutbox-rows.mjs): the forced cells as the released guide's own fill.sh prints them over the translation 50fc5f6306503cef… (all of the seat's roots in one cut). By AI agents, Wed Nov 11 2026. No macro, syntax, notation, axiom, sorry.
-/
import Derived.Test.YthfeochekadhcaaChecked
import GoSem.Claim
import GoSem.ClaimJoined
import GoSem.ClaimMapViews
import Derived.JoinedTies
import Derived.KernelRfl
namespace Go.Proofs.Ythfeochekadhcaa
/- THE CELL 'sum', in the pinned program and in every row, IS THE sha256 OF THE DUMP (.gsa) THAT YthfeochekadhcaaProg.lean LOADS. Nothing in Lean hashes anything: it is a label: what it is worth is what the hold of that sum in a sandbox is worth. -/
noncomputable def Try.pinned : Pinned := { name := "ythfeochekadhcaa", sum := "50fc5f6306503cef54fd750bcc8eebd9d2a48c6944cc357dfa30105d19671dfc", checked := Try.checked }
namespace Rows
def none {H : Type} : Left H := { results := [], args := [] }

/-- 'laws.FnExactBytes': WHATEVER THE INPUT: true; the input reads as it did. -/
def fnExactBytesSpec : ChangeSpec := { name := "fnExactBytes", fn := fun _ => fun
  | [d] => { results := [.lit (.bool true)], args := [d] }
  | _ => none }
def fnExactBytesRow : OpenClaim := { program := "ythfeochekadhcaa", sum := "50fc5f6306503cef54fd750bcc8eebd9d2a48c6944cc357dfa30105d19671dfc", func := "loop.example/g00459/laws.FnExactBytes", spec := "fnExactBytes", apart := false }
def FnExactBytesSaid : Prop := fnExactBytesRow.holds Try.pinned (OpenSpec.ofChange fnExactBytesSpec)

/-- ITS FALSE NEIGHBOUR: 'it returns false'. Refute it at one input. -/
def fnExactBytesWrong : ChangeSpec := { name := "fnExactBytes", fn := fun _ => fun
  | [d] => { results := [.lit (.bool false)], args := [d] }
  | _ => none }
def FnExactBytesWrongFalsely : Prop := fnExactBytesRow.holds Try.pinned (OpenSpec.ofChange fnExactBytesWrong)

/-- 'laws.FnExactCellNum': WHATEVER THE INPUT: true; the input reads as it did. -/
def fnExactCellNumSpec : ChangeSpec := { name := "fnExactCellNum", fn := fun _ => fun
  | [d1, d2] => { results := [.lit (.bool true)], args := [d1, d2] }
  | _ => none }
def fnExactCellNumRow : OpenClaim := { program := "ythfeochekadhcaa", sum := "50fc5f6306503cef54fd750bcc8eebd9d2a48c6944cc357dfa30105d19671dfc", func := "loop.example/g00459/laws.FnExactCellNum", spec := "fnExactCellNum", apart := false }
def FnExactCellNumSaid : Prop := fnExactCellNumRow.holds Try.pinned (OpenSpec.ofChange fnExactCellNumSpec)

/-- ITS FALSE NEIGHBOUR: 'it returns false'. Refute it at one input. -/
def fnExactCellNumWrong : ChangeSpec := { name := "fnExactCellNum", fn := fun _ => fun
  | [d1, d2] => { results := [.lit (.bool false)], args := [d1, d2] }
  | _ => none }
def FnExactCellNumWrongFalsely : Prop := fnExactCellNumRow.holds Try.pinned (OpenSpec.ofChange fnExactCellNumWrong)

/-- 'laws.FnExactKeptIn': WHATEVER THE INPUT: true; the input reads as it did. -/
def fnExactKeptInSpec : ChangeSpec := { name := "fnExactKeptIn", fn := fun _ => fun
  | [d] => { results := [.lit (.bool true)], args := [d] }
  | _ => none }
def fnExactKeptInRow : OpenClaim := { program := "ythfeochekadhcaa", sum := "50fc5f6306503cef54fd750bcc8eebd9d2a48c6944cc357dfa30105d19671dfc", func := "loop.example/g00459/laws.FnExactKeptIn", spec := "fnExactKeptIn", apart := false }
def FnExactKeptInSaid : Prop := fnExactKeptInRow.holds Try.pinned (OpenSpec.ofChange fnExactKeptInSpec)

/-- ITS FALSE NEIGHBOUR: 'it returns false'. Refute it at one input. -/
def fnExactKeptInWrong : ChangeSpec := { name := "fnExactKeptIn", fn := fun _ => fun
  | [d] => { results := [.lit (.bool false)], args := [d] }
  | _ => none }
def FnExactKeptInWrongFalsely : Prop := fnExactKeptInRow.holds Try.pinned (OpenSpec.ofChange fnExactKeptInWrong)

/-- 'laws.FnExactSignAt': WHATEVER THE INPUT: true; the input reads as it did. -/
def fnExactSignAtSpec : ChangeSpec := { name := "fnExactSignAt", fn := fun _ => fun
  | [d1, d2] => { results := [.lit (.bool true)], args := [d1, d2] }
  | _ => none }
def fnExactSignAtRow : OpenClaim := { program := "ythfeochekadhcaa", sum := "50fc5f6306503cef54fd750bcc8eebd9d2a48c6944cc357dfa30105d19671dfc", func := "loop.example/g00459/laws.FnExactSignAt", spec := "fnExactSignAt", apart := false }
def FnExactSignAtSaid : Prop := fnExactSignAtRow.holds Try.pinned (OpenSpec.ofChange fnExactSignAtSpec)

/-- ITS FALSE NEIGHBOUR: 'it returns false'. Refute it at one input. -/
def fnExactSignAtWrong : ChangeSpec := { name := "fnExactSignAt", fn := fun _ => fun
  | [d1, d2] => { results := [.lit (.bool false)], args := [d1, d2] }
  | _ => none }
def FnExactSignAtWrongFalsely : Prop := fnExactSignAtRow.holds Try.pinned (OpenSpec.ofChange fnExactSignAtWrong)

/-- 'laws.FnExactSameRan': WHATEVER THE INPUT: true; the input reads as it did. -/
def fnExactSameRanSpec : ChangeSpec := { name := "fnExactSameRan", fn := fun _ => fun
  | [d1, d2] => { results := [.lit (.bool true)], args := [d1, d2] }
  | _ => none }
def fnExactSameRanRow : OpenClaim := { program := "ythfeochekadhcaa", sum := "50fc5f6306503cef54fd750bcc8eebd9d2a48c6944cc357dfa30105d19671dfc", func := "loop.example/g00459/laws.FnExactSameRan", spec := "fnExactSameRan", apart := false }
def FnExactSameRanSaid : Prop := fnExactSameRanRow.holds Try.pinned (OpenSpec.ofChange fnExactSameRanSpec)

/-- ITS FALSE NEIGHBOUR: 'it returns false'. Refute it at one input. -/
def fnExactSameRanWrong : ChangeSpec := { name := "fnExactSameRan", fn := fun _ => fun
  | [d1, d2] => { results := [.lit (.bool false)], args := [d1, d2] }
  | _ => none }
def FnExactSameRanWrongFalsely : Prop := fnExactSameRanRow.holds Try.pinned (OpenSpec.ofChange fnExactSameRanWrong)

/-- 'laws.FnDiffs': WHATEVER THE INPUT: true; the input reads as it did. -/
def fnDiffsSpec : ChangeSpec := { name := "fnDiffs", fn := fun _ => fun
  | [d] => { results := [.lit (.bool true)], args := [d] }
  | _ => none }
def fnDiffsRow : OpenClaim := { program := "ythfeochekadhcaa", sum := "50fc5f6306503cef54fd750bcc8eebd9d2a48c6944cc357dfa30105d19671dfc", func := "loop.example/g00459/laws.FnDiffs", spec := "fnDiffs", apart := false }
def FnDiffsSaid : Prop := fnDiffsRow.holds Try.pinned (OpenSpec.ofChange fnDiffsSpec)

/-- ITS FALSE NEIGHBOUR: 'it returns false'. Refute it at one input. -/
def fnDiffsWrong : ChangeSpec := { name := "fnDiffs", fn := fun _ => fun
  | [d] => { results := [.lit (.bool false)], args := [d] }
  | _ => none }
def FnDiffsWrongFalsely : Prop := fnDiffsRow.holds Try.pinned (OpenSpec.ofChange fnDiffsWrong)

/-- 'laws.FnExactCommonOf': WHATEVER THE INPUT: true; the input reads as it did. -/
def fnExactCommonOfSpec : ChangeSpec := { name := "fnExactCommonOf", fn := fun _ => fun
  | [d1, d2] => { results := [.lit (.bool true)], args := [d1, d2] }
  | _ => none }
def fnExactCommonOfRow : OpenClaim := { program := "ythfeochekadhcaa", sum := "50fc5f6306503cef54fd750bcc8eebd9d2a48c6944cc357dfa30105d19671dfc", func := "loop.example/g00459/laws.FnExactCommonOf", spec := "fnExactCommonOf", apart := false }
def FnExactCommonOfSaid : Prop := fnExactCommonOfRow.holds Try.pinned (OpenSpec.ofChange fnExactCommonOfSpec)

/-- ITS FALSE NEIGHBOUR: 'it returns false'. Refute it at one input. -/
def fnExactCommonOfWrong : ChangeSpec := { name := "fnExactCommonOf", fn := fun _ => fun
  | [d1, d2] => { results := [.lit (.bool false)], args := [d1, d2] }
  | _ => none }
def FnExactCommonOfWrongFalsely : Prop := fnExactCommonOfRow.holds Try.pinned (OpenSpec.ofChange fnExactCommonOfWrong)

/-- 'laws.FnExactParsIn': WHATEVER THE INPUT: true; the input reads as it did. -/
def fnExactParsInSpec : ChangeSpec := { name := "fnExactParsIn", fn := fun _ => fun
  | [d] => { results := [.lit (.bool true)], args := [d] }
  | _ => none }
def fnExactParsInRow : OpenClaim := { program := "ythfeochekadhcaa", sum := "50fc5f6306503cef54fd750bcc8eebd9d2a48c6944cc357dfa30105d19671dfc", func := "loop.example/g00459/laws.FnExactParsIn", spec := "fnExactParsIn", apart := false }
def FnExactParsInSaid : Prop := fnExactParsInRow.holds Try.pinned (OpenSpec.ofChange fnExactParsInSpec)

/-- ITS FALSE NEIGHBOUR: 'it returns false'. Refute it at one input. -/
def fnExactParsInWrong : ChangeSpec := { name := "fnExactParsIn", fn := fun _ => fun
  | [d] => { results := [.lit (.bool false)], args := [d] }
  | _ => none }
def FnExactParsInWrongFalsely : Prop := fnExactParsInRow.holds Try.pinned (OpenSpec.ofChange fnExactParsInWrong)

/-- 'laws.FnExactBackOf': WHATEVER THE INPUT: true; the input reads as it did. -/
def fnExactBackOfSpec : ChangeSpec := { name := "fnExactBackOf", fn := fun _ => fun
  | [d] => { results := [.lit (.bool true)], args := [d] }
  | _ => none }
def fnExactBackOfRow : OpenClaim := { program := "ythfeochekadhcaa", sum := "50fc5f6306503cef54fd750bcc8eebd9d2a48c6944cc357dfa30105d19671dfc", func := "loop.example/g00459/laws.FnExactBackOf", spec := "fnExactBackOf", apart := false }
def FnExactBackOfSaid : Prop := fnExactBackOfRow.holds Try.pinned (OpenSpec.ofChange fnExactBackOfSpec)

/-- ITS FALSE NEIGHBOUR: 'it returns false'. Refute it at one input. -/
def fnExactBackOfWrong : ChangeSpec := { name := "fnExactBackOf", fn := fun _ => fun
  | [d] => { results := [.lit (.bool false)], args := [d] }
  | _ => none }
def FnExactBackOfWrongFalsely : Prop := fnExactBackOfRow.holds Try.pinned (OpenSpec.ofChange fnExactBackOfWrong)

/-- 'laws.FnExactCellPut': WHATEVER THE INPUT: true; the input reads as it did. -/
def fnExactCellPutSpec : ChangeSpec := { name := "fnExactCellPut", fn := fun _ => fun
  | [d1, d2, d3] => { results := [.lit (.bool true)], args := [d1, d2, d3] }
  | _ => none }
def fnExactCellPutRow : OpenClaim := { program := "ythfeochekadhcaa", sum := "50fc5f6306503cef54fd750bcc8eebd9d2a48c6944cc357dfa30105d19671dfc", func := "loop.example/g00459/laws.FnExactCellPut", spec := "fnExactCellPut", apart := false }
def FnExactCellPutSaid : Prop := fnExactCellPutRow.holds Try.pinned (OpenSpec.ofChange fnExactCellPutSpec)

/-- ITS FALSE NEIGHBOUR: 'it returns false'. Refute it at one input. -/
def fnExactCellPutWrong : ChangeSpec := { name := "fnExactCellPut", fn := fun _ => fun
  | [d1, d2, d3] => { results := [.lit (.bool false)], args := [d1, d2, d3] }
  | _ => none }
def FnExactCellPutWrongFalsely : Prop := fnExactCellPutRow.holds Try.pinned (OpenSpec.ofChange fnExactCellPutWrong)

/-- 'laws.FnExactApplyEdits': WHATEVER THE INPUT: true; the input reads as it did. -/
def fnExactApplyEditsSpec : ChangeSpec := { name := "fnExactApplyEdits", fn := fun _ => fun
  | [d1, d2] => { results := [.lit (.bool true)], args := [d1, d2] }
  | _ => none }
def fnExactApplyEditsRow : OpenClaim := { program := "ythfeochekadhcaa", sum := "50fc5f6306503cef54fd750bcc8eebd9d2a48c6944cc357dfa30105d19671dfc", func := "loop.example/g00459/laws.FnExactApplyEdits", spec := "fnExactApplyEdits", apart := false }
def FnExactApplyEditsSaid : Prop := fnExactApplyEditsRow.holds Try.pinned (OpenSpec.ofChange fnExactApplyEditsSpec)

/-- ITS FALSE NEIGHBOUR: 'it returns false'. Refute it at one input. -/
def fnExactApplyEditsWrong : ChangeSpec := { name := "fnExactApplyEdits", fn := fun _ => fun
  | [d1, d2] => { results := [.lit (.bool false)], args := [d1, d2] }
  | _ => none }
def FnExactApplyEditsWrongFalsely : Prop := fnExactApplyEditsRow.holds Try.pinned (OpenSpec.ofChange fnExactApplyEditsWrong)

/-- 'laws.FnExactDiffOf': WHATEVER THE INPUT: true; the input reads as it did. -/
def fnExactDiffOfSpec : ChangeSpec := { name := "fnExactDiffOf", fn := fun _ => fun
  | [d1, d2] => { results := [.lit (.bool true)], args := [d1, d2] }
  | _ => none }
def fnExactDiffOfRow : OpenClaim := { program := "ythfeochekadhcaa", sum := "50fc5f6306503cef54fd750bcc8eebd9d2a48c6944cc357dfa30105d19671dfc", func := "loop.example/g00459/laws.FnExactDiffOf", spec := "fnExactDiffOf", apart := false }
def FnExactDiffOfSaid : Prop := fnExactDiffOfRow.holds Try.pinned (OpenSpec.ofChange fnExactDiffOfSpec)

/-- ITS FALSE NEIGHBOUR: 'it returns false'. Refute it at one input. -/
def fnExactDiffOfWrong : ChangeSpec := { name := "fnExactDiffOf", fn := fun _ => fun
  | [d1, d2] => { results := [.lit (.bool false)], args := [d1, d2] }
  | _ => none }
def FnExactDiffOfWrongFalsely : Prop := fnExactDiffOfRow.holds Try.pinned (OpenSpec.ofChange fnExactDiffOfWrong)

/- THE SECOND FORM. 'bulk': how many values and letters a reading holds, each counted each time it is reached (what is shared counts as often as it is met; a slice's spare places count too). A statement '..UptoSaid' is the law's where the arguments, and the package variables that the reading takes, are together of bulk at most 1048576: NARROWER than '..Said'. Prove '..Said' where nothing that the law and all that it calls make is longer than what came in: it says more and counts as full. Else prove '..UptoSaid'. A law counts once. -/
mutual
def uptoBulk {H : Type} : DataW H → Nat
  | .lit (.string bytes) => bytes.length + 1
  | .lit _ => 1
  | .nil => 1
  | .ptr d => uptoBulk d + 1
  | .slice elems spare => uptoBulkAll elems + uptoBulkAll spare + 1
  | .agg parts => uptoBulkAll parts + 1
  | .iface _ d => uptoBulk d + 1
  | .map entries => uptoBulkEntries entries + 1
  | .held _ => 1
def uptoBulkAll {H : Type} : List (DataW H) → Nat
  | [] => 0
  | d :: r => uptoBulk d + uptoBulkAll r
def uptoBulkEntries {H : Type} : List (Lit × DataW H) → Nat
  | [] => 0
  | x :: r => uptoBulkEntry x + uptoBulkEntries r
def uptoBulkEntry {H : Type} : Lit × DataW H → Nat
  | (.string bytes, d) => bytes.length + uptoBulk d + 1
  | (_, d) => uptoBulk d + 1
 end
def uptoSmall : (H : Type) → List (DataW H) → Bool := fun _ ds => decide (uptoBulkAll ds ≤ 1048576)
def OpenSpec.upto (s : _root_.Go.ChangeSpec) : _root_.Go.OpenSpec := { _root_.Go.OpenSpec.ofChange s with cond := some uptoSmall }

/-- 'laws.FnExactBytes', WHERE WHAT IT READS IS OF BULK AT MOST 1048576: true; the input reads as it did. -/
def fnExactBytesUptoRow : OpenClaim := { program := "ythfeochekadhcaa", sum := "50fc5f6306503cef54fd750bcc8eebd9d2a48c6944cc357dfa30105d19671dfc", func := "loop.example/g00459/laws.FnExactBytes", spec := "fnExactBytes", apart := false, narrowed := true }
def FnExactBytesUptoSaid : Prop := fnExactBytesUptoRow.holds Try.pinned (OpenSpec.upto fnExactBytesSpec)

/-- 'laws.FnExactCellNum', WHERE WHAT IT READS IS OF BULK AT MOST 1048576: true; the input reads as it did. -/
def fnExactCellNumUptoRow : OpenClaim := { program := "ythfeochekadhcaa", sum := "50fc5f6306503cef54fd750bcc8eebd9d2a48c6944cc357dfa30105d19671dfc", func := "loop.example/g00459/laws.FnExactCellNum", spec := "fnExactCellNum", apart := false, narrowed := true }
def FnExactCellNumUptoSaid : Prop := fnExactCellNumUptoRow.holds Try.pinned (OpenSpec.upto fnExactCellNumSpec)

/-- 'laws.FnExactKeptIn', WHERE WHAT IT READS IS OF BULK AT MOST 1048576: true; the input reads as it did. -/
def fnExactKeptInUptoRow : OpenClaim := { program := "ythfeochekadhcaa", sum := "50fc5f6306503cef54fd750bcc8eebd9d2a48c6944cc357dfa30105d19671dfc", func := "loop.example/g00459/laws.FnExactKeptIn", spec := "fnExactKeptIn", apart := false, narrowed := true }
def FnExactKeptInUptoSaid : Prop := fnExactKeptInUptoRow.holds Try.pinned (OpenSpec.upto fnExactKeptInSpec)

/-- 'laws.FnExactSignAt', WHERE WHAT IT READS IS OF BULK AT MOST 1048576: true; the input reads as it did. -/
def fnExactSignAtUptoRow : OpenClaim := { program := "ythfeochekadhcaa", sum := "50fc5f6306503cef54fd750bcc8eebd9d2a48c6944cc357dfa30105d19671dfc", func := "loop.example/g00459/laws.FnExactSignAt", spec := "fnExactSignAt", apart := false, narrowed := true }
def FnExactSignAtUptoSaid : Prop := fnExactSignAtUptoRow.holds Try.pinned (OpenSpec.upto fnExactSignAtSpec)

/-- 'laws.FnExactSameRan', WHERE WHAT IT READS IS OF BULK AT MOST 1048576: true; the input reads as it did. -/
def fnExactSameRanUptoRow : OpenClaim := { program := "ythfeochekadhcaa", sum := "50fc5f6306503cef54fd750bcc8eebd9d2a48c6944cc357dfa30105d19671dfc", func := "loop.example/g00459/laws.FnExactSameRan", spec := "fnExactSameRan", apart := false, narrowed := true }
def FnExactSameRanUptoSaid : Prop := fnExactSameRanUptoRow.holds Try.pinned (OpenSpec.upto fnExactSameRanSpec)

/-- 'laws.FnDiffs', WHERE WHAT IT READS IS OF BULK AT MOST 1048576: true; the input reads as it did. -/
def fnDiffsUptoRow : OpenClaim := { program := "ythfeochekadhcaa", sum := "50fc5f6306503cef54fd750bcc8eebd9d2a48c6944cc357dfa30105d19671dfc", func := "loop.example/g00459/laws.FnDiffs", spec := "fnDiffs", apart := false, narrowed := true }
def FnDiffsUptoSaid : Prop := fnDiffsUptoRow.holds Try.pinned (OpenSpec.upto fnDiffsSpec)

/-- 'laws.FnExactCommonOf', WHERE WHAT IT READS IS OF BULK AT MOST 1048576: true; the input reads as it did. -/
def fnExactCommonOfUptoRow : OpenClaim := { program := "ythfeochekadhcaa", sum := "50fc5f6306503cef54fd750bcc8eebd9d2a48c6944cc357dfa30105d19671dfc", func := "loop.example/g00459/laws.FnExactCommonOf", spec := "fnExactCommonOf", apart := false, narrowed := true }
def FnExactCommonOfUptoSaid : Prop := fnExactCommonOfUptoRow.holds Try.pinned (OpenSpec.upto fnExactCommonOfSpec)

/-- 'laws.FnExactParsIn', WHERE WHAT IT READS IS OF BULK AT MOST 1048576: true; the input reads as it did. -/
def fnExactParsInUptoRow : OpenClaim := { program := "ythfeochekadhcaa", sum := "50fc5f6306503cef54fd750bcc8eebd9d2a48c6944cc357dfa30105d19671dfc", func := "loop.example/g00459/laws.FnExactParsIn", spec := "fnExactParsIn", apart := false, narrowed := true }
def FnExactParsInUptoSaid : Prop := fnExactParsInUptoRow.holds Try.pinned (OpenSpec.upto fnExactParsInSpec)

/-- 'laws.FnExactBackOf', WHERE WHAT IT READS IS OF BULK AT MOST 1048576: true; the input reads as it did. -/
def fnExactBackOfUptoRow : OpenClaim := { program := "ythfeochekadhcaa", sum := "50fc5f6306503cef54fd750bcc8eebd9d2a48c6944cc357dfa30105d19671dfc", func := "loop.example/g00459/laws.FnExactBackOf", spec := "fnExactBackOf", apart := false, narrowed := true }
def FnExactBackOfUptoSaid : Prop := fnExactBackOfUptoRow.holds Try.pinned (OpenSpec.upto fnExactBackOfSpec)

/-- 'laws.FnExactCellPut', WHERE WHAT IT READS IS OF BULK AT MOST 1048576: true; the input reads as it did. -/
def fnExactCellPutUptoRow : OpenClaim := { program := "ythfeochekadhcaa", sum := "50fc5f6306503cef54fd750bcc8eebd9d2a48c6944cc357dfa30105d19671dfc", func := "loop.example/g00459/laws.FnExactCellPut", spec := "fnExactCellPut", apart := false, narrowed := true }
def FnExactCellPutUptoSaid : Prop := fnExactCellPutUptoRow.holds Try.pinned (OpenSpec.upto fnExactCellPutSpec)

/-- 'laws.FnExactApplyEdits', WHERE WHAT IT READS IS OF BULK AT MOST 1048576: true; the input reads as it did. -/
def fnExactApplyEditsUptoRow : OpenClaim := { program := "ythfeochekadhcaa", sum := "50fc5f6306503cef54fd750bcc8eebd9d2a48c6944cc357dfa30105d19671dfc", func := "loop.example/g00459/laws.FnExactApplyEdits", spec := "fnExactApplyEdits", apart := false, narrowed := true }
def FnExactApplyEditsUptoSaid : Prop := fnExactApplyEditsUptoRow.holds Try.pinned (OpenSpec.upto fnExactApplyEditsSpec)

/-- 'laws.FnExactDiffOf', WHERE WHAT IT READS IS OF BULK AT MOST 1048576: true; the input reads as it did. -/
def fnExactDiffOfUptoRow : OpenClaim := { program := "ythfeochekadhcaa", sum := "50fc5f6306503cef54fd750bcc8eebd9d2a48c6944cc357dfa30105d19671dfc", func := "loop.example/g00459/laws.FnExactDiffOf", spec := "fnExactDiffOf", apart := false, narrowed := true }
def FnExactDiffOfUptoSaid : Prop := fnExactDiffOfUptoRow.holds Try.pinned (OpenSpec.upto fnExactDiffOfSpec)

end Rows
end Go.Proofs.Ythfeochekadhcaa
