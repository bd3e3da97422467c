/-
  NARROWER THAN 'FOR EVERY INPUT', by the rows' own cells (each row's printed sentence says how): FnExactNodeOk: laid · FnExactDeepOf: laid · FnExactBare: laid · FnExactTreeOk: laid · FnExactMethodAt: laid · FnExactLevelOf: laid · FnExactCountName: laid · FnExactUnderOf: laid · FnExactWantsPar: laid.
  DERIVED. THE GIVEN ROWS OF THIS SEAT. 9 by the template 'for every input the law returns true; each argument reads behind the call as it read before'; 0 by the template 'total and deterministic' (their statements: YtefcelolakpnoaaDoorTotals.lean).
  GIVEN WITH THE SEED: the statements are not yours to turn. If you find one false, say at which input.
  Laid BY PROGRAM, IN A SANDBOX (cutbox-rows.mjs): the forced cells as the released guide's own fill.sh prints them over the translation 65971e426f6cd95a… (all of the seat's roots in one cut). By AI agents, Wed Nov 11 2026. No macro, syntax, notation, axiom, sorry.
-/
import Derived.Test.YtefcelolakpnoaaDoorChecked
import GoSem.PinnedTables
import GoSem.Claim
import GoSem.ClaimJoined
import GoSem.ClaimMapViews
import Derived.JoinedTies
import Derived.KernelRfl
namespace Go.Proofs.YtefcelolakpnoaaDoor
/- THE CELL 'sum', in the pinned program and in every row, IS THE sha256 OF THE DUMP (.gsa) THAT YtefcelolakpnoaaDoorProg.lean LOADS. Nothing in Lean hashes anything: it is a label: what it is worth is what the hold of that sum in a sandbox is worth. -/
noncomputable def Tryd.pinned : Pinned := { name := "ytefcelolakpnoaadoor", sum := "65971e426f6cd95a5cf71dc4c8f121c61c8bde30d01d6d525adcb0ee2feec667", checked := Tryd.checked }
namespace Rows
def none {H : Type} : Left H := { results := [], args := [] }

/- WHAT THE LISTED PACKAGE-LEVEL VARIABLES READ AS WHEN THE CALL BEGINS. Each datum BY PROGRAM (the guide's laid-datum.mjs) off the statement by which the dump's own 'gosem.cut.vars' lays the variable. In a bare row this is a premise. The card (YtefcelolakpnoaaDoorCards.lean) ties it to the program's text. -/
def laid_unicode_utf8_acceptRanges {H : Type} : DataW H := .agg [.agg [.lit (.int .u8 128), .lit (.int .u8 191)], .agg [.lit (.int .u8 160), .lit (.int .u8 191)], .agg [.lit (.int .u8 128), .lit (.int .u8 159)], .agg [.lit (.int .u8 144), .lit (.int .u8 191)], .agg [.lit (.int .u8 128), .lit (.int .u8 143)], .agg [.lit (.int .u8 0), .lit (.int .u8 0)], .agg [.lit (.int .u8 0), .lit (.int .u8 0)], .agg [.lit (.int .u8 0), .lit (.int .u8 0)], .agg [.lit (.int .u8 0), .lit (.int .u8 0)], .agg [.lit (.int .u8 0), .lit (.int .u8 0)], .agg [.lit (.int .u8 0), .lit (.int .u8 0)], .agg [.lit (.int .u8 0), .lit (.int .u8 0)], .agg [.lit (.int .u8 0), .lit (.int .u8 0)], .agg [.lit (.int .u8 0), .lit (.int .u8 0)], .agg [.lit (.int .u8 0), .lit (.int .u8 0)], .agg [.lit (.int .u8 0), .lit (.int .u8 0)]]
/-- One of Go's own tables, pinned by name: the form's constant. -/
def laid_unicode_utf8_first : DataW Unit := Go.Pinned.utf8First

/-- 'laws.FnExactNodeOk': WHATEVER THE INPUT: true; the input reads as it did. -/
def fnExactNodeOkSpec : ChangeSpec := { name := "fnExactNodeOk", fn := fun _ => fun
  | [d1, d2] => { results := [.lit (.bool true)], args := [d1, d2] }
  | _ => none }
def fnExactNodeOkRow : OpenClaim := { program := "ytefcelolakpnoaadoor", sum := "65971e426f6cd95a5cf71dc4c8f121c61c8bde30d01d6d525adcb0ee2feec667", func := "loop.example/g00459/laws.FnExactNodeOk", spec := "fnExactNodeOk", inPlace := ["internal/bytealg.IndexByteString", "internal/bytealg.IndexString"], unfollowed := true, recurses := true, named := ["unicode/utf8.first", "unicode/utf8.acceptRanges", "internal/bytealg.MaxLen"], apart := false, laid := [("unicode/utf8.acceptRanges", laid_unicode_utf8_acceptRanges), ("unicode/utf8.first", laid_unicode_utf8_first)] }
def FnExactNodeOkSaid : Prop := fnExactNodeOkRow.holds Tryd.pinned (OpenSpec.ofChange fnExactNodeOkSpec)

/-- ITS FALSE NEIGHBOUR: 'it returns false'. Refute it at one input. -/
def fnExactNodeOkWrong : ChangeSpec := { name := "fnExactNodeOk", fn := fun _ => fun
  | [d1, d2] => { results := [.lit (.bool false)], args := [d1, d2] }
  | _ => none }
def FnExactNodeOkWrongFalsely : Prop := fnExactNodeOkRow.holds Tryd.pinned (OpenSpec.ofChange fnExactNodeOkWrong)

/-- 'laws.FnExactDeepOf': WHATEVER THE INPUT: true; the input reads as it did. -/
def fnExactDeepOfSpec : ChangeSpec := { name := "fnExactDeepOf", fn := fun _ => fun
  | [d1, d2] => { results := [.lit (.bool true)], args := [d1, d2] }
  | _ => none }
def fnExactDeepOfRow : OpenClaim := { program := "ytefcelolakpnoaadoor", sum := "65971e426f6cd95a5cf71dc4c8f121c61c8bde30d01d6d525adcb0ee2feec667", func := "loop.example/g00459/laws.FnExactDeepOf", spec := "fnExactDeepOf", inPlace := ["internal/bytealg.IndexByteString", "internal/bytealg.IndexString"], unfollowed := true, recurses := true, named := ["unicode/utf8.first", "unicode/utf8.acceptRanges", "internal/bytealg.MaxLen"], apart := false, laid := [("unicode/utf8.acceptRanges", laid_unicode_utf8_acceptRanges), ("unicode/utf8.first", laid_unicode_utf8_first)] }
def FnExactDeepOfSaid : Prop := fnExactDeepOfRow.holds Tryd.pinned (OpenSpec.ofChange fnExactDeepOfSpec)

/-- ITS FALSE NEIGHBOUR: 'it returns false'. Refute it at one input. -/
def fnExactDeepOfWrong : ChangeSpec := { name := "fnExactDeepOf", fn := fun _ => fun
  | [d1, d2] => { results := [.lit (.bool false)], args := [d1, d2] }
  | _ => none }
def FnExactDeepOfWrongFalsely : Prop := fnExactDeepOfRow.holds Tryd.pinned (OpenSpec.ofChange fnExactDeepOfWrong)

/-- 'laws.FnExactBare': WHATEVER THE INPUT: true; the input reads as it did. -/
def fnExactBareSpec : ChangeSpec := { name := "fnExactBare", fn := fun _ => fun
  | [d1, d2] => { results := [.lit (.bool true)], args := [d1, d2] }
  | _ => none }
def fnExactBareRow : OpenClaim := { program := "ytefcelolakpnoaadoor", sum := "65971e426f6cd95a5cf71dc4c8f121c61c8bde30d01d6d525adcb0ee2feec667", func := "loop.example/g00459/laws.FnExactBare", spec := "fnExactBare", inPlace := ["internal/bytealg.IndexByteString", "internal/bytealg.IndexString"], unfollowed := true, recurses := true, named := ["unicode/utf8.first", "unicode/utf8.acceptRanges", "internal/bytealg.MaxLen"], apart := false, laid := [("unicode/utf8.acceptRanges", laid_unicode_utf8_acceptRanges), ("unicode/utf8.first", laid_unicode_utf8_first)] }
def FnExactBareSaid : Prop := fnExactBareRow.holds Tryd.pinned (OpenSpec.ofChange fnExactBareSpec)

/-- ITS FALSE NEIGHBOUR: 'it returns false'. Refute it at one input. -/
def fnExactBareWrong : ChangeSpec := { name := "fnExactBare", fn := fun _ => fun
  | [d1, d2] => { results := [.lit (.bool false)], args := [d1, d2] }
  | _ => none }
def FnExactBareWrongFalsely : Prop := fnExactBareRow.holds Tryd.pinned (OpenSpec.ofChange fnExactBareWrong)

/-- 'laws.FnExactTreeOk': WHATEVER THE INPUT: true; the input reads as it did. -/
def fnExactTreeOkSpec : ChangeSpec := { name := "fnExactTreeOk", fn := fun _ => fun
  | [d] => { results := [.lit (.bool true)], args := [d] }
  | _ => none }
def fnExactTreeOkRow : OpenClaim := { program := "ytefcelolakpnoaadoor", sum := "65971e426f6cd95a5cf71dc4c8f121c61c8bde30d01d6d525adcb0ee2feec667", func := "loop.example/g00459/laws.FnExactTreeOk", spec := "fnExactTreeOk", inPlace := ["internal/bytealg.IndexByteString", "internal/bytealg.IndexString"], unfollowed := true, recurses := true, named := ["unicode/utf8.first", "unicode/utf8.acceptRanges", "internal/bytealg.MaxLen"], apart := false, laid := [("unicode/utf8.acceptRanges", laid_unicode_utf8_acceptRanges), ("unicode/utf8.first", laid_unicode_utf8_first)] }
def FnExactTreeOkSaid : Prop := fnExactTreeOkRow.holds Tryd.pinned (OpenSpec.ofChange fnExactTreeOkSpec)

/-- ITS FALSE NEIGHBOUR: 'it returns false'. Refute it at one input. -/
def fnExactTreeOkWrong : ChangeSpec := { name := "fnExactTreeOk", fn := fun _ => fun
  | [d] => { results := [.lit (.bool false)], args := [d] }
  | _ => none }
def FnExactTreeOkWrongFalsely : Prop := fnExactTreeOkRow.holds Tryd.pinned (OpenSpec.ofChange fnExactTreeOkWrong)

/-- 'laws.FnExactMethodAt': WHATEVER THE INPUT: true; the input reads as it did. -/
def fnExactMethodAtSpec : ChangeSpec := { name := "fnExactMethodAt", fn := fun _ => fun
  | [d1, d2] => { results := [.lit (.bool true)], args := [d1, d2] }
  | _ => none }
def fnExactMethodAtRow : OpenClaim := { program := "ytefcelolakpnoaadoor", sum := "65971e426f6cd95a5cf71dc4c8f121c61c8bde30d01d6d525adcb0ee2feec667", func := "loop.example/g00459/laws.FnExactMethodAt", spec := "fnExactMethodAt", inPlace := ["internal/bytealg.IndexByteString", "internal/bytealg.IndexString"], unfollowed := true, recurses := true, named := ["unicode/utf8.first", "unicode/utf8.acceptRanges", "internal/bytealg.MaxLen"], apart := false, laid := [("unicode/utf8.acceptRanges", laid_unicode_utf8_acceptRanges), ("unicode/utf8.first", laid_unicode_utf8_first)] }
def FnExactMethodAtSaid : Prop := fnExactMethodAtRow.holds Tryd.pinned (OpenSpec.ofChange fnExactMethodAtSpec)

/-- ITS FALSE NEIGHBOUR: 'it returns false'. Refute it at one input. -/
def fnExactMethodAtWrong : ChangeSpec := { name := "fnExactMethodAt", fn := fun _ => fun
  | [d1, d2] => { results := [.lit (.bool false)], args := [d1, d2] }
  | _ => none }
def FnExactMethodAtWrongFalsely : Prop := fnExactMethodAtRow.holds Tryd.pinned (OpenSpec.ofChange fnExactMethodAtWrong)

/-- 'laws.FnExactLevelOf': WHATEVER THE INPUT: true; the input reads as it did. -/
def fnExactLevelOfSpec : ChangeSpec := { name := "fnExactLevelOf", fn := fun _ => fun
  | [d1, d2] => { results := [.lit (.bool true)], args := [d1, d2] }
  | _ => none }
def fnExactLevelOfRow : OpenClaim := { program := "ytefcelolakpnoaadoor", sum := "65971e426f6cd95a5cf71dc4c8f121c61c8bde30d01d6d525adcb0ee2feec667", func := "loop.example/g00459/laws.FnExactLevelOf", spec := "fnExactLevelOf", inPlace := ["internal/bytealg.IndexByteString", "internal/bytealg.IndexString"], unfollowed := true, recurses := true, named := ["unicode/utf8.first", "unicode/utf8.acceptRanges", "internal/bytealg.MaxLen"], apart := false, laid := [("unicode/utf8.acceptRanges", laid_unicode_utf8_acceptRanges), ("unicode/utf8.first", laid_unicode_utf8_first)] }
def FnExactLevelOfSaid : Prop := fnExactLevelOfRow.holds Tryd.pinned (OpenSpec.ofChange fnExactLevelOfSpec)

/-- ITS FALSE NEIGHBOUR: 'it returns false'. Refute it at one input. -/
def fnExactLevelOfWrong : ChangeSpec := { name := "fnExactLevelOf", fn := fun _ => fun
  | [d1, d2] => { results := [.lit (.bool false)], args := [d1, d2] }
  | _ => none }
def FnExactLevelOfWrongFalsely : Prop := fnExactLevelOfRow.holds Tryd.pinned (OpenSpec.ofChange fnExactLevelOfWrong)

/-- 'laws.FnExactCountName': WHATEVER THE INPUT: true; the input reads as it did. -/
def fnExactCountNameSpec : ChangeSpec := { name := "fnExactCountName", fn := fun _ => fun
  | [d1, d2, d3] => { results := [.lit (.bool true)], args := [d1, d2, d3] }
  | _ => none }
def fnExactCountNameRow : OpenClaim := { program := "ytefcelolakpnoaadoor", sum := "65971e426f6cd95a5cf71dc4c8f121c61c8bde30d01d6d525adcb0ee2feec667", func := "loop.example/g00459/laws.FnExactCountName", spec := "fnExactCountName", inPlace := ["internal/bytealg.IndexByteString", "internal/bytealg.IndexString"], unfollowed := true, recurses := true, named := ["unicode/utf8.first", "unicode/utf8.acceptRanges", "internal/bytealg.MaxLen"], apart := false, laid := [("unicode/utf8.acceptRanges", laid_unicode_utf8_acceptRanges), ("unicode/utf8.first", laid_unicode_utf8_first)] }
def FnExactCountNameSaid : Prop := fnExactCountNameRow.holds Tryd.pinned (OpenSpec.ofChange fnExactCountNameSpec)

/-- ITS FALSE NEIGHBOUR: 'it returns false'. Refute it at one input. -/
def fnExactCountNameWrong : ChangeSpec := { name := "fnExactCountName", fn := fun _ => fun
  | [d1, d2, d3] => { results := [.lit (.bool false)], args := [d1, d2, d3] }
  | _ => none }
def FnExactCountNameWrongFalsely : Prop := fnExactCountNameRow.holds Tryd.pinned (OpenSpec.ofChange fnExactCountNameWrong)

/-- 'laws.FnExactUnderOf': WHATEVER THE INPUT: true; the input reads as it did. -/
def fnExactUnderOfSpec : ChangeSpec := { name := "fnExactUnderOf", fn := fun _ => fun
  | [d1, d2] => { results := [.lit (.bool true)], args := [d1, d2] }
  | _ => none }
def fnExactUnderOfRow : OpenClaim := { program := "ytefcelolakpnoaadoor", sum := "65971e426f6cd95a5cf71dc4c8f121c61c8bde30d01d6d525adcb0ee2feec667", func := "loop.example/g00459/laws.FnExactUnderOf", spec := "fnExactUnderOf", inPlace := ["internal/bytealg.IndexByteString", "internal/bytealg.IndexString"], unfollowed := true, recurses := true, named := ["unicode/utf8.first", "unicode/utf8.acceptRanges", "internal/bytealg.MaxLen"], apart := false, laid := [("unicode/utf8.acceptRanges", laid_unicode_utf8_acceptRanges), ("unicode/utf8.first", laid_unicode_utf8_first)] }
def FnExactUnderOfSaid : Prop := fnExactUnderOfRow.holds Tryd.pinned (OpenSpec.ofChange fnExactUnderOfSpec)

/-- ITS FALSE NEIGHBOUR: 'it returns false'. Refute it at one input. -/
def fnExactUnderOfWrong : ChangeSpec := { name := "fnExactUnderOf", fn := fun _ => fun
  | [d1, d2] => { results := [.lit (.bool false)], args := [d1, d2] }
  | _ => none }
def FnExactUnderOfWrongFalsely : Prop := fnExactUnderOfRow.holds Tryd.pinned (OpenSpec.ofChange fnExactUnderOfWrong)

/-- 'laws.FnExactWantsPar': WHATEVER THE INPUT: true; the input reads as it did. -/
def fnExactWantsParSpec : ChangeSpec := { name := "fnExactWantsPar", fn := fun _ => fun
  | [d1, d2, d3] => { results := [.lit (.bool true)], args := [d1, d2, d3] }
  | _ => none }
def fnExactWantsParRow : OpenClaim := { program := "ytefcelolakpnoaadoor", sum := "65971e426f6cd95a5cf71dc4c8f121c61c8bde30d01d6d525adcb0ee2feec667", func := "loop.example/g00459/laws.FnExactWantsPar", spec := "fnExactWantsPar", inPlace := ["internal/bytealg.IndexByteString", "internal/bytealg.IndexString"], unfollowed := true, recurses := true, named := ["unicode/utf8.first", "unicode/utf8.acceptRanges", "internal/bytealg.MaxLen"], apart := false, laid := [("unicode/utf8.acceptRanges", laid_unicode_utf8_acceptRanges), ("unicode/utf8.first", laid_unicode_utf8_first)] }
def FnExactWantsParSaid : Prop := fnExactWantsParRow.holds Tryd.pinned (OpenSpec.ofChange fnExactWantsParSpec)

/-- ITS FALSE NEIGHBOUR: 'it returns false'. Refute it at one input. -/
def fnExactWantsParWrong : ChangeSpec := { name := "fnExactWantsPar", fn := fun _ => fun
  | [d1, d2, d3] => { results := [.lit (.bool false)], args := [d1, d2, d3] }
  | _ => none }
def FnExactWantsParWrongFalsely : Prop := fnExactWantsParRow.holds Tryd.pinned (OpenSpec.ofChange fnExactWantsParWrong)

/- THE SECOND FORM. 'bulk': how many values and letters a reading holds, each counted each time it is reached (what is shared counts as often as it is met; a slice's spare places count too). A statement '..UptoSaid' is the law's where the arguments, and the package variables that the reading takes, are together of bulk at most 1048576: NARROWER than '..Said'. Prove '..Said' where nothing that the law and all that it calls make is longer than what came in: it says more and counts as full. Else prove '..UptoSaid'. A law counts once. -/
mutual
def uptoBulk {H : Type} : DataW H → Nat
  | .lit (.string bytes) => bytes.length + 1
  | .lit _ => 1
  | .nil => 1
  | .ptr d => uptoBulk d + 1
  | .slice elems spare => uptoBulkAll elems + uptoBulkAll spare + 1
  | .agg parts => uptoBulkAll parts + 1
  | .iface _ d => uptoBulk d + 1
  | .map entries => uptoBulkEntries entries + 1
  | .held _ => 1
def uptoBulkAll {H : Type} : List (DataW H) → Nat
  | [] => 0
  | d :: r => uptoBulk d + uptoBulkAll r
def uptoBulkEntries {H : Type} : List (Lit × DataW H) → Nat
  | [] => 0
  | x :: r => uptoBulkEntry x + uptoBulkEntries r
def uptoBulkEntry {H : Type} : Lit × DataW H → Nat
  | (.string bytes, d) => bytes.length + uptoBulk d + 1
  | (_, d) => uptoBulk d + 1
 end
def uptoSmall : (H : Type) → List (DataW H) → Bool := fun _ ds => decide (uptoBulkAll ds ≤ 1048576)
def OpenSpec.upto (s : _root_.Go.ChangeSpec) : _root_.Go.OpenSpec := { _root_.Go.OpenSpec.ofChange s with cond := some uptoSmall }

/-- 'laws.FnExactNodeOk', WHERE WHAT IT READS IS OF BULK AT MOST 1048576: true; the input reads as it did. -/
def fnExactNodeOkUptoRow : OpenClaim := { program := "ytefcelolakpnoaadoor", sum := "65971e426f6cd95a5cf71dc4c8f121c61c8bde30d01d6d525adcb0ee2feec667", func := "loop.example/g00459/laws.FnExactNodeOk", spec := "fnExactNodeOk", inPlace := ["internal/bytealg.IndexByteString", "internal/bytealg.IndexString"], unfollowed := true, recurses := true, named := ["unicode/utf8.first", "unicode/utf8.acceptRanges", "internal/bytealg.MaxLen"], apart := false, laid := [("unicode/utf8.acceptRanges", laid_unicode_utf8_acceptRanges), ("unicode/utf8.first", laid_unicode_utf8_first)], narrowed := true }
def FnExactNodeOkUptoSaid : Prop := fnExactNodeOkUptoRow.holds Tryd.pinned (OpenSpec.upto fnExactNodeOkSpec)

/-- 'laws.FnExactDeepOf', WHERE WHAT IT READS IS OF BULK AT MOST 1048576: true; the input reads as it did. -/
def fnExactDeepOfUptoRow : OpenClaim := { program := "ytefcelolakpnoaadoor", sum := "65971e426f6cd95a5cf71dc4c8f121c61c8bde30d01d6d525adcb0ee2feec667", func := "loop.example/g00459/laws.FnExactDeepOf", spec := "fnExactDeepOf", inPlace := ["internal/bytealg.IndexByteString", "internal/bytealg.IndexString"], unfollowed := true, recurses := true, named := ["unicode/utf8.first", "unicode/utf8.acceptRanges", "internal/bytealg.MaxLen"], apart := false, laid := [("unicode/utf8.acceptRanges", laid_unicode_utf8_acceptRanges), ("unicode/utf8.first", laid_unicode_utf8_first)], narrowed := true }
def FnExactDeepOfUptoSaid : Prop := fnExactDeepOfUptoRow.holds Tryd.pinned (OpenSpec.upto fnExactDeepOfSpec)

/-- 'laws.FnExactBare', WHERE WHAT IT READS IS OF BULK AT MOST 1048576: true; the input reads as it did. -/
def fnExactBareUptoRow : OpenClaim := { program := "ytefcelolakpnoaadoor", sum := "65971e426f6cd95a5cf71dc4c8f121c61c8bde30d01d6d525adcb0ee2feec667", func := "loop.example/g00459/laws.FnExactBare", spec := "fnExactBare", inPlace := ["internal/bytealg.IndexByteString", "internal/bytealg.IndexString"], unfollowed := true, recurses := true, named := ["unicode/utf8.first", "unicode/utf8.acceptRanges", "internal/bytealg.MaxLen"], apart := false, laid := [("unicode/utf8.acceptRanges", laid_unicode_utf8_acceptRanges), ("unicode/utf8.first", laid_unicode_utf8_first)], narrowed := true }
def FnExactBareUptoSaid : Prop := fnExactBareUptoRow.holds Tryd.pinned (OpenSpec.upto fnExactBareSpec)

/-- 'laws.FnExactTreeOk', WHERE WHAT IT READS IS OF BULK AT MOST 1048576: true; the input reads as it did. -/
def fnExactTreeOkUptoRow : OpenClaim := { program := "ytefcelolakpnoaadoor", sum := "65971e426f6cd95a5cf71dc4c8f121c61c8bde30d01d6d525adcb0ee2feec667", func := "loop.example/g00459/laws.FnExactTreeOk", spec := "fnExactTreeOk", inPlace := ["internal/bytealg.IndexByteString", "internal/bytealg.IndexString"], unfollowed := true, recurses := true, named := ["unicode/utf8.first", "unicode/utf8.acceptRanges", "internal/bytealg.MaxLen"], apart := false, laid := [("unicode/utf8.acceptRanges", laid_unicode_utf8_acceptRanges), ("unicode/utf8.first", laid_unicode_utf8_first)], narrowed := true }
def FnExactTreeOkUptoSaid : Prop := fnExactTreeOkUptoRow.holds Tryd.pinned (OpenSpec.upto fnExactTreeOkSpec)

/-- 'laws.FnExactMethodAt', WHERE WHAT IT READS IS OF BULK AT MOST 1048576: true; the input reads as it did. -/
def fnExactMethodAtUptoRow : OpenClaim := { program := "ytefcelolakpnoaadoor", sum := "65971e426f6cd95a5cf71dc4c8f121c61c8bde30d01d6d525adcb0ee2feec667", func := "loop.example/g00459/laws.FnExactMethodAt", spec := "fnExactMethodAt", inPlace := ["internal/bytealg.IndexByteString", "internal/bytealg.IndexString"], unfollowed := true, recurses := true, named := ["unicode/utf8.first", "unicode/utf8.acceptRanges", "internal/bytealg.MaxLen"], apart := false, laid := [("unicode/utf8.acceptRanges", laid_unicode_utf8_acceptRanges), ("unicode/utf8.first", laid_unicode_utf8_first)], narrowed := true }
def FnExactMethodAtUptoSaid : Prop := fnExactMethodAtUptoRow.holds Tryd.pinned (OpenSpec.upto fnExactMethodAtSpec)

/-- 'laws.FnExactLevelOf', WHERE WHAT IT READS IS OF BULK AT MOST 1048576: true; the input reads as it did. -/
def fnExactLevelOfUptoRow : OpenClaim := { program := "ytefcelolakpnoaadoor", sum := "65971e426f6cd95a5cf71dc4c8f121c61c8bde30d01d6d525adcb0ee2feec667", func := "loop.example/g00459/laws.FnExactLevelOf", spec := "fnExactLevelOf", inPlace := ["internal/bytealg.IndexByteString", "internal/bytealg.IndexString"], unfollowed := true, recurses := true, named := ["unicode/utf8.first", "unicode/utf8.acceptRanges", "internal/bytealg.MaxLen"], apart := false, laid := [("unicode/utf8.acceptRanges", laid_unicode_utf8_acceptRanges), ("unicode/utf8.first", laid_unicode_utf8_first)], narrowed := true }
def FnExactLevelOfUptoSaid : Prop := fnExactLevelOfUptoRow.holds Tryd.pinned (OpenSpec.upto fnExactLevelOfSpec)

/-- 'laws.FnExactCountName', WHERE WHAT IT READS IS OF BULK AT MOST 1048576: true; the input reads as it did. -/
def fnExactCountNameUptoRow : OpenClaim := { program := "ytefcelolakpnoaadoor", sum := "65971e426f6cd95a5cf71dc4c8f121c61c8bde30d01d6d525adcb0ee2feec667", func := "loop.example/g00459/laws.FnExactCountName", spec := "fnExactCountName", inPlace := ["internal/bytealg.IndexByteString", "internal/bytealg.IndexString"], unfollowed := true, recurses := true, named := ["unicode/utf8.first", "unicode/utf8.acceptRanges", "internal/bytealg.MaxLen"], apart := false, laid := [("unicode/utf8.acceptRanges", laid_unicode_utf8_acceptRanges), ("unicode/utf8.first", laid_unicode_utf8_first)], narrowed := true }
def FnExactCountNameUptoSaid : Prop := fnExactCountNameUptoRow.holds Tryd.pinned (OpenSpec.upto fnExactCountNameSpec)

/-- 'laws.FnExactUnderOf', WHERE WHAT IT READS IS OF BULK AT MOST 1048576: true; the input reads as it did. -/
def fnExactUnderOfUptoRow : OpenClaim := { program := "ytefcelolakpnoaadoor", sum := "65971e426f6cd95a5cf71dc4c8f121c61c8bde30d01d6d525adcb0ee2feec667", func := "loop.example/g00459/laws.FnExactUnderOf", spec := "fnExactUnderOf", inPlace := ["internal/bytealg.IndexByteString", "internal/bytealg.IndexString"], unfollowed := true, recurses := true, named := ["unicode/utf8.first", "unicode/utf8.acceptRanges", "internal/bytealg.MaxLen"], apart := false, laid := [("unicode/utf8.acceptRanges", laid_unicode_utf8_acceptRanges), ("unicode/utf8.first", laid_unicode_utf8_first)], narrowed := true }
def FnExactUnderOfUptoSaid : Prop := fnExactUnderOfUptoRow.holds Tryd.pinned (OpenSpec.upto fnExactUnderOfSpec)

/-- 'laws.FnExactWantsPar', WHERE WHAT IT READS IS OF BULK AT MOST 1048576: true; the input reads as it did. -/
def fnExactWantsParUptoRow : OpenClaim := { program := "ytefcelolakpnoaadoor", sum := "65971e426f6cd95a5cf71dc4c8f121c61c8bde30d01d6d525adcb0ee2feec667", func := "loop.example/g00459/laws.FnExactWantsPar", spec := "fnExactWantsPar", inPlace := ["internal/bytealg.IndexByteString", "internal/bytealg.IndexString"], unfollowed := true, recurses := true, named := ["unicode/utf8.first", "unicode/utf8.acceptRanges", "internal/bytealg.MaxLen"], apart := false, laid := [("unicode/utf8.acceptRanges", laid_unicode_utf8_acceptRanges), ("unicode/utf8.first", laid_unicode_utf8_first)], narrowed := true }
def FnExactWantsParUptoSaid : Prop := fnExactWantsParUptoRow.holds Tryd.pinned (OpenSpec.upto fnExactWantsParSpec)

end Rows
end Go.Proofs.YtefcelolakpnoaaDoor
