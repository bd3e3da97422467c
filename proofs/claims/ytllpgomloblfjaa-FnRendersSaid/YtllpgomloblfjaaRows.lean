/-
  No cell of these rows narrows 'for every input' (looked for: loops, veiled, ifaces, maps, wideKeys, modest, calm, conditions, laid).
  DERIVED. THE GIVEN ROWS OF THIS SEAT. 5 by the template 'for every input the law returns true; each argument reads behind the call as it read before'; 0 by the template 'total and deterministic' (their statements: YtllpgomloblfjaaTotals.lean).
  GIVEN WITH THE SEED: the statements are not yours to turn. If you find one false, say at which input.
  Laid BY PROGRAM, IN A SANDBOX (cutbox-rows.mjs): the forced cells as the released guide's own fill.sh prints them over the translation dfe83c28fca93ead… (all of the seat's roots in one cut). By AI agents, Wed Nov 11 2026. No macro, syntax, notation, axiom, sorry.
-/
import Derived.Test.YtllpgomloblfjaaChecked
import GoSem.Claim
import GoSem.ClaimJoined
import GoSem.ClaimMapViews
import Derived.JoinedTies
import Derived.KernelRfl
namespace Go.Proofs.Ytllpgomloblfjaa
/- THE CELL 'sum', in the pinned program and in every row, IS THE sha256 OF THE DUMP (.gsa) THAT YtllpgomloblfjaaProg.lean LOADS. Nothing in Lean hashes anything: it is a label: what it is worth is what the hold of that sum in a sandbox is worth. -/
noncomputable def Try.pinned : Pinned := { name := "ytllpgomloblfjaa", sum := "dfe83c28fca93ead037f85246f926294a6b7ef92a6e4ed9e537f6621a106b7f8", checked := Try.checked }
namespace Rows
def none {H : Type} : Left H := { results := [], args := [] }

/-- 'laws.FnSearches': WHATEVER THE INPUT: true; the input reads as it did. -/
def fnSearchesSpec : ChangeSpec := { name := "fnSearches", fn := fun _ => fun
  | [d] => { results := [.lit (.bool true)], args := [d] }
  | _ => none }
def fnSearchesRow : OpenClaim := { program := "ytllpgomloblfjaa", sum := "dfe83c28fca93ead037f85246f926294a6b7ef92a6e4ed9e537f6621a106b7f8", func := "loop.example/g00459/laws.FnSearches", spec := "fnSearches", inPlace := ["internal/abi.NoEscape", "internal/bytealg.MakeNoZero"], apart := false }
def FnSearchesSaid : Prop := fnSearchesRow.holds Try.pinned (OpenSpec.ofChange fnSearchesSpec)

/-- ITS FALSE NEIGHBOUR: 'it returns false'. Refute it at one input. -/
def fnSearchesWrong : ChangeSpec := { name := "fnSearches", fn := fun _ => fun
  | [d] => { results := [.lit (.bool false)], args := [d] }
  | _ => none }
def FnSearchesWrongFalsely : Prop := fnSearchesRow.holds Try.pinned (OpenSpec.ofChange fnSearchesWrong)

/-- 'laws.FnBounds': WHATEVER THE INPUT: true; the input reads as it did. -/
def fnBoundsSpec : ChangeSpec := { name := "fnBounds", fn := fun _ => fun
  | [d] => { results := [.lit (.bool true)], args := [d] }
  | _ => none }
def fnBoundsRow : OpenClaim := { program := "ytllpgomloblfjaa", sum := "dfe83c28fca93ead037f85246f926294a6b7ef92a6e4ed9e537f6621a106b7f8", func := "loop.example/g00459/laws.FnBounds", spec := "fnBounds", apart := false }
def FnBoundsSaid : Prop := fnBoundsRow.holds Try.pinned (OpenSpec.ofChange fnBoundsSpec)

/-- ITS FALSE NEIGHBOUR: 'it returns false'. Refute it at one input. -/
def fnBoundsWrong : ChangeSpec := { name := "fnBounds", fn := fun _ => fun
  | [d] => { results := [.lit (.bool false)], args := [d] }
  | _ => none }
def FnBoundsWrongFalsely : Prop := fnBoundsRow.holds Try.pinned (OpenSpec.ofChange fnBoundsWrong)

/-- 'laws.FnRenders': WHATEVER THE INPUT: true; the input reads as it did. -/
def fnRendersSpec : ChangeSpec := { name := "fnRenders", fn := fun _ => fun
  | [d] => { results := [.lit (.bool true)], args := [d] }
  | _ => none }
def fnRendersRow : OpenClaim := { program := "ytllpgomloblfjaa", sum := "dfe83c28fca93ead037f85246f926294a6b7ef92a6e4ed9e537f6621a106b7f8", func := "loop.example/g00459/laws.FnRenders", spec := "fnRenders", inPlace := ["internal/abi.NoEscape", "internal/bytealg.MakeNoZero"], apart := false }
def FnRendersSaid : Prop := fnRendersRow.holds Try.pinned (OpenSpec.ofChange fnRendersSpec)

/-- ITS FALSE NEIGHBOUR: 'it returns false'. Refute it at one input. -/
def fnRendersWrong : ChangeSpec := { name := "fnRenders", fn := fun _ => fun
  | [d] => { results := [.lit (.bool false)], args := [d] }
  | _ => none }
def FnRendersWrongFalsely : Prop := fnRendersRow.holds Try.pinned (OpenSpec.ofChange fnRendersWrong)

/-- 'laws.FnExactPopsOf': WHATEVER THE INPUT: true; the input reads as it did. -/
def fnExactPopsOfSpec : ChangeSpec := { name := "fnExactPopsOf", fn := fun _ => fun
  | [d1, d2, d3] => { results := [.lit (.bool true)], args := [d1, d2, d3] }
  | _ => none }
def fnExactPopsOfRow : OpenClaim := { program := "ytllpgomloblfjaa", sum := "dfe83c28fca93ead037f85246f926294a6b7ef92a6e4ed9e537f6621a106b7f8", func := "loop.example/g00459/laws.FnExactPopsOf", spec := "fnExactPopsOf", inPlace := ["internal/abi.NoEscape", "internal/bytealg.MakeNoZero"], apart := false }
def FnExactPopsOfSaid : Prop := fnExactPopsOfRow.holds Try.pinned (OpenSpec.ofChange fnExactPopsOfSpec)

/-- ITS FALSE NEIGHBOUR: 'it returns false'. Refute it at one input. -/
def fnExactPopsOfWrong : ChangeSpec := { name := "fnExactPopsOf", fn := fun _ => fun
  | [d1, d2, d3] => { results := [.lit (.bool false)], args := [d1, d2, d3] }
  | _ => none }
def FnExactPopsOfWrongFalsely : Prop := fnExactPopsOfRow.holds Try.pinned (OpenSpec.ofChange fnExactPopsOfWrong)

/-- 'laws.FnExactSearch': WHATEVER THE INPUT: true; the input reads as it did. -/
def fnExactSearchSpec : ChangeSpec := { name := "fnExactSearch", fn := fun _ => fun
  | [d1, d2, d3] => { results := [.lit (.bool true)], args := [d1, d2, d3] }
  | _ => none }
def fnExactSearchRow : OpenClaim := { program := "ytllpgomloblfjaa", sum := "dfe83c28fca93ead037f85246f926294a6b7ef92a6e4ed9e537f6621a106b7f8", func := "loop.example/g00459/laws.FnExactSearch", spec := "fnExactSearch", inPlace := ["internal/abi.NoEscape", "internal/bytealg.MakeNoZero"], apart := false }
def FnExactSearchSaid : Prop := fnExactSearchRow.holds Try.pinned (OpenSpec.ofChange fnExactSearchSpec)

/-- ITS FALSE NEIGHBOUR: 'it returns false'. Refute it at one input. -/
def fnExactSearchWrong : ChangeSpec := { name := "fnExactSearch", fn := fun _ => fun
  | [d1, d2, d3] => { results := [.lit (.bool false)], args := [d1, d2, d3] }
  | _ => none }
def FnExactSearchWrongFalsely : Prop := fnExactSearchRow.holds Try.pinned (OpenSpec.ofChange fnExactSearchWrong)

/- THE SECOND FORM. 'bulk': how many values and letters a reading holds, each counted each time it is reached (what is shared counts as often as it is met; a slice's spare places count too). A statement '..UptoSaid' is the law's where the arguments, and the package variables that the reading takes, are together of bulk at most 1048576: NARROWER than '..Said'. Prove '..Said' where nothing that the law and all that it calls make is longer than what came in: it says more and counts as full. Else prove '..UptoSaid'. A law counts once. -/
mutual
def uptoBulk {H : Type} : DataW H → Nat
  | .lit (.string bytes) => bytes.length + 1
  | .lit _ => 1
  | .nil => 1
  | .ptr d => uptoBulk d + 1
  | .slice elems spare => uptoBulkAll elems + uptoBulkAll spare + 1
  | .agg parts => uptoBulkAll parts + 1
  | .iface _ d => uptoBulk d + 1
  | .map entries => uptoBulkEntries entries + 1
  | .held _ => 1
def uptoBulkAll {H : Type} : List (DataW H) → Nat
  | [] => 0
  | d :: r => uptoBulk d + uptoBulkAll r
def uptoBulkEntries {H : Type} : List (Lit × DataW H) → Nat
  | [] => 0
  | x :: r => uptoBulkEntry x + uptoBulkEntries r
def uptoBulkEntry {H : Type} : Lit × DataW H → Nat
  | (.string bytes, d) => bytes.length + uptoBulk d + 1
  | (_, d) => uptoBulk d + 1
 end
def uptoSmall : (H : Type) → List (DataW H) → Bool := fun _ ds => decide (uptoBulkAll ds ≤ 1048576)
def OpenSpec.upto (s : _root_.Go.ChangeSpec) : _root_.Go.OpenSpec := { _root_.Go.OpenSpec.ofChange s with cond := some uptoSmall }

/-- 'laws.FnSearches', WHERE WHAT IT READS IS OF BULK AT MOST 1048576: true; the input reads as it did. -/
def fnSearchesUptoRow : OpenClaim := { program := "ytllpgomloblfjaa", sum := "dfe83c28fca93ead037f85246f926294a6b7ef92a6e4ed9e537f6621a106b7f8", func := "loop.example/g00459/laws.FnSearches", spec := "fnSearches", inPlace := ["internal/abi.NoEscape", "internal/bytealg.MakeNoZero"], apart := false, narrowed := true }
def FnSearchesUptoSaid : Prop := fnSearchesUptoRow.holds Try.pinned (OpenSpec.upto fnSearchesSpec)

/-- 'laws.FnBounds', WHERE WHAT IT READS IS OF BULK AT MOST 1048576: true; the input reads as it did. -/
def fnBoundsUptoRow : OpenClaim := { program := "ytllpgomloblfjaa", sum := "dfe83c28fca93ead037f85246f926294a6b7ef92a6e4ed9e537f6621a106b7f8", func := "loop.example/g00459/laws.FnBounds", spec := "fnBounds", apart := false, narrowed := true }
def FnBoundsUptoSaid : Prop := fnBoundsUptoRow.holds Try.pinned (OpenSpec.upto fnBoundsSpec)

/-- 'laws.FnRenders', WHERE WHAT IT READS IS OF BULK AT MOST 1048576: true; the input reads as it did. -/
def fnRendersUptoRow : OpenClaim := { program := "ytllpgomloblfjaa", sum := "dfe83c28fca93ead037f85246f926294a6b7ef92a6e4ed9e537f6621a106b7f8", func := "loop.example/g00459/laws.FnRenders", spec := "fnRenders", inPlace := ["internal/abi.NoEscape", "internal/bytealg.MakeNoZero"], apart := false, narrowed := true }
def FnRendersUptoSaid : Prop := fnRendersUptoRow.holds Try.pinned (OpenSpec.upto fnRendersSpec)

/-- 'laws.FnExactPopsOf', WHERE WHAT IT READS IS OF BULK AT MOST 1048576: true; the input reads as it did. -/
def fnExactPopsOfUptoRow : OpenClaim := { program := "ytllpgomloblfjaa", sum := "dfe83c28fca93ead037f85246f926294a6b7ef92a6e4ed9e537f6621a106b7f8", func := "loop.example/g00459/laws.FnExactPopsOf", spec := "fnExactPopsOf", inPlace := ["internal/abi.NoEscape", "internal/bytealg.MakeNoZero"], apart := false, narrowed := true }
def FnExactPopsOfUptoSaid : Prop := fnExactPopsOfUptoRow.holds Try.pinned (OpenSpec.upto fnExactPopsOfSpec)

/-- 'laws.FnExactSearch', WHERE WHAT IT READS IS OF BULK AT MOST 1048576: true; the input reads as it did. -/
def fnExactSearchUptoRow : OpenClaim := { program := "ytllpgomloblfjaa", sum := "dfe83c28fca93ead037f85246f926294a6b7ef92a6e4ed9e537f6621a106b7f8", func := "loop.example/g00459/laws.FnExactSearch", spec := "fnExactSearch", inPlace := ["internal/abi.NoEscape", "internal/bytealg.MakeNoZero"], apart := false, narrowed := true }
def FnExactSearchUptoSaid : Prop := fnExactSearchUptoRow.holds Try.pinned (OpenSpec.upto fnExactSearchSpec)

end Rows
end Go.Proofs.Ytllpgomloblfjaa
