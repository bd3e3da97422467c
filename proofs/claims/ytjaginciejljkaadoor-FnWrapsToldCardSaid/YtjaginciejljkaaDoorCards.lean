/-
  DERIVED. GIVEN WITH THE SEED: THE CARDS: each row of YtjaginciejljkaaDoorRows.lean that lists a variable, with what it lists TIED to the program's text (the seventh form; the later family's looks); each row that meets fmt, with fmt's text TOLD by the authors' own Lean function (tested against real Go, not proved from fmt's source: count such statements apart). THE CARD IS WHAT COUNTS. Prove the row's statement (the work); the ties are given (YtjaginciejljkaaDoorTie.lean); close each card by the builder's one call (the guide's Derived/Test/ToyasCard.lean, 'card_holds'). Laid BY PROGRAM, IN A SANDBOX (cutbox-door.mjs). By AI agents, Wed Nov 11 2026. No macro, syntax, notation, axiom, sorry.
-/
import Derived.Test.YtjaginciejljkaaDoorRows
import GoSem.ClaimSeven
namespace Go.Proofs.YtjaginciejljkaaDoor
namespace Rows

/-- THE TIED CARD OF 'laws.FnWraps'. -/
def fnWrapsCard : Claim7 := { stood := { row := fnWrapsRow, standIns := [], harness := (true, "669d0d209138f1eb64bb2ea2eebce1d18ebd4caa963550618b0e7a0b38caae6f"), looks := false }, kinds := [], alts := [], laidByText := true, laidKinds := [.data, .pinned], laidTests := true, laidLooks := .later }
def FnWrapsCardSaid : Prop := Claim7.holds Tryd.pinned (.plain (OpenSpec.ofChange fnWrapsSpec)) fnWrapsCard

/-- THE TIED CARD OF 'laws.FnWrapsTold'. -/
def fnWrapsToldCard : Claim7 := { stood := { row := fnWrapsToldRow, standIns := [], harness := (true, "669d0d209138f1eb64bb2ea2eebce1d18ebd4caa963550618b0e7a0b38caae6f"), looks := false }, kinds := [], alts := [], laidByText := true, laidKinds := [.data, .pinned], laidTests := true, laidLooks := .later }
def FnWrapsToldCardSaid : Prop := Claim7.holds Tryd.pinned (.plain (OpenSpec.ofChange fnWrapsToldSpec)) fnWrapsToldCard

/-- THE SECOND FORM's CARD OF 'laws.FnWraps'. -/
def fnWrapsUptoCard : Claim7 := { stood := { row := fnWrapsUptoRow, standIns := [], harness := (true, "669d0d209138f1eb64bb2ea2eebce1d18ebd4caa963550618b0e7a0b38caae6f"), looks := false }, kinds := [], alts := [], laidByText := true, laidKinds := [.data, .pinned], laidTests := true, laidLooks := .later }
def FnWrapsUptoCardSaid : Prop := Claim7.holds Tryd.pinned (.plain (OpenSpec.upto fnWrapsSpec)) fnWrapsUptoCard

/-- THE SECOND FORM's CARD OF 'laws.FnWrapsTold'. -/
def fnWrapsToldUptoCard : Claim7 := { stood := { row := fnWrapsToldUptoRow, standIns := [], harness := (true, "669d0d209138f1eb64bb2ea2eebce1d18ebd4caa963550618b0e7a0b38caae6f"), looks := false }, kinds := [], alts := [], laidByText := true, laidKinds := [.data, .pinned], laidTests := true, laidLooks := .later }
def FnWrapsToldUptoCardSaid : Prop := Claim7.holds Tryd.pinned (.plain (OpenSpec.upto fnWrapsToldSpec)) fnWrapsToldUptoCard
end Rows
end Go.Proofs.YtjaginciejljkaaDoor
