/-
  DERIVED. GIVEN WITH THE SEED: THE CARDS: each row of YtbgcifmhemldoaaDoorRows.lean that lists a variable, with what it lists TIED to the program's text (the seventh form; the later family's looks); each row that meets fmt, with fmt's text TOLD by the authors' own Lean function (tested against real Go, not proved from fmt's source: count such statements apart). THE CARD IS WHAT COUNTS. Prove the row's statement (the work); the ties are given (YtbgcifmhemldoaaDoorTie.lean); close each card by the builder's one call (the guide's Derived/Test/ToyasCard.lean, 'card_holds'). Laid BY PROGRAM, IN A SANDBOX (cutbox-door.mjs). By AI agents, Wed Nov 11 2026. No macro, syntax, notation, axiom, sorry.
-/
import Derived.Test.YtbgcifmhemldoaaDoorRows
import GoSem.ClaimSeven
namespace Go.Proofs.YtbgcifmhemldoaaDoor
namespace Rows

/-- THE TIED CARD OF 'laws.FnExactFreshName'. -/
def fnExactFreshNameCard : Claim7 := { stood := { row := fnExactFreshNameRow, standIns := [], harness := (true, "ebafb0ec97dbdabe11bb295f38be951bd1c39c61a4953dcce03b70f03bc36c04"), looks := false }, kinds := [], alts := [], laidByText := true, laidKinds := [.data, .data, .data, .data, .pinned], laidTests := true, laidLooks := .later }
def FnExactFreshNameCardSaid : Prop := Claim7.holds Tryd.pinned (.plain (OpenSpec.ofChange fnExactFreshNameSpec)) fnExactFreshNameCard

/-- THE TIED CARD OF 'laws.FnExactWrapNote'. -/
def fnExactWrapNoteCard : Claim7 := { stood := { row := fnExactWrapNoteRow, standIns := [], harness := (true, "ebafb0ec97dbdabe11bb295f38be951bd1c39c61a4953dcce03b70f03bc36c04"), looks := false }, kinds := [], alts := [], laidByText := true, laidKinds := [.data, .pinned], laidTests := true, laidLooks := .later }
def FnExactWrapNoteCardSaid : Prop := Claim7.holds Tryd.pinned (.plain (OpenSpec.ofChange fnExactWrapNoteSpec)) fnExactWrapNoteCard

/-- THE SECOND FORM's CARD OF 'laws.FnExactFreshName'. -/
def fnExactFreshNameUptoCard : Claim7 := { stood := { row := fnExactFreshNameUptoRow, standIns := [], harness := (true, "ebafb0ec97dbdabe11bb295f38be951bd1c39c61a4953dcce03b70f03bc36c04"), looks := false }, kinds := [], alts := [], laidByText := true, laidKinds := [.data, .data, .data, .data, .pinned], laidTests := true, laidLooks := .later }
def FnExactFreshNameUptoCardSaid : Prop := Claim7.holds Tryd.pinned (.plain (OpenSpec.upto fnExactFreshNameSpec)) fnExactFreshNameUptoCard

/-- THE SECOND FORM's CARD OF 'laws.FnExactWrapNote'. -/
def fnExactWrapNoteUptoCard : Claim7 := { stood := { row := fnExactWrapNoteUptoRow, standIns := [], harness := (true, "ebafb0ec97dbdabe11bb295f38be951bd1c39c61a4953dcce03b70f03bc36c04"), looks := false }, kinds := [], alts := [], laidByText := true, laidKinds := [.data, .pinned], laidTests := true, laidLooks := .later }
def FnExactWrapNoteUptoCardSaid : Prop := Claim7.holds Tryd.pinned (.plain (OpenSpec.upto fnExactWrapNoteSpec)) fnExactWrapNoteUptoCard
end Rows
end Go.Proofs.YtbgcifmhemldoaaDoor
