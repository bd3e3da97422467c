/-
  DERIVED. GIVEN WITH THE SEED: THE CARDS: each row of YtoloplpmjcgbdaaGreatDoorRows.lean that lists a variable, with what it lists TIED to the program's text (the seventh form; the later family's looks); each row that meets fmt, with fmt's text TOLD by the authors' own Lean function (tested against real Go, not proved from fmt's source: count such statements apart). THE CARD IS WHAT COUNTS. Prove the row's statement (the work); the ties are given (YtoloplpmjcgbdaaGreatDoorTie.lean); close each card by the builder's one call (the guide's Derived/Test/ToyasCard.lean, 'card_holds'). Laid BY PROGRAM, IN A SANDBOX (cutbox-door.mjs). By AI agents, Wed Nov 11 2026. No macro, syntax, notation, axiom, sorry.
-/
import Derived.Test.YtoloplpmjcgbdaaGreatDoorRows
import GoSem.ClaimSeven
namespace Go.Proofs.YtoloplpmjcgbdaaGreatDoor
namespace Rows

/-- THE TIED CARD OF 'laws.FnExactPlainOf'. -/
def fnExactPlainOfCard : Claim7 := { stood := { row := fnExactPlainOfRow, standIns := [], harness := (true, "86041b10fade99671ec5cd5ab39c41e7dc8fd2435de174b546d4864bcc142156"), looks := false }, kinds := [], alts := [], laidByText := true, laidKinds := [.data, .pinned], laidTests := true, laidLooks := .later }
def FnExactPlainOfCardSaid : Prop := Claim7.holds Tryz.pinned (.plain (OpenSpec.ofChange fnExactPlainOfSpec)) fnExactPlainOfCard

/-- THE TIED CARD OF 'laws.FnExactRenamed'. -/
def fnExactRenamedCard : Claim7 := { stood := { row := fnExactRenamedRow, standIns := [], harness := (true, "86041b10fade99671ec5cd5ab39c41e7dc8fd2435de174b546d4864bcc142156"), looks := false }, kinds := [], alts := [], laidByText := true, laidKinds := [.data, .pinned], laidTests := true, laidLooks := .later }
def FnExactRenamedCardSaid : Prop := Claim7.holds Tryz.pinned (.plain (OpenSpec.ofChange fnExactRenamedSpec)) fnExactRenamedCard

/-- THE SECOND FORM's CARD OF 'laws.FnExactPlainOf'. -/
def fnExactPlainOfUptoCard : Claim7 := { stood := { row := fnExactPlainOfUptoRow, standIns := [], harness := (true, "86041b10fade99671ec5cd5ab39c41e7dc8fd2435de174b546d4864bcc142156"), looks := false }, kinds := [], alts := [], laidByText := true, laidKinds := [.data, .pinned], laidTests := true, laidLooks := .later }
def FnExactPlainOfUptoCardSaid : Prop := Claim7.holds Tryz.pinned (.plain (OpenSpec.upto fnExactPlainOfSpec)) fnExactPlainOfUptoCard

/-- THE SECOND FORM's CARD OF 'laws.FnExactRenamed'. -/
def fnExactRenamedUptoCard : Claim7 := { stood := { row := fnExactRenamedUptoRow, standIns := [], harness := (true, "86041b10fade99671ec5cd5ab39c41e7dc8fd2435de174b546d4864bcc142156"), looks := false }, kinds := [], alts := [], laidByText := true, laidKinds := [.data, .pinned], laidTests := true, laidLooks := .later }
def FnExactRenamedUptoCardSaid : Prop := Claim7.holds Tryz.pinned (.plain (OpenSpec.upto fnExactRenamedSpec)) fnExactRenamedUptoCard
end Rows
end Go.Proofs.YtoloplpmjcgbdaaGreatDoor
