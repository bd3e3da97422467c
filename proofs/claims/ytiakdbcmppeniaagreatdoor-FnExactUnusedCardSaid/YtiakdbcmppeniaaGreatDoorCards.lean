/-
  DERIVED. GIVEN WITH THE SEED: THE CARDS: each row of YtiakdbcmppeniaaGreatDoorRows.lean that lists a variable, with what it lists TIED to the program's text (the seventh form; the later family's looks); each row that meets fmt, with fmt's text TOLD by the authors' own Lean function (tested against real Go, not proved from fmt's source: count such statements apart). THE CARD IS WHAT COUNTS. Prove the row's statement (the work); the ties are given (YtiakdbcmppeniaaGreatDoorTie.lean); close each card by the builder's one call (the guide's Derived/Test/ToyasCard.lean, 'card_holds'). Laid BY PROGRAM, IN A SANDBOX (cutbox-door.mjs). By AI agents, Wed Nov 11 2026. No macro, syntax, notation, axiom, sorry.
-/
import Derived.Test.YtiakdbcmppeniaaGreatDoorRows
import GoSem.ClaimSeven
namespace Go.Proofs.YtiakdbcmppeniaaGreatDoor
namespace Rows

/-- THE TIED CARD OF 'laws.FnExactNamesIn'. -/
def fnExactNamesInCard : Claim7 := { stood := { row := fnExactNamesInRow, standIns := [], harness := (true, "269cbc82a1c262c16cda91c2dd120027020d9e89396ea494ea5617bd4d9e6da2"), looks := false }, kinds := [], alts := [], laidByText := true, laidKinds := [.data, .pinned], laidTests := true, laidLooks := .later }
def FnExactNamesInCardSaid : Prop := Claim7.holds Tryz.pinned (.plain (OpenSpec.ofChange fnExactNamesInSpec)) fnExactNamesInCard

/-- THE TIED CARD OF 'laws.FnExactLetsIn'. -/
def fnExactLetsInCard : Claim7 := { stood := { row := fnExactLetsInRow, standIns := [], harness := (true, "269cbc82a1c262c16cda91c2dd120027020d9e89396ea494ea5617bd4d9e6da2"), looks := false }, kinds := [], alts := [], laidByText := true, laidKinds := [.data, .pinned], laidTests := true, laidLooks := .later }
def FnExactLetsInCardSaid : Prop := Claim7.holds Tryz.pinned (.plain (OpenSpec.ofChange fnExactLetsInSpec)) fnExactLetsInCard

/-- THE TIED CARD OF 'laws.FnExactUnused'. -/
def fnExactUnusedCard : Claim7 := { stood := { row := fnExactUnusedRow, standIns := [], harness := (true, "269cbc82a1c262c16cda91c2dd120027020d9e89396ea494ea5617bd4d9e6da2"), looks := false }, kinds := [], alts := [], laidByText := true, laidKinds := [.data, .pinned], laidTests := true, laidLooks := .later }
def FnExactUnusedCardSaid : Prop := Claim7.holds Tryz.pinned (.plain (OpenSpec.ofChange fnExactUnusedSpec)) fnExactUnusedCard

/-- THE TIED CARD OF 'laws.FnExactFreeIn'. -/
def fnExactFreeInCard : Claim7 := { stood := { row := fnExactFreeInRow, standIns := [], harness := (true, "269cbc82a1c262c16cda91c2dd120027020d9e89396ea494ea5617bd4d9e6da2"), looks := false }, kinds := [], alts := [], laidByText := true, laidKinds := [.data, .pinned], laidTests := true, laidLooks := .later }
def FnExactFreeInCardSaid : Prop := Claim7.holds Tryz.pinned (.plain (OpenSpec.ofChange fnExactFreeInSpec)) fnExactFreeInCard

/-- THE SECOND FORM's CARD OF 'laws.FnExactNamesIn'. -/
def fnExactNamesInUptoCard : Claim7 := { stood := { row := fnExactNamesInUptoRow, standIns := [], harness := (true, "269cbc82a1c262c16cda91c2dd120027020d9e89396ea494ea5617bd4d9e6da2"), looks := false }, kinds := [], alts := [], laidByText := true, laidKinds := [.data, .pinned], laidTests := true, laidLooks := .later }
def FnExactNamesInUptoCardSaid : Prop := Claim7.holds Tryz.pinned (.plain (OpenSpec.upto fnExactNamesInSpec)) fnExactNamesInUptoCard

/-- THE SECOND FORM's CARD OF 'laws.FnExactLetsIn'. -/
def fnExactLetsInUptoCard : Claim7 := { stood := { row := fnExactLetsInUptoRow, standIns := [], harness := (true, "269cbc82a1c262c16cda91c2dd120027020d9e89396ea494ea5617bd4d9e6da2"), looks := false }, kinds := [], alts := [], laidByText := true, laidKinds := [.data, .pinned], laidTests := true, laidLooks := .later }
def FnExactLetsInUptoCardSaid : Prop := Claim7.holds Tryz.pinned (.plain (OpenSpec.upto fnExactLetsInSpec)) fnExactLetsInUptoCard

/-- THE SECOND FORM's CARD OF 'laws.FnExactUnused'. -/
def fnExactUnusedUptoCard : Claim7 := { stood := { row := fnExactUnusedUptoRow, standIns := [], harness := (true, "269cbc82a1c262c16cda91c2dd120027020d9e89396ea494ea5617bd4d9e6da2"), looks := false }, kinds := [], alts := [], laidByText := true, laidKinds := [.data, .pinned], laidTests := true, laidLooks := .later }
def FnExactUnusedUptoCardSaid : Prop := Claim7.holds Tryz.pinned (.plain (OpenSpec.upto fnExactUnusedSpec)) fnExactUnusedUptoCard

/-- THE SECOND FORM's CARD OF 'laws.FnExactFreeIn'. -/
def fnExactFreeInUptoCard : Claim7 := { stood := { row := fnExactFreeInUptoRow, standIns := [], harness := (true, "269cbc82a1c262c16cda91c2dd120027020d9e89396ea494ea5617bd4d9e6da2"), looks := false }, kinds := [], alts := [], laidByText := true, laidKinds := [.data, .pinned], laidTests := true, laidLooks := .later }
def FnExactFreeInUptoCardSaid : Prop := Claim7.holds Tryz.pinned (.plain (OpenSpec.upto fnExactFreeInSpec)) fnExactFreeInUptoCard
end Rows
end Go.Proofs.YtiakdbcmppeniaaGreatDoor
