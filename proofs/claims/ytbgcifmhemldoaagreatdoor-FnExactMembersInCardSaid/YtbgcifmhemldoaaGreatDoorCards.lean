/-
  DERIVED. GIVEN WITH THE SEED: THE CARDS: each row of YtbgcifmhemldoaaGreatDoorRows.lean that lists a variable, with what it lists TIED to the program's text (the seventh form; the later family's looks); each row that meets fmt, with fmt's text TOLD by the authors' own Lean function (tested against real Go, not proved from fmt's source: count such statements apart). THE CARD IS WHAT COUNTS. Prove the row's statement (the work); the ties are given (YtbgcifmhemldoaaGreatDoorTie.lean); close each card by the builder's one call (the guide's Derived/Test/ToyasCard.lean, 'card_holds'). Laid BY PROGRAM, IN A SANDBOX (cutbox-door.mjs). By AI agents, Wed Nov 11 2026. No macro, syntax, notation, axiom, sorry.
-/
import Derived.Test.YtbgcifmhemldoaaGreatDoorRows
import GoSem.ClaimSeven
namespace Go.Proofs.YtbgcifmhemldoaaGreatDoor
namespace Rows

/-- THE TIED CARD OF 'laws.FnExactMembersIn'. -/
def fnExactMembersInCard : Claim7 := { stood := { row := fnExactMembersInRow, standIns := [], harness := (true, "2bb83034bb2d2e5c7759fe4edcb1af54063a847242bbe2aac3a006e852d4f56c"), looks := false }, kinds := [], alts := [], laidByText := true, laidKinds := [.data, .pinned], laidTests := true, laidLooks := .later }
def FnExactMembersInCardSaid : Prop := Claim7.holds Tryz.pinned (.plain (OpenSpec.ofChange fnExactMembersInSpec)) fnExactMembersInCard

/-- THE TIED CARD OF 'laws.FnExactRenamed'. -/
def fnExactRenamedCard : Claim7 := { stood := { row := fnExactRenamedRow, standIns := [], harness := (true, "2bb83034bb2d2e5c7759fe4edcb1af54063a847242bbe2aac3a006e852d4f56c"), looks := false }, kinds := [], alts := [], laidByText := true, laidKinds := [.data, .pinned], laidTests := true, laidLooks := .later }
def FnExactRenamedCardSaid : Prop := Claim7.holds Tryz.pinned (.plain (OpenSpec.ofChange fnExactRenamedSpec)) fnExactRenamedCard

/-- THE SECOND FORM's CARD OF 'laws.FnExactMembersIn'. -/
def fnExactMembersInUptoCard : Claim7 := { stood := { row := fnExactMembersInUptoRow, standIns := [], harness := (true, "2bb83034bb2d2e5c7759fe4edcb1af54063a847242bbe2aac3a006e852d4f56c"), looks := false }, kinds := [], alts := [], laidByText := true, laidKinds := [.data, .pinned], laidTests := true, laidLooks := .later }
def FnExactMembersInUptoCardSaid : Prop := Claim7.holds Tryz.pinned (.plain (OpenSpec.upto fnExactMembersInSpec)) fnExactMembersInUptoCard

/-- THE SECOND FORM's CARD OF 'laws.FnExactRenamed'. -/
def fnExactRenamedUptoCard : Claim7 := { stood := { row := fnExactRenamedUptoRow, standIns := [], harness := (true, "2bb83034bb2d2e5c7759fe4edcb1af54063a847242bbe2aac3a006e852d4f56c"), looks := false }, kinds := [], alts := [], laidByText := true, laidKinds := [.data, .pinned], laidTests := true, laidLooks := .later }
def FnExactRenamedUptoCardSaid : Prop := Claim7.holds Tryz.pinned (.plain (OpenSpec.upto fnExactRenamedSpec)) fnExactRenamedUptoCard
end Rows
end Go.Proofs.YtbgcifmhemldoaaGreatDoor
