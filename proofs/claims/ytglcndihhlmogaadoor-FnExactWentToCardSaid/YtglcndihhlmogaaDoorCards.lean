/-
  DERIVED. GIVEN WITH THE SEED: THE CARDS: each row of YtglcndihhlmogaaDoorRows.lean that lists a variable, with what it lists TIED to the program's text (the seventh form; the later family's looks); each row that meets fmt, with fmt's text TOLD by the authors' own Lean function (tested against real Go, not proved from fmt's source: count such statements apart). THE CARD IS WHAT COUNTS. Prove the row's statement (the work); the ties are given (YtglcndihhlmogaaDoorTie.lean); close each card by the builder's one call (the guide's Derived/Test/ToyasCard.lean, 'card_holds'). Laid BY PROGRAM, IN A SANDBOX (cutbox-door.mjs). By AI agents, Wed Nov 11 2026. No macro, syntax, notation, axiom, sorry.
-/
import Derived.Test.YtglcndihhlmogaaDoorRows
import GoSem.ClaimSeven
namespace Go.Proofs.YtglcndihhlmogaaDoor
namespace Rows

/-- THE TIED CARD OF 'laws.FnExactWentTo'. -/
def fnExactWentToCard : Claim7 := { stood := { row := fnExactWentToRow, standIns := [], harness := (true, "b3db02d172ba9e729cba0d96ef8386b46809d2c3d12786c87fb4c35f4f272569"), looks := false }, kinds := [], alts := [], laidByText := true, laidKinds := [.data, .pinned], laidTests := true, laidLooks := .later }
def FnExactWentToCardSaid : Prop := Claim7.holds Tryd.pinned (.plain (OpenSpec.ofChange fnExactWentToSpec)) fnExactWentToCard

/-- THE TIED CARD OF 'laws.FnExactPlacesOf'. -/
def fnExactPlacesOfCard : Claim7 := { stood := { row := fnExactPlacesOfRow, standIns := [], harness := (true, "b3db02d172ba9e729cba0d96ef8386b46809d2c3d12786c87fb4c35f4f272569"), looks := false }, kinds := [], alts := [], laidByText := true, laidKinds := [.data, .pinned], laidTests := true, laidLooks := .later }
def FnExactPlacesOfCardSaid : Prop := Claim7.holds Tryd.pinned (.plain (OpenSpec.ofChange fnExactPlacesOfSpec)) fnExactPlacesOfCard

/-- THE SECOND FORM's CARD OF 'laws.FnExactWentTo'. -/
def fnExactWentToUptoCard : Claim7 := { stood := { row := fnExactWentToUptoRow, standIns := [], harness := (true, "b3db02d172ba9e729cba0d96ef8386b46809d2c3d12786c87fb4c35f4f272569"), looks := false }, kinds := [], alts := [], laidByText := true, laidKinds := [.data, .pinned], laidTests := true, laidLooks := .later }
def FnExactWentToUptoCardSaid : Prop := Claim7.holds Tryd.pinned (.plain (OpenSpec.upto fnExactWentToSpec)) fnExactWentToUptoCard

/-- THE SECOND FORM's CARD OF 'laws.FnExactPlacesOf'. -/
def fnExactPlacesOfUptoCard : Claim7 := { stood := { row := fnExactPlacesOfUptoRow, standIns := [], harness := (true, "b3db02d172ba9e729cba0d96ef8386b46809d2c3d12786c87fb4c35f4f272569"), looks := false }, kinds := [], alts := [], laidByText := true, laidKinds := [.data, .pinned], laidTests := true, laidLooks := .later }
def FnExactPlacesOfUptoCardSaid : Prop := Claim7.holds Tryd.pinned (.plain (OpenSpec.upto fnExactPlacesOfSpec)) fnExactPlacesOfUptoCard
end Rows
end Go.Proofs.YtglcndihhlmogaaDoor
