/-
  DERIVED. GIVEN WITH THE SEED: THE CARDS: each row of YtgcgipbjmobekaaDoorRows.lean that lists a variable, with what it lists TIED to the program's text (the seventh form; the later family's looks); each row that meets fmt, with fmt's text TOLD by the authors' own Lean function (tested against real Go, not proved from fmt's source: count such statements apart). THE CARD IS WHAT COUNTS. Prove the row's statement (the work); the ties are given (YtgcgipbjmobekaaDoorTie.lean); close each card by the builder's one call (the guide's Derived/Test/ToyasCard.lean, 'card_holds'). Laid BY PROGRAM, IN A SANDBOX (cutbox-door.mjs). By AI agents, Wed Nov 11 2026. No macro, syntax, notation, axiom, sorry.
-/
import Derived.Test.YtgcgipbjmobekaaDoorRows
import GoSem.ClaimSeven
namespace Go.Proofs.YtgcgipbjmobekaaDoor
namespace Rows

/-- THE TIED CARD OF 'laws.FnWraps'. -/
def fnWrapsCard : Claim7 := { stood := { row := fnWrapsRow, standIns := [], harness := (true, "a482e3a02e043ca8fbc950e710f32a2218f534a8eadddebef3ab37f36fbd7d7f"), looks := false }, kinds := [], alts := [], laidByText := true, laidKinds := [.data, .pinned], laidTests := true, laidLooks := .later }
def FnWrapsCardSaid : Prop := Claim7.holds Tryd.pinned (.plain (OpenSpec.ofChange fnWrapsSpec)) fnWrapsCard

/-- THE TIED CARD OF 'laws.FnExactFitting'. -/
def fnExactFittingCard : Claim7 := { stood := { row := fnExactFittingRow, standIns := [], harness := (true, "a482e3a02e043ca8fbc950e710f32a2218f534a8eadddebef3ab37f36fbd7d7f"), looks := false }, kinds := [], alts := [], laidByText := true, laidKinds := [.data, .pinned], laidTests := true, laidLooks := .later }
def FnExactFittingCardSaid : Prop := Claim7.holds Tryd.pinned (.plain (OpenSpec.ofChange fnExactFittingSpec)) fnExactFittingCard

/-- THE TIED CARD OF 'laws.FnExactWordsOf'. -/
def fnExactWordsOfCard : Claim7 := { stood := { row := fnExactWordsOfRow, standIns := [], harness := (true, "a482e3a02e043ca8fbc950e710f32a2218f534a8eadddebef3ab37f36fbd7d7f"), looks := false }, kinds := [], alts := [], laidByText := true, laidKinds := [.data, .pinned], laidTests := true, laidLooks := .later }
def FnExactWordsOfCardSaid : Prop := Claim7.holds Tryd.pinned (.plain (OpenSpec.ofChange fnExactWordsOfSpec)) fnExactWordsOfCard

/-- THE TIED CARD OF 'laws.FnExactNeat'. -/
def fnExactNeatCard : Claim7 := { stood := { row := fnExactNeatRow, standIns := [], harness := (true, "a482e3a02e043ca8fbc950e710f32a2218f534a8eadddebef3ab37f36fbd7d7f"), looks := false }, kinds := [], alts := [], laidByText := true, laidKinds := [.data, .pinned], laidTests := true, laidLooks := .later }
def FnExactNeatCardSaid : Prop := Claim7.holds Tryd.pinned (.plain (OpenSpec.ofChange fnExactNeatSpec)) fnExactNeatCard

/-- THE TIED CARD OF 'laws.FnExactWentTo'. -/
def fnExactWentToCard : Claim7 := { stood := { row := fnExactWentToRow, standIns := [], harness := (true, "a482e3a02e043ca8fbc950e710f32a2218f534a8eadddebef3ab37f36fbd7d7f"), looks := false }, kinds := [], alts := [], laidByText := true, laidKinds := [.data, .pinned], laidTests := true, laidLooks := .later }
def FnExactWentToCardSaid : Prop := Claim7.holds Tryd.pinned (.plain (OpenSpec.ofChange fnExactWentToSpec)) fnExactWentToCard

/-- THE TIED CARD OF 'laws.FnExactPlacesOf'. -/
def fnExactPlacesOfCard : Claim7 := { stood := { row := fnExactPlacesOfRow, standIns := [], harness := (true, "a482e3a02e043ca8fbc950e710f32a2218f534a8eadddebef3ab37f36fbd7d7f"), looks := false }, kinds := [], alts := [], laidByText := true, laidKinds := [.data, .pinned], laidTests := true, laidLooks := .later }
def FnExactPlacesOfCardSaid : Prop := Claim7.holds Tryd.pinned (.plain (OpenSpec.ofChange fnExactPlacesOfSpec)) fnExactPlacesOfCard

/-- THE SECOND FORM's CARD OF 'laws.FnWraps'. -/
def fnWrapsUptoCard : Claim7 := { stood := { row := fnWrapsUptoRow, standIns := [], harness := (true, "a482e3a02e043ca8fbc950e710f32a2218f534a8eadddebef3ab37f36fbd7d7f"), looks := false }, kinds := [], alts := [], laidByText := true, laidKinds := [.data, .pinned], laidTests := true, laidLooks := .later }
def FnWrapsUptoCardSaid : Prop := Claim7.holds Tryd.pinned (.plain (OpenSpec.upto fnWrapsSpec)) fnWrapsUptoCard

/-- THE SECOND FORM's CARD OF 'laws.FnExactFitting'. -/
def fnExactFittingUptoCard : Claim7 := { stood := { row := fnExactFittingUptoRow, standIns := [], harness := (true, "a482e3a02e043ca8fbc950e710f32a2218f534a8eadddebef3ab37f36fbd7d7f"), looks := false }, kinds := [], alts := [], laidByText := true, laidKinds := [.data, .pinned], laidTests := true, laidLooks := .later }
def FnExactFittingUptoCardSaid : Prop := Claim7.holds Tryd.pinned (.plain (OpenSpec.upto fnExactFittingSpec)) fnExactFittingUptoCard

/-- THE SECOND FORM's CARD OF 'laws.FnExactWordsOf'. -/
def fnExactWordsOfUptoCard : Claim7 := { stood := { row := fnExactWordsOfUptoRow, standIns := [], harness := (true, "a482e3a02e043ca8fbc950e710f32a2218f534a8eadddebef3ab37f36fbd7d7f"), looks := false }, kinds := [], alts := [], laidByText := true, laidKinds := [.data, .pinned], laidTests := true, laidLooks := .later }
def FnExactWordsOfUptoCardSaid : Prop := Claim7.holds Tryd.pinned (.plain (OpenSpec.upto fnExactWordsOfSpec)) fnExactWordsOfUptoCard

/-- THE SECOND FORM's CARD OF 'laws.FnExactNeat'. -/
def fnExactNeatUptoCard : Claim7 := { stood := { row := fnExactNeatUptoRow, standIns := [], harness := (true, "a482e3a02e043ca8fbc950e710f32a2218f534a8eadddebef3ab37f36fbd7d7f"), looks := false }, kinds := [], alts := [], laidByText := true, laidKinds := [.data, .pinned], laidTests := true, laidLooks := .later }
def FnExactNeatUptoCardSaid : Prop := Claim7.holds Tryd.pinned (.plain (OpenSpec.upto fnExactNeatSpec)) fnExactNeatUptoCard

/-- THE SECOND FORM's CARD OF 'laws.FnExactWentTo'. -/
def fnExactWentToUptoCard : Claim7 := { stood := { row := fnExactWentToUptoRow, standIns := [], harness := (true, "a482e3a02e043ca8fbc950e710f32a2218f534a8eadddebef3ab37f36fbd7d7f"), looks := false }, kinds := [], alts := [], laidByText := true, laidKinds := [.data, .pinned], laidTests := true, laidLooks := .later }
def FnExactWentToUptoCardSaid : Prop := Claim7.holds Tryd.pinned (.plain (OpenSpec.upto fnExactWentToSpec)) fnExactWentToUptoCard

/-- THE SECOND FORM's CARD OF 'laws.FnExactPlacesOf'. -/
def fnExactPlacesOfUptoCard : Claim7 := { stood := { row := fnExactPlacesOfUptoRow, standIns := [], harness := (true, "a482e3a02e043ca8fbc950e710f32a2218f534a8eadddebef3ab37f36fbd7d7f"), looks := false }, kinds := [], alts := [], laidByText := true, laidKinds := [.data, .pinned], laidTests := true, laidLooks := .later }
def FnExactPlacesOfUptoCardSaid : Prop := Claim7.holds Tryd.pinned (.plain (OpenSpec.upto fnExactPlacesOfSpec)) fnExactPlacesOfUptoCard
end Rows
end Go.Proofs.YtgcgipbjmobekaaDoor
