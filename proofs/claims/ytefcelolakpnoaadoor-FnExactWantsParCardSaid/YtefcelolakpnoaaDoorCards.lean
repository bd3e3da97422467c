/-
  DERIVED. GIVEN WITH THE SEED: THE CARDS: each row of YtefcelolakpnoaaDoorRows.lean that lists a variable, with what it lists TIED to the program's text (the seventh form; the later family's looks); each row that meets fmt, with fmt's text TOLD by the authors' own Lean function (tested against real Go, not proved from fmt's source: count such statements apart). THE CARD IS WHAT COUNTS. Prove the row's statement (the work); the ties are given (YtefcelolakpnoaaDoorTie.lean); close each card by the builder's one call (the guide's Derived/Test/ToyasCard.lean, 'card_holds'). Laid BY PROGRAM, IN A SANDBOX (cutbox-door.mjs). By AI agents, Wed Nov 11 2026. No macro, syntax, notation, axiom, sorry.
-/
import Derived.Test.YtefcelolakpnoaaDoorRows
import GoSem.ClaimSeven
namespace Go.Proofs.YtefcelolakpnoaaDoor
namespace Rows

/-- THE TIED CARD OF 'laws.FnExactNodeOk'. -/
def fnExactNodeOkCard : Claim7 := { stood := { row := fnExactNodeOkRow, standIns := [], harness := (true, "b7807d75c160f092ad50d0341835160da240c08557ffa90f4f6240b756af48fc"), looks := false }, kinds := [], alts := [], laidByText := true, laidKinds := [.data, .pinned], laidTests := true, laidLooks := .later }
def FnExactNodeOkCardSaid : Prop := Claim7.holds Tryd.pinned (.plain (OpenSpec.ofChange fnExactNodeOkSpec)) fnExactNodeOkCard

/-- THE TIED CARD OF 'laws.FnExactDeepOf'. -/
def fnExactDeepOfCard : Claim7 := { stood := { row := fnExactDeepOfRow, standIns := [], harness := (true, "b7807d75c160f092ad50d0341835160da240c08557ffa90f4f6240b756af48fc"), looks := false }, kinds := [], alts := [], laidByText := true, laidKinds := [.data, .pinned], laidTests := true, laidLooks := .later }
def FnExactDeepOfCardSaid : Prop := Claim7.holds Tryd.pinned (.plain (OpenSpec.ofChange fnExactDeepOfSpec)) fnExactDeepOfCard

/-- THE TIED CARD OF 'laws.FnExactBare'. -/
def fnExactBareCard : Claim7 := { stood := { row := fnExactBareRow, standIns := [], harness := (true, "b7807d75c160f092ad50d0341835160da240c08557ffa90f4f6240b756af48fc"), looks := false }, kinds := [], alts := [], laidByText := true, laidKinds := [.data, .pinned], laidTests := true, laidLooks := .later }
def FnExactBareCardSaid : Prop := Claim7.holds Tryd.pinned (.plain (OpenSpec.ofChange fnExactBareSpec)) fnExactBareCard

/-- THE TIED CARD OF 'laws.FnExactTreeOk'. -/
def fnExactTreeOkCard : Claim7 := { stood := { row := fnExactTreeOkRow, standIns := [], harness := (true, "b7807d75c160f092ad50d0341835160da240c08557ffa90f4f6240b756af48fc"), looks := false }, kinds := [], alts := [], laidByText := true, laidKinds := [.data, .pinned], laidTests := true, laidLooks := .later }
def FnExactTreeOkCardSaid : Prop := Claim7.holds Tryd.pinned (.plain (OpenSpec.ofChange fnExactTreeOkSpec)) fnExactTreeOkCard

/-- THE TIED CARD OF 'laws.FnExactMethodAt'. -/
def fnExactMethodAtCard : Claim7 := { stood := { row := fnExactMethodAtRow, standIns := [], harness := (true, "b7807d75c160f092ad50d0341835160da240c08557ffa90f4f6240b756af48fc"), looks := false }, kinds := [], alts := [], laidByText := true, laidKinds := [.data, .pinned], laidTests := true, laidLooks := .later }
def FnExactMethodAtCardSaid : Prop := Claim7.holds Tryd.pinned (.plain (OpenSpec.ofChange fnExactMethodAtSpec)) fnExactMethodAtCard

/-- THE TIED CARD OF 'laws.FnExactLevelOf'. -/
def fnExactLevelOfCard : Claim7 := { stood := { row := fnExactLevelOfRow, standIns := [], harness := (true, "b7807d75c160f092ad50d0341835160da240c08557ffa90f4f6240b756af48fc"), looks := false }, kinds := [], alts := [], laidByText := true, laidKinds := [.data, .pinned], laidTests := true, laidLooks := .later }
def FnExactLevelOfCardSaid : Prop := Claim7.holds Tryd.pinned (.plain (OpenSpec.ofChange fnExactLevelOfSpec)) fnExactLevelOfCard

/-- THE TIED CARD OF 'laws.FnExactCountName'. -/
def fnExactCountNameCard : Claim7 := { stood := { row := fnExactCountNameRow, standIns := [], harness := (true, "b7807d75c160f092ad50d0341835160da240c08557ffa90f4f6240b756af48fc"), looks := false }, kinds := [], alts := [], laidByText := true, laidKinds := [.data, .pinned], laidTests := true, laidLooks := .later }
def FnExactCountNameCardSaid : Prop := Claim7.holds Tryd.pinned (.plain (OpenSpec.ofChange fnExactCountNameSpec)) fnExactCountNameCard

/-- THE TIED CARD OF 'laws.FnExactUnderOf'. -/
def fnExactUnderOfCard : Claim7 := { stood := { row := fnExactUnderOfRow, standIns := [], harness := (true, "b7807d75c160f092ad50d0341835160da240c08557ffa90f4f6240b756af48fc"), looks := false }, kinds := [], alts := [], laidByText := true, laidKinds := [.data, .pinned], laidTests := true, laidLooks := .later }
def FnExactUnderOfCardSaid : Prop := Claim7.holds Tryd.pinned (.plain (OpenSpec.ofChange fnExactUnderOfSpec)) fnExactUnderOfCard

/-- THE TIED CARD OF 'laws.FnExactWantsPar'. -/
def fnExactWantsParCard : Claim7 := { stood := { row := fnExactWantsParRow, standIns := [], harness := (true, "b7807d75c160f092ad50d0341835160da240c08557ffa90f4f6240b756af48fc"), looks := false }, kinds := [], alts := [], laidByText := true, laidKinds := [.data, .pinned], laidTests := true, laidLooks := .later }
def FnExactWantsParCardSaid : Prop := Claim7.holds Tryd.pinned (.plain (OpenSpec.ofChange fnExactWantsParSpec)) fnExactWantsParCard

/-- THE SECOND FORM's CARD OF 'laws.FnExactNodeOk'. -/
def fnExactNodeOkUptoCard : Claim7 := { stood := { row := fnExactNodeOkUptoRow, standIns := [], harness := (true, "b7807d75c160f092ad50d0341835160da240c08557ffa90f4f6240b756af48fc"), looks := false }, kinds := [], alts := [], laidByText := true, laidKinds := [.data, .pinned], laidTests := true, laidLooks := .later }
def FnExactNodeOkUptoCardSaid : Prop := Claim7.holds Tryd.pinned (.plain (OpenSpec.upto fnExactNodeOkSpec)) fnExactNodeOkUptoCard

/-- THE SECOND FORM's CARD OF 'laws.FnExactDeepOf'. -/
def fnExactDeepOfUptoCard : Claim7 := { stood := { row := fnExactDeepOfUptoRow, standIns := [], harness := (true, "b7807d75c160f092ad50d0341835160da240c08557ffa90f4f6240b756af48fc"), looks := false }, kinds := [], alts := [], laidByText := true, laidKinds := [.data, .pinned], laidTests := true, laidLooks := .later }
def FnExactDeepOfUptoCardSaid : Prop := Claim7.holds Tryd.pinned (.plain (OpenSpec.upto fnExactDeepOfSpec)) fnExactDeepOfUptoCard

/-- THE SECOND FORM's CARD OF 'laws.FnExactBare'. -/
def fnExactBareUptoCard : Claim7 := { stood := { row := fnExactBareUptoRow, standIns := [], harness := (true, "b7807d75c160f092ad50d0341835160da240c08557ffa90f4f6240b756af48fc"), looks := false }, kinds := [], alts := [], laidByText := true, laidKinds := [.data, .pinned], laidTests := true, laidLooks := .later }
def FnExactBareUptoCardSaid : Prop := Claim7.holds Tryd.pinned (.plain (OpenSpec.upto fnExactBareSpec)) fnExactBareUptoCard

/-- THE SECOND FORM's CARD OF 'laws.FnExactTreeOk'. -/
def fnExactTreeOkUptoCard : Claim7 := { stood := { row := fnExactTreeOkUptoRow, standIns := [], harness := (true, "b7807d75c160f092ad50d0341835160da240c08557ffa90f4f6240b756af48fc"), looks := false }, kinds := [], alts := [], laidByText := true, laidKinds := [.data, .pinned], laidTests := true, laidLooks := .later }
def FnExactTreeOkUptoCardSaid : Prop := Claim7.holds Tryd.pinned (.plain (OpenSpec.upto fnExactTreeOkSpec)) fnExactTreeOkUptoCard

/-- THE SECOND FORM's CARD OF 'laws.FnExactMethodAt'. -/
def fnExactMethodAtUptoCard : Claim7 := { stood := { row := fnExactMethodAtUptoRow, standIns := [], harness := (true, "b7807d75c160f092ad50d0341835160da240c08557ffa90f4f6240b756af48fc"), looks := false }, kinds := [], alts := [], laidByText := true, laidKinds := [.data, .pinned], laidTests := true, laidLooks := .later }
def FnExactMethodAtUptoCardSaid : Prop := Claim7.holds Tryd.pinned (.plain (OpenSpec.upto fnExactMethodAtSpec)) fnExactMethodAtUptoCard

/-- THE SECOND FORM's CARD OF 'laws.FnExactLevelOf'. -/
def fnExactLevelOfUptoCard : Claim7 := { stood := { row := fnExactLevelOfUptoRow, standIns := [], harness := (true, "b7807d75c160f092ad50d0341835160da240c08557ffa90f4f6240b756af48fc"), looks := false }, kinds := [], alts := [], laidByText := true, laidKinds := [.data, .pinned], laidTests := true, laidLooks := .later }
def FnExactLevelOfUptoCardSaid : Prop := Claim7.holds Tryd.pinned (.plain (OpenSpec.upto fnExactLevelOfSpec)) fnExactLevelOfUptoCard

/-- THE SECOND FORM's CARD OF 'laws.FnExactCountName'. -/
def fnExactCountNameUptoCard : Claim7 := { stood := { row := fnExactCountNameUptoRow, standIns := [], harness := (true, "b7807d75c160f092ad50d0341835160da240c08557ffa90f4f6240b756af48fc"), looks := false }, kinds := [], alts := [], laidByText := true, laidKinds := [.data, .pinned], laidTests := true, laidLooks := .later }
def FnExactCountNameUptoCardSaid : Prop := Claim7.holds Tryd.pinned (.plain (OpenSpec.upto fnExactCountNameSpec)) fnExactCountNameUptoCard

/-- THE SECOND FORM's CARD OF 'laws.FnExactUnderOf'. -/
def fnExactUnderOfUptoCard : Claim7 := { stood := { row := fnExactUnderOfUptoRow, standIns := [], harness := (true, "b7807d75c160f092ad50d0341835160da240c08557ffa90f4f6240b756af48fc"), looks := false }, kinds := [], alts := [], laidByText := true, laidKinds := [.data, .pinned], laidTests := true, laidLooks := .later }
def FnExactUnderOfUptoCardSaid : Prop := Claim7.holds Tryd.pinned (.plain (OpenSpec.upto fnExactUnderOfSpec)) fnExactUnderOfUptoCard

/-- THE SECOND FORM's CARD OF 'laws.FnExactWantsPar'. -/
def fnExactWantsParUptoCard : Claim7 := { stood := { row := fnExactWantsParUptoRow, standIns := [], harness := (true, "b7807d75c160f092ad50d0341835160da240c08557ffa90f4f6240b756af48fc"), looks := false }, kinds := [], alts := [], laidByText := true, laidKinds := [.data, .pinned], laidTests := true, laidLooks := .later }
def FnExactWantsParUptoCardSaid : Prop := Claim7.holds Tryd.pinned (.plain (OpenSpec.upto fnExactWantsParSpec)) fnExactWantsParUptoCard
end Rows
end Go.Proofs.YtefcelolakpnoaaDoor
