/-
  DERIVED. GIVEN WITH THE SEED: THE CARDS: each row of YtdjmebfjanophaaDoorRows.lean that lists a variable, with what it lists TIED to the program's text (the seventh form; the later family's looks); each row that meets fmt, with fmt's text TOLD by the authors' own Lean function (tested against real Go, not proved from fmt's source: count such statements apart). THE CARD IS WHAT COUNTS. Prove the row's statement (the work); the ties are given (YtdjmebfjanophaaDoorTie.lean); close each card by the builder's one call (the guide's Derived/Test/ToyasCard.lean, 'card_holds'). Laid BY PROGRAM, IN A SANDBOX (cutbox-door.mjs). By AI agents, Wed Nov 11 2026. No macro, syntax, notation, axiom, sorry.
-/
import Derived.Test.YtdjmebfjanophaaDoorRows
import GoSem.ClaimSeven
namespace Go.Proofs.YtdjmebfjanophaaDoor
namespace Rows

/-- THE TIED CARD OF 'tabellionlaw15.PathProves'. -/
def pathProvesCard : Claim7 := { stood := { row := pathProvesRow, standIns := [], harness := (true, "574b124bbbeddb6c578d3c63f412a7d8d61fc3a79d530c7d6f415b96f4360400"), looks := false }, kinds := [], alts := [], laidByText := true, laidKinds := [.data, .data, .data], laidTests := true, laidLooks := .later }
def PathProvesCardSaid : Prop := Claim7.holds Tryd.pinned (.plain (OpenSpec.ofChange pathProvesSpec)) pathProvesCard

/-- THE TIED CARD OF 'tabellionlaw14.LeafPushes'. -/
def leafPushesCard : Claim7 := { stood := { row := leafPushesRow, standIns := [], harness := (true, "574b124bbbeddb6c578d3c63f412a7d8d61fc3a79d530c7d6f415b96f4360400"), looks := false }, kinds := [], alts := [], laidByText := true, laidKinds := [.data, .data, .data, .data], laidTests := true, laidLooks := .later }
def LeafPushesCardSaid : Prop := Claim7.holds Tryd.pinned (.plain (OpenSpec.ofChange leafPushesSpec)) leafPushesCard

/-- THE TIED CARD OF 'tabellionlaw15.PathLengths'. -/
def pathLengthsCard : Claim7 := { stood := { row := pathLengthsRow, standIns := [], harness := (true, "574b124bbbeddb6c578d3c63f412a7d8d61fc3a79d530c7d6f415b96f4360400"), looks := false }, kinds := [], alts := [], laidByText := true, laidKinds := [.data, .data], laidTests := true, laidLooks := .later }
def PathLengthsCardSaid : Prop := Claim7.holds Tryd.pinned (.plain (OpenSpec.ofChange pathLengthsSpec)) pathLengthsCard

/-- THE TIED CARD OF 'tabellionlaw15.PathSteps'. -/
def pathStepsCard : Claim7 := { stood := { row := pathStepsRow, standIns := [], harness := (true, "574b124bbbeddb6c578d3c63f412a7d8d61fc3a79d530c7d6f415b96f4360400"), looks := false }, kinds := [], alts := [], laidByText := true, laidKinds := [.data, .data], laidTests := true, laidLooks := .later }
def PathStepsCardSaid : Prop := Claim7.holds Tryd.pinned (.plain (OpenSpec.ofChange pathStepsSpec)) pathStepsCard

/-- THE TIED CARD OF 'tabellionlaw15.PathClimbs'. -/
def pathClimbsCard : Claim7 := { stood := { row := pathClimbsRow, standIns := [], harness := (true, "574b124bbbeddb6c578d3c63f412a7d8d61fc3a79d530c7d6f415b96f4360400"), looks := false }, kinds := [], alts := [], laidByText := true, laidKinds := [.data, .data, .data], laidTests := true, laidLooks := .later }
def PathClimbsCardSaid : Prop := Claim7.holds Tryd.pinned (.plain (OpenSpec.ofChange pathClimbsSpec)) pathClimbsCard

/-- THE TIED CARD OF 'tabellionlaw14.LeafGrows'. -/
def leafGrowsCard : Claim7 := { stood := { row := leafGrowsRow, standIns := [], harness := (true, "574b124bbbeddb6c578d3c63f412a7d8d61fc3a79d530c7d6f415b96f4360400"), looks := false }, kinds := [], alts := [], laidByText := true, laidKinds := [.data, .data, .data, .data], laidTests := true, laidLooks := .later }
def LeafGrowsCardSaid : Prop := Claim7.holds Tryd.pinned (.plain (OpenSpec.ofChange leafGrowsSpec)) leafGrowsCard

/-- THE TIED CARD OF 'tabellionlaw16.GrowthProves'. -/
def growthProvesCard : Claim7 := { stood := { row := growthProvesRow, standIns := [], harness := (true, "574b124bbbeddb6c578d3c63f412a7d8d61fc3a79d530c7d6f415b96f4360400"), looks := false }, kinds := [], alts := [], laidByText := true, laidKinds := [.data, .data, .data, .data, .data], laidTests := true, laidLooks := .later }
def GrowthProvesCardSaid : Prop := Claim7.holds Tryd.pinned (.plain (OpenSpec.ofChange growthProvesSpec)) growthProvesCard

/-- THE TIED CARD OF 'tabellionlaw15.PathPasses'. -/
def pathPassesCard : Claim7 := { stood := { row := pathPassesRow, standIns := [], harness := (true, "574b124bbbeddb6c578d3c63f412a7d8d61fc3a79d530c7d6f415b96f4360400"), looks := false }, kinds := [], alts := [], laidByText := true, laidKinds := [.data, .data, .data, .data], laidTests := true, laidLooks := .later }
def PathPassesCardSaid : Prop := Claim7.holds Tryd.pinned (.plain (OpenSpec.ofChange pathPassesSpec)) pathPassesCard

/-- THE TIED CARD OF 'tabellionlaw16.GrowthLengths'. -/
def growthLengthsCard : Claim7 := { stood := { row := growthLengthsRow, standIns := [], harness := (true, "574b124bbbeddb6c578d3c63f412a7d8d61fc3a79d530c7d6f415b96f4360400"), looks := false }, kinds := [], alts := [], laidByText := true, laidKinds := [.data, .data, .data, .data], laidTests := true, laidLooks := .later }
def GrowthLengthsCardSaid : Prop := Claim7.holds Tryd.pinned (.plain (OpenSpec.ofChange growthLengthsSpec)) growthLengthsCard

/-- THE TIED CARD OF 'tabellionlaw16.GrowthClimbs'. -/
def growthClimbsCard : Claim7 := { stood := { row := growthClimbsRow, standIns := [], harness := (true, "574b124bbbeddb6c578d3c63f412a7d8d61fc3a79d530c7d6f415b96f4360400"), looks := false }, kinds := [], alts := [], laidByText := true, laidKinds := [.data, .data, .data, .data, .data], laidTests := true, laidLooks := .later }
def GrowthClimbsCardSaid : Prop := Claim7.holds Tryd.pinned (.plain (OpenSpec.ofChange growthClimbsSpec)) growthClimbsCard

/-- THE TIED CARD OF 'tabellionlaw16.GrowthPasses'. -/
def growthPassesCard : Claim7 := { stood := { row := growthPassesRow, standIns := [], harness := (true, "574b124bbbeddb6c578d3c63f412a7d8d61fc3a79d530c7d6f415b96f4360400"), looks := false }, kinds := [], alts := [], laidByText := true, laidKinds := [.data, .data, .data, .data], laidTests := true, laidLooks := .later }
def GrowthPassesCardSaid : Prop := Claim7.holds Tryd.pinned (.plain (OpenSpec.ofChange growthPassesSpec)) growthPassesCard

/-- THE TIED CARD OF 'tabellionlaw16.GrowthOther'. -/
def growthOtherCard : Claim7 := { stood := { row := growthOtherRow, standIns := [], harness := (true, "574b124bbbeddb6c578d3c63f412a7d8d61fc3a79d530c7d6f415b96f4360400"), looks := false }, kinds := [], alts := [], laidByText := true, laidKinds := [.data, .data, .data, .data], laidTests := true, laidLooks := .later }
def GrowthOtherCardSaid : Prop := Claim7.holds Tryd.pinned (.plain (OpenSpec.ofChange growthOtherSpec)) growthOtherCard

/-- THE SECOND FORM's CARD OF 'tabellionlaw15.PathProves'. -/
def pathProvesUptoCard : Claim7 := { stood := { row := pathProvesUptoRow, standIns := [], harness := (true, "574b124bbbeddb6c578d3c63f412a7d8d61fc3a79d530c7d6f415b96f4360400"), looks := false }, kinds := [], alts := [], laidByText := true, laidKinds := [.data, .data, .data], laidTests := true, laidLooks := .later }
def PathProvesUptoCardSaid : Prop := Claim7.holds Tryd.pinned (.plain (OpenSpec.upto pathProvesSpec)) pathProvesUptoCard

/-- THE SECOND FORM's CARD OF 'tabellionlaw14.LeafPushes'. -/
def leafPushesUptoCard : Claim7 := { stood := { row := leafPushesUptoRow, standIns := [], harness := (true, "574b124bbbeddb6c578d3c63f412a7d8d61fc3a79d530c7d6f415b96f4360400"), looks := false }, kinds := [], alts := [], laidByText := true, laidKinds := [.data, .data, .data, .data], laidTests := true, laidLooks := .later }
def LeafPushesUptoCardSaid : Prop := Claim7.holds Tryd.pinned (.plain (OpenSpec.upto leafPushesSpec)) leafPushesUptoCard

/-- THE SECOND FORM's CARD OF 'tabellionlaw15.PathLengths'. -/
def pathLengthsUptoCard : Claim7 := { stood := { row := pathLengthsUptoRow, standIns := [], harness := (true, "574b124bbbeddb6c578d3c63f412a7d8d61fc3a79d530c7d6f415b96f4360400"), looks := false }, kinds := [], alts := [], laidByText := true, laidKinds := [.data, .data], laidTests := true, laidLooks := .later }
def PathLengthsUptoCardSaid : Prop := Claim7.holds Tryd.pinned (.plain (OpenSpec.upto pathLengthsSpec)) pathLengthsUptoCard

/-- THE SECOND FORM's CARD OF 'tabellionlaw15.PathSteps'. -/
def pathStepsUptoCard : Claim7 := { stood := { row := pathStepsUptoRow, standIns := [], harness := (true, "574b124bbbeddb6c578d3c63f412a7d8d61fc3a79d530c7d6f415b96f4360400"), looks := false }, kinds := [], alts := [], laidByText := true, laidKinds := [.data, .data], laidTests := true, laidLooks := .later }
def PathStepsUptoCardSaid : Prop := Claim7.holds Tryd.pinned (.plain (OpenSpec.upto pathStepsSpec)) pathStepsUptoCard

/-- THE SECOND FORM's CARD OF 'tabellionlaw15.PathClimbs'. -/
def pathClimbsUptoCard : Claim7 := { stood := { row := pathClimbsUptoRow, standIns := [], harness := (true, "574b124bbbeddb6c578d3c63f412a7d8d61fc3a79d530c7d6f415b96f4360400"), looks := false }, kinds := [], alts := [], laidByText := true, laidKinds := [.data, .data, .data], laidTests := true, laidLooks := .later }
def PathClimbsUptoCardSaid : Prop := Claim7.holds Tryd.pinned (.plain (OpenSpec.upto pathClimbsSpec)) pathClimbsUptoCard

/-- THE SECOND FORM's CARD OF 'tabellionlaw14.LeafGrows'. -/
def leafGrowsUptoCard : Claim7 := { stood := { row := leafGrowsUptoRow, standIns := [], harness := (true, "574b124bbbeddb6c578d3c63f412a7d8d61fc3a79d530c7d6f415b96f4360400"), looks := false }, kinds := [], alts := [], laidByText := true, laidKinds := [.data, .data, .data, .data], laidTests := true, laidLooks := .later }
def LeafGrowsUptoCardSaid : Prop := Claim7.holds Tryd.pinned (.plain (OpenSpec.upto leafGrowsSpec)) leafGrowsUptoCard

/-- THE SECOND FORM's CARD OF 'tabellionlaw16.GrowthProves'. -/
def growthProvesUptoCard : Claim7 := { stood := { row := growthProvesUptoRow, standIns := [], harness := (true, "574b124bbbeddb6c578d3c63f412a7d8d61fc3a79d530c7d6f415b96f4360400"), looks := false }, kinds := [], alts := [], laidByText := true, laidKinds := [.data, .data, .data, .data, .data], laidTests := true, laidLooks := .later }
def GrowthProvesUptoCardSaid : Prop := Claim7.holds Tryd.pinned (.plain (OpenSpec.upto growthProvesSpec)) growthProvesUptoCard

/-- THE SECOND FORM's CARD OF 'tabellionlaw15.PathPasses'. -/
def pathPassesUptoCard : Claim7 := { stood := { row := pathPassesUptoRow, standIns := [], harness := (true, "574b124bbbeddb6c578d3c63f412a7d8d61fc3a79d530c7d6f415b96f4360400"), looks := false }, kinds := [], alts := [], laidByText := true, laidKinds := [.data, .data, .data, .data], laidTests := true, laidLooks := .later }
def PathPassesUptoCardSaid : Prop := Claim7.holds Tryd.pinned (.plain (OpenSpec.upto pathPassesSpec)) pathPassesUptoCard

/-- THE SECOND FORM's CARD OF 'tabellionlaw16.GrowthLengths'. -/
def growthLengthsUptoCard : Claim7 := { stood := { row := growthLengthsUptoRow, standIns := [], harness := (true, "574b124bbbeddb6c578d3c63f412a7d8d61fc3a79d530c7d6f415b96f4360400"), looks := false }, kinds := [], alts := [], laidByText := true, laidKinds := [.data, .data, .data, .data], laidTests := true, laidLooks := .later }
def GrowthLengthsUptoCardSaid : Prop := Claim7.holds Tryd.pinned (.plain (OpenSpec.upto growthLengthsSpec)) growthLengthsUptoCard

/-- THE SECOND FORM's CARD OF 'tabellionlaw16.GrowthClimbs'. -/
def growthClimbsUptoCard : Claim7 := { stood := { row := growthClimbsUptoRow, standIns := [], harness := (true, "574b124bbbeddb6c578d3c63f412a7d8d61fc3a79d530c7d6f415b96f4360400"), looks := false }, kinds := [], alts := [], laidByText := true, laidKinds := [.data, .data, .data, .data, .data], laidTests := true, laidLooks := .later }
def GrowthClimbsUptoCardSaid : Prop := Claim7.holds Tryd.pinned (.plain (OpenSpec.upto growthClimbsSpec)) growthClimbsUptoCard

/-- THE SECOND FORM's CARD OF 'tabellionlaw16.GrowthPasses'. -/
def growthPassesUptoCard : Claim7 := { stood := { row := growthPassesUptoRow, standIns := [], harness := (true, "574b124bbbeddb6c578d3c63f412a7d8d61fc3a79d530c7d6f415b96f4360400"), looks := false }, kinds := [], alts := [], laidByText := true, laidKinds := [.data, .data, .data, .data], laidTests := true, laidLooks := .later }
def GrowthPassesUptoCardSaid : Prop := Claim7.holds Tryd.pinned (.plain (OpenSpec.upto growthPassesSpec)) growthPassesUptoCard

/-- THE SECOND FORM's CARD OF 'tabellionlaw16.GrowthOther'. -/
def growthOtherUptoCard : Claim7 := { stood := { row := growthOtherUptoRow, standIns := [], harness := (true, "574b124bbbeddb6c578d3c63f412a7d8d61fc3a79d530c7d6f415b96f4360400"), looks := false }, kinds := [], alts := [], laidByText := true, laidKinds := [.data, .data, .data, .data], laidTests := true, laidLooks := .later }
def GrowthOtherUptoCardSaid : Prop := Claim7.holds Tryd.pinned (.plain (OpenSpec.upto growthOtherSpec)) growthOtherUptoCard
end Rows
end Go.Proofs.YtdjmebfjanophaaDoor
