/-
  DERIVED. GIVEN WITH THE SEED: THE CARDS: each row of YtaljjnncljbbfaaDoorRows.lean that lists a variable, with what it lists TIED to the program's text (the seventh form; the later family's looks); each row that meets fmt, with fmt's text TOLD by the authors' own Lean function (tested against real Go, not proved from fmt's source: count such statements apart). THE CARD IS WHAT COUNTS. Prove the row's statement (the work); the ties are given (YtaljjnncljbbfaaDoorTie.lean); close each card by the builder's one call (the guide's Derived/Test/ToyasCard.lean, 'card_holds'). Laid BY PROGRAM, IN A SANDBOX (cutbox-door.mjs). By AI agents, Wed Nov 11 2026. No macro, syntax, notation, axiom, sorry.
-/
import Derived.Test.YtaljjnncljbbfaaDoorRows
import GoSem.ClaimSeven
namespace Go.Proofs.YtaljjnncljbbfaaDoor
namespace Rows

/-- THE TIED CARD OF 'tabellionlaw14.LeafHashes'. -/
def leafHashesCard : Claim7 := { stood := { row := leafHashesRow, standIns := [], harness := (true, "d86c362bc384052dc70d108882fe14d8259ada43ae35cc73aee1bc77b8d2714b"), looks := false }, kinds := [], alts := [], laidByText := true, laidKinds := [.data, .data, .data], laidTests := true, laidLooks := .later }
def LeafHashesCardSaid : Prop := Claim7.holds Tryd.pinned (.plain (OpenSpec.ofChange leafHashesSpec)) leafHashesCard

/-- THE TIED CARD OF 'tabellionlaw14.LeafRoots'. -/
def leafRootsCard : Claim7 := { stood := { row := leafRootsRow, standIns := [], harness := (true, "d86c362bc384052dc70d108882fe14d8259ada43ae35cc73aee1bc77b8d2714b"), looks := false }, kinds := [], alts := [], laidByText := true, laidKinds := [.data, .data, .data, .data, .data], laidTests := true, laidLooks := .later }
def LeafRootsCardSaid : Prop := Claim7.holds Tryd.pinned (.plain (OpenSpec.ofChange leafRootsSpec)) leafRootsCard

/-- THE TIED CARD OF 'tabellionlaw14.LeafSplits'. -/
def leafSplitsCard : Claim7 := { stood := { row := leafSplitsRow, standIns := [], harness := (true, "d86c362bc384052dc70d108882fe14d8259ada43ae35cc73aee1bc77b8d2714b"), looks := false }, kinds := [], alts := [], laidByText := true, laidKinds := [.data, .data, .data, .data], laidTests := true, laidLooks := .later }
def LeafSplitsCardSaid : Prop := Claim7.holds Tryd.pinned (.plain (OpenSpec.ofChange leafSplitsSpec)) leafSplitsCard

/-- THE TIED CARD OF 'tabellionlaw14.LeafNarrow'. -/
def leafNarrowCard : Claim7 := { stood := { row := leafNarrowRow, standIns := [], harness := (true, "d86c362bc384052dc70d108882fe14d8259ada43ae35cc73aee1bc77b8d2714b"), looks := false }, kinds := [], alts := [], laidByText := true, laidKinds := [.data, .data, .data, .data], laidTests := true, laidLooks := .later }
def LeafNarrowCardSaid : Prop := Claim7.holds Tryd.pinned (.plain (OpenSpec.ofChange leafNarrowSpec)) leafNarrowCard

/-- THE TIED CARD OF 'tabellionlaw14.LeafPushes'. -/
def leafPushesCard : Claim7 := { stood := { row := leafPushesRow, standIns := [], harness := (true, "d86c362bc384052dc70d108882fe14d8259ada43ae35cc73aee1bc77b8d2714b"), looks := false }, kinds := [], alts := [], laidByText := true, laidKinds := [.data, .data, .data, .data], laidTests := true, laidLooks := .later }
def LeafPushesCardSaid : Prop := Claim7.holds Tryd.pinned (.plain (OpenSpec.ofChange leafPushesSpec)) leafPushesCard

/-- THE TIED CARD OF 'tabellionlaw14.LeafGrows'. -/
def leafGrowsCard : Claim7 := { stood := { row := leafGrowsRow, standIns := [], harness := (true, "d86c362bc384052dc70d108882fe14d8259ada43ae35cc73aee1bc77b8d2714b"), looks := false }, kinds := [], alts := [], laidByText := true, laidKinds := [.data, .data, .data, .data], laidTests := true, laidLooks := .later }
def LeafGrowsCardSaid : Prop := Claim7.holds Tryd.pinned (.plain (OpenSpec.ofChange leafGrowsSpec)) leafGrowsCard

/-- THE SECOND FORM's CARD OF 'tabellionlaw14.LeafHashes'. -/
def leafHashesUptoCard : Claim7 := { stood := { row := leafHashesUptoRow, standIns := [], harness := (true, "d86c362bc384052dc70d108882fe14d8259ada43ae35cc73aee1bc77b8d2714b"), looks := false }, kinds := [], alts := [], laidByText := true, laidKinds := [.data, .data, .data], laidTests := true, laidLooks := .later }
def LeafHashesUptoCardSaid : Prop := Claim7.holds Tryd.pinned (.plain (OpenSpec.upto leafHashesSpec)) leafHashesUptoCard

/-- THE SECOND FORM's CARD OF 'tabellionlaw14.LeafRoots'. -/
def leafRootsUptoCard : Claim7 := { stood := { row := leafRootsUptoRow, standIns := [], harness := (true, "d86c362bc384052dc70d108882fe14d8259ada43ae35cc73aee1bc77b8d2714b"), looks := false }, kinds := [], alts := [], laidByText := true, laidKinds := [.data, .data, .data, .data, .data], laidTests := true, laidLooks := .later }
def LeafRootsUptoCardSaid : Prop := Claim7.holds Tryd.pinned (.plain (OpenSpec.upto leafRootsSpec)) leafRootsUptoCard

/-- THE SECOND FORM's CARD OF 'tabellionlaw14.LeafSplits'. -/
def leafSplitsUptoCard : Claim7 := { stood := { row := leafSplitsUptoRow, standIns := [], harness := (true, "d86c362bc384052dc70d108882fe14d8259ada43ae35cc73aee1bc77b8d2714b"), looks := false }, kinds := [], alts := [], laidByText := true, laidKinds := [.data, .data, .data, .data], laidTests := true, laidLooks := .later }
def LeafSplitsUptoCardSaid : Prop := Claim7.holds Tryd.pinned (.plain (OpenSpec.upto leafSplitsSpec)) leafSplitsUptoCard

/-- THE SECOND FORM's CARD OF 'tabellionlaw14.LeafNarrow'. -/
def leafNarrowUptoCard : Claim7 := { stood := { row := leafNarrowUptoRow, standIns := [], harness := (true, "d86c362bc384052dc70d108882fe14d8259ada43ae35cc73aee1bc77b8d2714b"), looks := false }, kinds := [], alts := [], laidByText := true, laidKinds := [.data, .data, .data, .data], laidTests := true, laidLooks := .later }
def LeafNarrowUptoCardSaid : Prop := Claim7.holds Tryd.pinned (.plain (OpenSpec.upto leafNarrowSpec)) leafNarrowUptoCard

/-- THE SECOND FORM's CARD OF 'tabellionlaw14.LeafPushes'. -/
def leafPushesUptoCard : Claim7 := { stood := { row := leafPushesUptoRow, standIns := [], harness := (true, "d86c362bc384052dc70d108882fe14d8259ada43ae35cc73aee1bc77b8d2714b"), looks := false }, kinds := [], alts := [], laidByText := true, laidKinds := [.data, .data, .data, .data], laidTests := true, laidLooks := .later }
def LeafPushesUptoCardSaid : Prop := Claim7.holds Tryd.pinned (.plain (OpenSpec.upto leafPushesSpec)) leafPushesUptoCard

/-- THE SECOND FORM's CARD OF 'tabellionlaw14.LeafGrows'. -/
def leafGrowsUptoCard : Claim7 := { stood := { row := leafGrowsUptoRow, standIns := [], harness := (true, "d86c362bc384052dc70d108882fe14d8259ada43ae35cc73aee1bc77b8d2714b"), looks := false }, kinds := [], alts := [], laidByText := true, laidKinds := [.data, .data, .data, .data], laidTests := true, laidLooks := .later }
def LeafGrowsUptoCardSaid : Prop := Claim7.holds Tryd.pinned (.plain (OpenSpec.upto leafGrowsSpec)) leafGrowsUptoCard
end Rows
end Go.Proofs.YtaljjnncljbbfaaDoor
