/-
  DERIVED. GIVEN WITH THE SEED: THE CARDS: each row of YtfibhmgjkooemaaDoorRows.lean that lists a variable, with what it lists TIED to the program's text (the seventh form; the later family's looks); each row that meets fmt, with fmt's text TOLD by the authors' own Lean function (tested against real Go, not proved from fmt's source: count such statements apart). THE CARD IS WHAT COUNTS. Prove the row's statement (the work); the ties are given (YtfibhmgjkooemaaDoorTie.lean); close each card by the builder's one call (the guide's Derived/Test/ToyasCard.lean, 'card_holds'). Laid BY PROGRAM, IN A SANDBOX (cutbox-door.mjs). By AI agents, Wed Nov 11 2026. No macro, syntax, notation, axiom, sorry.
-/
import Derived.Test.YtfibhmgjkooemaaDoorRows
import GoSem.ClaimSeven
namespace Go.Proofs.YtfibhmgjkooemaaDoor
namespace Rows

/-- THE TIED CARD OF 'tabellionlaw17.ClashLists'. -/
def clashListsCard : Claim7 := { stood := { row := clashListsRow, standIns := [], harness := (true, "70251b70589a86a17de04fe97217f63b16019f85359bae5ed521f6c40e3d2053"), looks := true }, kinds := [], alts := [], laidByText := true, laidKinds := [.data, .data, .data], laidTests := true, laidLooks := .later }
def ClashListsCardSaid : Prop := Claim7.holds Tryd.pinned (.plain (OpenSpec.ofChange clashListsSpec)) clashListsCard

/-- THE TIED CARD OF 'tabellionlaw17.ClashGrows'. -/
def clashGrowsCard : Claim7 := { stood := { row := clashGrowsRow, standIns := [], harness := (true, "70251b70589a86a17de04fe97217f63b16019f85359bae5ed521f6c40e3d2053"), looks := true }, kinds := [], alts := [], laidByText := true, laidKinds := [.data, .data, .data], laidTests := true, laidLooks := .later }
def ClashGrowsCardSaid : Prop := Claim7.holds Tryd.pinned (.plain (OpenSpec.ofChange clashGrowsSpec)) clashGrowsCard

/-- THE TIED CARD OF 'tabellionlaw17.ClashPaths'. -/
def clashPathsCard : Claim7 := { stood := { row := clashPathsRow, standIns := [], harness := (true, "70251b70589a86a17de04fe97217f63b16019f85359bae5ed521f6c40e3d2053"), looks := true }, kinds := [], alts := [], laidByText := true, laidKinds := [.data, .data, .data], laidTests := true, laidLooks := .later }
def ClashPathsCardSaid : Prop := Claim7.holds Tryd.pinned (.plain (OpenSpec.ofChange clashPathsSpec)) clashPathsCard

/-- THE TIED CARD OF 'tabellionlaw17.ClashNarrow'. -/
def clashNarrowCard : Claim7 := { stood := { row := clashNarrowRow, standIns := [], harness := (true, "70251b70589a86a17de04fe97217f63b16019f85359bae5ed521f6c40e3d2053"), looks := true }, kinds := [], alts := [], laidByText := true, laidKinds := [.data, .data, .data], laidTests := true, laidLooks := .later }
def ClashNarrowCardSaid : Prop := Claim7.holds Tryd.pinned (.plain (OpenSpec.ofChange clashNarrowSpec)) clashNarrowCard

/-- THE TIED CARD OF 'tabellionlaw17.ClashTrust'. -/
def clashTrustCard : Claim7 := { stood := { row := clashTrustRow, standIns := [], harness := (true, "70251b70589a86a17de04fe97217f63b16019f85359bae5ed521f6c40e3d2053"), looks := true }, kinds := [], alts := [], laidByText := true, laidKinds := [.data, .data, .data, .data, .data], laidTests := true, laidLooks := .later }
def ClashTrustCardSaid : Prop := Claim7.holds Tryd.pinned (.plain (OpenSpec.ofChange clashTrustSpec)) clashTrustCard

/-- THE SECOND FORM's CARD OF 'tabellionlaw17.ClashLists'. -/
def clashListsUptoCard : Claim7 := { stood := { row := clashListsUptoRow, standIns := [], harness := (true, "70251b70589a86a17de04fe97217f63b16019f85359bae5ed521f6c40e3d2053"), looks := true }, kinds := [], alts := [], laidByText := true, laidKinds := [.data, .data, .data], laidTests := true, laidLooks := .later }
def ClashListsUptoCardSaid : Prop := Claim7.holds Tryd.pinned (.plain (OpenSpec.upto clashListsSpec)) clashListsUptoCard

/-- THE SECOND FORM's CARD OF 'tabellionlaw17.ClashGrows'. -/
def clashGrowsUptoCard : Claim7 := { stood := { row := clashGrowsUptoRow, standIns := [], harness := (true, "70251b70589a86a17de04fe97217f63b16019f85359bae5ed521f6c40e3d2053"), looks := true }, kinds := [], alts := [], laidByText := true, laidKinds := [.data, .data, .data], laidTests := true, laidLooks := .later }
def ClashGrowsUptoCardSaid : Prop := Claim7.holds Tryd.pinned (.plain (OpenSpec.upto clashGrowsSpec)) clashGrowsUptoCard

/-- THE SECOND FORM's CARD OF 'tabellionlaw17.ClashPaths'. -/
def clashPathsUptoCard : Claim7 := { stood := { row := clashPathsUptoRow, standIns := [], harness := (true, "70251b70589a86a17de04fe97217f63b16019f85359bae5ed521f6c40e3d2053"), looks := true }, kinds := [], alts := [], laidByText := true, laidKinds := [.data, .data, .data], laidTests := true, laidLooks := .later }
def ClashPathsUptoCardSaid : Prop := Claim7.holds Tryd.pinned (.plain (OpenSpec.upto clashPathsSpec)) clashPathsUptoCard

/-- THE SECOND FORM's CARD OF 'tabellionlaw17.ClashNarrow'. -/
def clashNarrowUptoCard : Claim7 := { stood := { row := clashNarrowUptoRow, standIns := [], harness := (true, "70251b70589a86a17de04fe97217f63b16019f85359bae5ed521f6c40e3d2053"), looks := true }, kinds := [], alts := [], laidByText := true, laidKinds := [.data, .data, .data], laidTests := true, laidLooks := .later }
def ClashNarrowUptoCardSaid : Prop := Claim7.holds Tryd.pinned (.plain (OpenSpec.upto clashNarrowSpec)) clashNarrowUptoCard

/-- THE SECOND FORM's CARD OF 'tabellionlaw17.ClashTrust'. -/
def clashTrustUptoCard : Claim7 := { stood := { row := clashTrustUptoRow, standIns := [], harness := (true, "70251b70589a86a17de04fe97217f63b16019f85359bae5ed521f6c40e3d2053"), looks := true }, kinds := [], alts := [], laidByText := true, laidKinds := [.data, .data, .data, .data, .data], laidTests := true, laidLooks := .later }
def ClashTrustUptoCardSaid : Prop := Claim7.holds Tryd.pinned (.plain (OpenSpec.upto clashTrustSpec)) clashTrustUptoCard
end Rows
end Go.Proofs.YtfibhmgjkooemaaDoor
