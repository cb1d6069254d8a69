/-
  DERIVED. GIVEN WITH THE SEED: THE CARDS: each row of YtckpnihpobfggaaDoorRows.lean that lists a variable, with what it lists TIED to the program's text (the seventh form; the later family's looks); each row that meets fmt, with fmt's text TOLD by the authors' own Lean function (tested against real Go, not proved from fmt's source: count such statements apart). THE CARD IS WHAT COUNTS. Prove the row's statement (the work); the ties are given (YtckpnihpobfggaaDoorTie.lean); close each card by the builder's one call (the guide's Derived/Test/ToyasCard.lean, 'card_holds'). Laid BY PROGRAM, IN A SANDBOX (cutbox-door.mjs). By AI agents, Wed Nov 11 2026. No macro, syntax, notation, axiom, sorry.
-/
import Derived.Test.YtckpnihpobfggaaDoorRows
import GoSem.ClaimSeven
namespace Go.Proofs.YtckpnihpobfggaaDoor
namespace Rows

/-- THE TIED CARD OF 'tabellionlaw20.ConfMays'. -/
def confMaysCard : Claim7 := { stood := { row := confMaysRow, standIns := [], harness := (true, "9dde3c3514ac06430414108494d48232057198fead72a64453c6ba7578c76fbf"), looks := false }, kinds := [], alts := [], laidByText := true, laidKinds := [.data, .data], laidTests := true, laidLooks := .later }
def ConfMaysCardSaid : Prop := Claim7.holds Tryd.pinned (.plain (OpenSpec.ofChange confMaysSpec)) confMaysCard

/-- THE TIED CARD OF 'tabellionlaw20.ConfCounts'. -/
def confCountsCard : Claim7 := { stood := { row := confCountsRow, standIns := [], harness := (true, "9dde3c3514ac06430414108494d48232057198fead72a64453c6ba7578c76fbf"), looks := false }, kinds := [], alts := [], laidByText := true, laidKinds := [.data, .data], laidTests := true, laidLooks := .later }
def ConfCountsCardSaid : Prop := Claim7.holds Tryd.pinned (.plain (OpenSpec.ofChange confCountsSpec)) confCountsCard

/-- THE TIED CARD OF 'tabellionlaw20.ConfOverlaps'. -/
def confOverlapsCard : Claim7 := { stood := { row := confOverlapsRow, standIns := [], harness := (true, "9dde3c3514ac06430414108494d48232057198fead72a64453c6ba7578c76fbf"), looks := false }, kinds := [], alts := [], laidByText := true, laidKinds := [.data, .data], laidTests := true, laidLooks := .later }
def ConfOverlapsCardSaid : Prop := Claim7.holds Tryd.pinned (.plain (OpenSpec.ofChange confOverlapsSpec)) confOverlapsCard

/-- THE TIED CARD OF 'tabellionlaw20.ConfLatest'. -/
def confLatestCard : Claim7 := { stood := { row := confLatestRow, standIns := [], harness := (true, "9dde3c3514ac06430414108494d48232057198fead72a64453c6ba7578c76fbf"), looks := false }, kinds := [], alts := [], laidByText := true, laidKinds := [.data, .data], laidTests := true, laidLooks := .later }
def ConfLatestCardSaid : Prop := Claim7.holds Tryd.pinned (.plain (OpenSpec.ofChange confLatestSpec)) confLatestCard

/-- THE SECOND FORM's CARD OF 'tabellionlaw20.ConfMays'. -/
def confMaysUptoCard : Claim7 := { stood := { row := confMaysUptoRow, standIns := [], harness := (true, "9dde3c3514ac06430414108494d48232057198fead72a64453c6ba7578c76fbf"), looks := false }, kinds := [], alts := [], laidByText := true, laidKinds := [.data, .data], laidTests := true, laidLooks := .later }
def ConfMaysUptoCardSaid : Prop := Claim7.holds Tryd.pinned (.plain (OpenSpec.upto confMaysSpec)) confMaysUptoCard

/-- THE SECOND FORM's CARD OF 'tabellionlaw20.ConfCounts'. -/
def confCountsUptoCard : Claim7 := { stood := { row := confCountsUptoRow, standIns := [], harness := (true, "9dde3c3514ac06430414108494d48232057198fead72a64453c6ba7578c76fbf"), looks := false }, kinds := [], alts := [], laidByText := true, laidKinds := [.data, .data], laidTests := true, laidLooks := .later }
def ConfCountsUptoCardSaid : Prop := Claim7.holds Tryd.pinned (.plain (OpenSpec.upto confCountsSpec)) confCountsUptoCard

/-- THE SECOND FORM's CARD OF 'tabellionlaw20.ConfOverlaps'. -/
def confOverlapsUptoCard : Claim7 := { stood := { row := confOverlapsUptoRow, standIns := [], harness := (true, "9dde3c3514ac06430414108494d48232057198fead72a64453c6ba7578c76fbf"), looks := false }, kinds := [], alts := [], laidByText := true, laidKinds := [.data, .data], laidTests := true, laidLooks := .later }
def ConfOverlapsUptoCardSaid : Prop := Claim7.holds Tryd.pinned (.plain (OpenSpec.upto confOverlapsSpec)) confOverlapsUptoCard

/-- THE SECOND FORM's CARD OF 'tabellionlaw20.ConfLatest'. -/
def confLatestUptoCard : Claim7 := { stood := { row := confLatestUptoRow, standIns := [], harness := (true, "9dde3c3514ac06430414108494d48232057198fead72a64453c6ba7578c76fbf"), looks := false }, kinds := [], alts := [], laidByText := true, laidKinds := [.data, .data], laidTests := true, laidLooks := .later }
def ConfLatestUptoCardSaid : Prop := Claim7.holds Tryd.pinned (.plain (OpenSpec.upto confLatestSpec)) confLatestUptoCard
end Rows
end Go.Proofs.YtckpnihpobfggaaDoor
