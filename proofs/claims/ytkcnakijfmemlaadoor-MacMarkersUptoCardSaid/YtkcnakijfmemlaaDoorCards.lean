/-
  DERIVED. GIVEN WITH THE SEED: THE CARDS: each row of YtkcnakijfmemlaaDoorRows.lean that lists a variable, with what it lists TIED to the program's text (the seventh form; the later family's looks); each row that meets fmt, with fmt's text TOLD by the authors' own Lean function (tested against real Go, not proved from fmt's source: count such statements apart). THE CARD IS WHAT COUNTS. Prove the row's statement (the work); the ties are given (YtkcnakijfmemlaaDoorTie.lean); close each card by the builder's one call (the guide's Derived/Test/ToyasCard.lean, 'card_holds'). Laid BY PROGRAM, IN A SANDBOX (cutbox-door.mjs). By AI agents, Wed Nov 11 2026. No macro, syntax, notation, axiom, sorry.
-/
import Derived.Test.YtkcnakijfmemlaaDoorRows
import GoSem.ClaimSeven
namespace Go.Proofs.YtkcnakijfmemlaaDoor
namespace Rows

/-- THE TIED CARD OF 'tabellionlaw03.ShaHashes'. -/
def shaHashesCard : Claim7 := { stood := { row := shaHashesRow, standIns := [], harness := (true, "1fb17eb9c29cf167db9d1d9af11d376068067fa5a5e324de01a64df6355930a9"), looks := false }, kinds := [], alts := [], laidByText := true, laidKinds := [.data, .data, .data], laidTests := true, laidLooks := .later }
def ShaHashesCardSaid : Prop := Claim7.holds Tryd.pinned (.plain (OpenSpec.ofChange shaHashesSpec)) shaHashesCard

/-- THE TIED CARD OF 'tabellionlaw03.ShaNarrows'. -/
def shaNarrowsCard : Claim7 := { stood := { row := shaNarrowsRow, standIns := [], harness := (true, "1fb17eb9c29cf167db9d1d9af11d376068067fa5a5e324de01a64df6355930a9"), looks := false }, kinds := [], alts := [], laidByText := true, laidKinds := [.data, .data], laidTests := true, laidLooks := .later }
def ShaNarrowsCardSaid : Prop := Claim7.holds Tryd.pinned (.plain (OpenSpec.ofChange shaNarrowsSpec)) shaNarrowsCard

/-- THE TIED CARD OF 'tabellionlaw03.ShaRooted'. -/
def shaRootedCard : Claim7 := { stood := { row := shaRootedRow, standIns := [], harness := (true, "1fb17eb9c29cf167db9d1d9af11d376068067fa5a5e324de01a64df6355930a9"), looks := false }, kinds := [], alts := [], laidByText := true, laidKinds := [.data, .data, .data], laidTests := true, laidLooks := .later }
def ShaRootedCardSaid : Prop := Claim7.holds Tryd.pinned (.plain (OpenSpec.ofChange shaRootedSpec)) shaRootedCard

/-- THE TIED CARD OF 'tabellionlaw03.ShaStates'. -/
def shaStatesCard : Claim7 := { stood := { row := shaStatesRow, standIns := [], harness := (true, "1fb17eb9c29cf167db9d1d9af11d376068067fa5a5e324de01a64df6355930a9"), looks := false }, kinds := [], alts := [], laidByText := true, laidKinds := [.data, .data, .data], laidTests := true, laidLooks := .later }
def ShaStatesCardSaid : Prop := Claim7.holds Tryd.pinned (.plain (OpenSpec.ofChange shaStatesSpec)) shaStatesCard

/-- THE TIED CARD OF 'tabellionlaw03.ShaPieces'. -/
def shaPiecesCard : Claim7 := { stood := { row := shaPiecesRow, standIns := [], harness := (true, "1fb17eb9c29cf167db9d1d9af11d376068067fa5a5e324de01a64df6355930a9"), looks := false }, kinds := [], alts := [], laidByText := true, laidKinds := [.data, .data], laidTests := true, laidLooks := .later }
def ShaPiecesCardSaid : Prop := Claim7.holds Tryd.pinned (.plain (OpenSpec.ofChange shaPiecesSpec)) shaPiecesCard

/-- THE TIED CARD OF 'tabellionlaw04.MacMarkers'. -/
def macMarkersCard : Claim7 := { stood := { row := macMarkersRow, standIns := [], harness := (true, "1fb17eb9c29cf167db9d1d9af11d376068067fa5a5e324de01a64df6355930a9"), looks := false }, kinds := [], alts := [], laidByText := true, laidKinds := [.data, .data, .data], laidTests := true, laidLooks := .later }
def MacMarkersCardSaid : Prop := Claim7.holds Tryd.pinned (.plain (OpenSpec.ofChange macMarkersSpec)) macMarkersCard

/-- THE TIED CARD OF 'tabellionlaw04.MacKeys'. -/
def macKeysCard : Claim7 := { stood := { row := macKeysRow, standIns := [], harness := (true, "1fb17eb9c29cf167db9d1d9af11d376068067fa5a5e324de01a64df6355930a9"), looks := false }, kinds := [], alts := [], laidByText := true, laidKinds := [.data, .data], laidTests := true, laidLooks := .later }
def MacKeysCardSaid : Prop := Claim7.holds Tryd.pinned (.plain (OpenSpec.ofChange macKeysSpec)) macKeysCard

/-- THE TIED CARD OF 'tabellionlaw04.MacNests'. -/
def macNestsCard : Claim7 := { stood := { row := macNestsRow, standIns := [], harness := (true, "1fb17eb9c29cf167db9d1d9af11d376068067fa5a5e324de01a64df6355930a9"), looks := false }, kinds := [], alts := [], laidByText := true, laidKinds := [.data, .data], laidTests := true, laidLooks := .later }
def MacNestsCardSaid : Prop := Claim7.holds Tryd.pinned (.plain (OpenSpec.ofChange macNestsSpec)) macNestsCard

/-- THE TIED CARD OF 'tabellionlaw04.MacMarks'. -/
def macMarksCard : Claim7 := { stood := { row := macMarksRow, standIns := [], harness := (true, "1fb17eb9c29cf167db9d1d9af11d376068067fa5a5e324de01a64df6355930a9"), looks := false }, kinds := [], alts := [], laidByText := true, laidKinds := [.data, .data, .data], laidTests := true, laidLooks := .later }
def MacMarksCardSaid : Prop := Claim7.holds Tryd.pinned (.plain (OpenSpec.ofChange macMarksSpec)) macMarksCard

/-- THE SECOND FORM's CARD OF 'tabellionlaw03.ShaHashes'. -/
def shaHashesUptoCard : Claim7 := { stood := { row := shaHashesUptoRow, standIns := [], harness := (true, "1fb17eb9c29cf167db9d1d9af11d376068067fa5a5e324de01a64df6355930a9"), looks := false }, kinds := [], alts := [], laidByText := true, laidKinds := [.data, .data, .data], laidTests := true, laidLooks := .later }
def ShaHashesUptoCardSaid : Prop := Claim7.holds Tryd.pinned (.plain (OpenSpec.upto shaHashesSpec)) shaHashesUptoCard

/-- THE SECOND FORM's CARD OF 'tabellionlaw03.ShaNarrows'. -/
def shaNarrowsUptoCard : Claim7 := { stood := { row := shaNarrowsUptoRow, standIns := [], harness := (true, "1fb17eb9c29cf167db9d1d9af11d376068067fa5a5e324de01a64df6355930a9"), looks := false }, kinds := [], alts := [], laidByText := true, laidKinds := [.data, .data], laidTests := true, laidLooks := .later }
def ShaNarrowsUptoCardSaid : Prop := Claim7.holds Tryd.pinned (.plain (OpenSpec.upto shaNarrowsSpec)) shaNarrowsUptoCard

/-- THE SECOND FORM's CARD OF 'tabellionlaw03.ShaRooted'. -/
def shaRootedUptoCard : Claim7 := { stood := { row := shaRootedUptoRow, standIns := [], harness := (true, "1fb17eb9c29cf167db9d1d9af11d376068067fa5a5e324de01a64df6355930a9"), looks := false }, kinds := [], alts := [], laidByText := true, laidKinds := [.data, .data, .data], laidTests := true, laidLooks := .later }
def ShaRootedUptoCardSaid : Prop := Claim7.holds Tryd.pinned (.plain (OpenSpec.upto shaRootedSpec)) shaRootedUptoCard

/-- THE SECOND FORM's CARD OF 'tabellionlaw03.ShaStates'. -/
def shaStatesUptoCard : Claim7 := { stood := { row := shaStatesUptoRow, standIns := [], harness := (true, "1fb17eb9c29cf167db9d1d9af11d376068067fa5a5e324de01a64df6355930a9"), looks := false }, kinds := [], alts := [], laidByText := true, laidKinds := [.data, .data, .data], laidTests := true, laidLooks := .later }
def ShaStatesUptoCardSaid : Prop := Claim7.holds Tryd.pinned (.plain (OpenSpec.upto shaStatesSpec)) shaStatesUptoCard

/-- THE SECOND FORM's CARD OF 'tabellionlaw03.ShaPieces'. -/
def shaPiecesUptoCard : Claim7 := { stood := { row := shaPiecesUptoRow, standIns := [], harness := (true, "1fb17eb9c29cf167db9d1d9af11d376068067fa5a5e324de01a64df6355930a9"), looks := false }, kinds := [], alts := [], laidByText := true, laidKinds := [.data, .data], laidTests := true, laidLooks := .later }
def ShaPiecesUptoCardSaid : Prop := Claim7.holds Tryd.pinned (.plain (OpenSpec.upto shaPiecesSpec)) shaPiecesUptoCard

/-- THE SECOND FORM's CARD OF 'tabellionlaw04.MacMarkers'. -/
def macMarkersUptoCard : Claim7 := { stood := { row := macMarkersUptoRow, standIns := [], harness := (true, "1fb17eb9c29cf167db9d1d9af11d376068067fa5a5e324de01a64df6355930a9"), looks := false }, kinds := [], alts := [], laidByText := true, laidKinds := [.data, .data, .data], laidTests := true, laidLooks := .later }
def MacMarkersUptoCardSaid : Prop := Claim7.holds Tryd.pinned (.plain (OpenSpec.upto macMarkersSpec)) macMarkersUptoCard

/-- THE SECOND FORM's CARD OF 'tabellionlaw04.MacKeys'. -/
def macKeysUptoCard : Claim7 := { stood := { row := macKeysUptoRow, standIns := [], harness := (true, "1fb17eb9c29cf167db9d1d9af11d376068067fa5a5e324de01a64df6355930a9"), looks := false }, kinds := [], alts := [], laidByText := true, laidKinds := [.data, .data], laidTests := true, laidLooks := .later }
def MacKeysUptoCardSaid : Prop := Claim7.holds Tryd.pinned (.plain (OpenSpec.upto macKeysSpec)) macKeysUptoCard

/-- THE SECOND FORM's CARD OF 'tabellionlaw04.MacNests'. -/
def macNestsUptoCard : Claim7 := { stood := { row := macNestsUptoRow, standIns := [], harness := (true, "1fb17eb9c29cf167db9d1d9af11d376068067fa5a5e324de01a64df6355930a9"), looks := false }, kinds := [], alts := [], laidByText := true, laidKinds := [.data, .data], laidTests := true, laidLooks := .later }
def MacNestsUptoCardSaid : Prop := Claim7.holds Tryd.pinned (.plain (OpenSpec.upto macNestsSpec)) macNestsUptoCard

/-- THE SECOND FORM's CARD OF 'tabellionlaw04.MacMarks'. -/
def macMarksUptoCard : Claim7 := { stood := { row := macMarksUptoRow, standIns := [], harness := (true, "1fb17eb9c29cf167db9d1d9af11d376068067fa5a5e324de01a64df6355930a9"), looks := false }, kinds := [], alts := [], laidByText := true, laidKinds := [.data, .data, .data], laidTests := true, laidLooks := .later }
def MacMarksUptoCardSaid : Prop := Claim7.holds Tryd.pinned (.plain (OpenSpec.upto macMarksSpec)) macMarksUptoCard
end Rows
end Go.Proofs.YtkcnakijfmemlaaDoor
