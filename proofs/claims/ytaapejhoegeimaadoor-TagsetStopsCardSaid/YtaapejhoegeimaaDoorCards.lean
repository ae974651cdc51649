/-
  DERIVED. GIVEN WITH THE SEED: THE CARDS: each row of YtaapejhoegeimaaDoorRows.lean that lists a variable, with what it lists TIED to the program's text (the seventh form; the later family's looks); each row that meets fmt, with fmt's text TOLD by the authors' own Lean function (tested against real Go, not proved from fmt's source: count such statements apart). THE CARD IS WHAT COUNTS. Prove the row's statement (the work); the ties are given (YtaapejhoegeimaaDoorTie.lean); close each card by the builder's one call (the guide's Derived/Test/ToyasCard.lean, 'card_holds'). Laid BY PROGRAM, IN A SANDBOX (cutbox-door.mjs). By AI agents, Wed Nov 11 2026. No macro, syntax, notation, axiom, sorry.
-/
import Derived.Test.YtaapejhoegeimaaDoorRows
import GoSem.ClaimSeven
namespace Go.Proofs.YtaapejhoegeimaaDoor
namespace Rows

/-- THE TIED CARD OF 'forepeaklaw01.TagsetTells'. -/
def tagsetTellsCard : Claim7 := { stood := { row := tagsetTellsRow, standIns := [], harness := (true, "f5da959d61a204c1b485ac14e9e8c78e07affb353960efd4affdd2599c6ef8f2"), looks := true }, kinds := [], alts := [], laidByText := true, laidKinds := [.data, .data, .data, .data, .sentinel, .sentinel, .pinned], laidTests := true, laidLooks := .later }
def TagsetTellsCardSaid : Prop := Claim7.holds Tryd.pinned (.plain (OpenSpec.ofChange tagsetTellsSpec)) tagsetTellsCard

/-- THE TIED CARD OF 'forepeaklaw01.TagsetTexts'. -/
def tagsetTextsCard : Claim7 := { stood := { row := tagsetTextsRow, standIns := [], harness := (true, "f5da959d61a204c1b485ac14e9e8c78e07affb353960efd4affdd2599c6ef8f2"), looks := true }, kinds := [], alts := [], laidByText := true, laidKinds := [.data, .data, .data, .data, .sentinel, .sentinel, .pinned], laidTests := true, laidLooks := .later }
def TagsetTextsCardSaid : Prop := Claim7.holds Tryd.pinned (.plain (OpenSpec.ofChange tagsetTextsSpec)) tagsetTextsCard

/-- THE TIED CARD OF 'forepeaklaw01.TagsetBack'. -/
def tagsetBackCard : Claim7 := { stood := { row := tagsetBackRow, standIns := [], harness := (true, "f5da959d61a204c1b485ac14e9e8c78e07affb353960efd4affdd2599c6ef8f2"), looks := true }, kinds := [], alts := [], laidByText := true, laidKinds := [.data, .data, .data, .data, .sentinel, .sentinel, .pinned], laidTests := true, laidLooks := .later }
def TagsetBackCardSaid : Prop := Claim7.holds Tryd.pinned (.plain (OpenSpec.ofChange tagsetBackSpec)) tagsetBackCard

/-- THE TIED CARD OF 'forepeaklaw01.TagsetStops'. -/
def tagsetStopsCard : Claim7 := { stood := { row := tagsetStopsRow, standIns := [], harness := (true, "f5da959d61a204c1b485ac14e9e8c78e07affb353960efd4affdd2599c6ef8f2"), looks := true }, kinds := [], alts := [], laidByText := true, laidKinds := [.data, .data, .data, .data, .sentinel, .sentinel, .pinned], laidTests := true, laidLooks := .later }
def TagsetStopsCardSaid : Prop := Claim7.holds Tryd.pinned (.plain (OpenSpec.ofChange tagsetStopsSpec)) tagsetStopsCard

/-- THE SECOND FORM's CARD OF 'forepeaklaw01.TagsetTells'. -/
def tagsetTellsUptoCard : Claim7 := { stood := { row := tagsetTellsUptoRow, standIns := [], harness := (true, "f5da959d61a204c1b485ac14e9e8c78e07affb353960efd4affdd2599c6ef8f2"), looks := true }, kinds := [], alts := [], laidByText := true, laidKinds := [.data, .data, .data, .data, .sentinel, .sentinel, .pinned], laidTests := true, laidLooks := .later }
def TagsetTellsUptoCardSaid : Prop := Claim7.holds Tryd.pinned (.plain (OpenSpec.upto tagsetTellsSpec)) tagsetTellsUptoCard

/-- THE SECOND FORM's CARD OF 'forepeaklaw01.TagsetTexts'. -/
def tagsetTextsUptoCard : Claim7 := { stood := { row := tagsetTextsUptoRow, standIns := [], harness := (true, "f5da959d61a204c1b485ac14e9e8c78e07affb353960efd4affdd2599c6ef8f2"), looks := true }, kinds := [], alts := [], laidByText := true, laidKinds := [.data, .data, .data, .data, .sentinel, .sentinel, .pinned], laidTests := true, laidLooks := .later }
def TagsetTextsUptoCardSaid : Prop := Claim7.holds Tryd.pinned (.plain (OpenSpec.upto tagsetTextsSpec)) tagsetTextsUptoCard

/-- THE SECOND FORM's CARD OF 'forepeaklaw01.TagsetBack'. -/
def tagsetBackUptoCard : Claim7 := { stood := { row := tagsetBackUptoRow, standIns := [], harness := (true, "f5da959d61a204c1b485ac14e9e8c78e07affb353960efd4affdd2599c6ef8f2"), looks := true }, kinds := [], alts := [], laidByText := true, laidKinds := [.data, .data, .data, .data, .sentinel, .sentinel, .pinned], laidTests := true, laidLooks := .later }
def TagsetBackUptoCardSaid : Prop := Claim7.holds Tryd.pinned (.plain (OpenSpec.upto tagsetBackSpec)) tagsetBackUptoCard

/-- THE SECOND FORM's CARD OF 'forepeaklaw01.TagsetStops'. -/
def tagsetStopsUptoCard : Claim7 := { stood := { row := tagsetStopsUptoRow, standIns := [], harness := (true, "f5da959d61a204c1b485ac14e9e8c78e07affb353960efd4affdd2599c6ef8f2"), looks := true }, kinds := [], alts := [], laidByText := true, laidKinds := [.data, .data, .data, .data, .sentinel, .sentinel, .pinned], laidTests := true, laidLooks := .later }
def TagsetStopsUptoCardSaid : Prop := Claim7.holds Tryd.pinned (.plain (OpenSpec.upto tagsetStopsSpec)) tagsetStopsUptoCard
end Rows
end Go.Proofs.YtaapejhoegeimaaDoor
