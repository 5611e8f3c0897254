/-
  DERIVED. GIVEN WITH THE SEED: THE CARDS: each row of YthipdbpdmbdjaaaDoorRows.lean that lists a variable, with what it lists TIED to the program's text (the seventh form; the later family's looks); each row that meets fmt, with fmt's text TOLD by the authors' own Lean function (tested against real Go, not proved from fmt's source: count such statements apart). THE CARD IS WHAT COUNTS. Prove the row's statement (the work); the ties are given (YthipdbpdmbdjaaaDoorTie.lean); close each card by the builder's one call (the guide's Derived/Test/ToyasCard.lean, 'card_holds'). Laid BY PROGRAM, IN A SANDBOX (cutbox-door.mjs). By AI agents, Wed Nov 11 2026. No macro, syntax, notation, axiom, sorry.
-/
import Derived.Test.YthipdbpdmbdjaaaDoorRows
import GoSem.ClaimSeven
namespace Go.Proofs.YthipdbpdmbdjaaaDoor
namespace Rows

/-- THE TIED CARD OF 'laws.FnExactStatLines'. -/
def fnExactStatLinesCard : Claim7 := { stood := { row := fnExactStatLinesRow, standIns := [], harness := (true, "79c27c9d8edd209800da6bea02e372db1714aacc7642ec803d570a51f4b4ae96"), looks := false }, kinds := [], alts := [], laidByText := true, laidKinds := [.data, .pinned], laidTests := true, laidLooks := .later }
def FnExactStatLinesCardSaid : Prop := Claim7.holds Tryd.pinned (.plain (OpenSpec.ofChange fnExactStatLinesSpec)) fnExactStatLinesCard

/-- THE TIED CARD OF 'laws.FnExactViewFree'. -/
def fnExactViewFreeCard : Claim7 := { stood := { row := fnExactViewFreeRow, standIns := [], harness := (true, "79c27c9d8edd209800da6bea02e372db1714aacc7642ec803d570a51f4b4ae96"), looks := false }, kinds := [], alts := [], laidByText := true, laidKinds := [.data, .pinned], laidTests := true, laidLooks := .later }
def FnExactViewFreeCardSaid : Prop := Claim7.holds Tryd.pinned (.plain (OpenSpec.ofChange fnExactViewFreeSpec)) fnExactViewFreeCard

/-- THE TIED CARD OF 'laws.FnExactSeekTree'. -/
def fnExactSeekTreeCard : Claim7 := { stood := { row := fnExactSeekTreeRow, standIns := [], harness := (true, "79c27c9d8edd209800da6bea02e372db1714aacc7642ec803d570a51f4b4ae96"), looks := false }, kinds := [], alts := [], laidByText := true, laidKinds := [.data, .pinned], laidTests := true, laidLooks := .later }
def FnExactSeekTreeCardSaid : Prop := Claim7.holds Tryd.pinned (.plain (OpenSpec.ofChange fnExactSeekTreeSpec)) fnExactSeekTreeCard

/-- THE TIED CARD OF 'laws.FnSeekTree'. -/
def fnSeekTreeCard : Claim7 := { stood := { row := fnSeekTreeRow, standIns := [], harness := (true, "79c27c9d8edd209800da6bea02e372db1714aacc7642ec803d570a51f4b4ae96"), looks := false }, kinds := [], alts := [], laidByText := true, laidKinds := [.data, .pinned], laidTests := true, laidLooks := .later }
def FnSeekTreeCardSaid : Prop := Claim7.holds Tryd.pinned (.plain (OpenSpec.ofChange fnSeekTreeSpec)) fnSeekTreeCard

/-- THE TIED CARD OF 'laws.FnExactViewOf'. -/
def fnExactViewOfCard : Claim7 := { stood := { row := fnExactViewOfRow, standIns := [], harness := (true, "79c27c9d8edd209800da6bea02e372db1714aacc7642ec803d570a51f4b4ae96"), looks := false }, kinds := [], alts := [], laidByText := true, laidKinds := [.data, .pinned], laidTests := true, laidLooks := .later }
def FnExactViewOfCardSaid : Prop := Claim7.holds Tryd.pinned (.plain (OpenSpec.ofChange fnExactViewOfSpec)) fnExactViewOfCard

/-- THE TIED CARD OF 'laws.FnExactMarksOk'. -/
def fnExactMarksOkCard : Claim7 := { stood := { row := fnExactMarksOkRow, standIns := [], harness := (true, "79c27c9d8edd209800da6bea02e372db1714aacc7642ec803d570a51f4b4ae96"), looks := false }, kinds := [], alts := [], laidByText := true, laidKinds := [.data, .pinned], laidTests := true, laidLooks := .later }
def FnExactMarksOkCardSaid : Prop := Claim7.holds Tryd.pinned (.plain (OpenSpec.ofChange fnExactMarksOkSpec)) fnExactMarksOkCard

/-- THE TIED CARD OF 'laws.FnExactTreePut'. -/
def fnExactTreePutCard : Claim7 := { stood := { row := fnExactTreePutRow, standIns := [], harness := (true, "79c27c9d8edd209800da6bea02e372db1714aacc7642ec803d570a51f4b4ae96"), looks := false }, kinds := [], alts := [], laidByText := true, laidKinds := [.data, .data, .data, .data, .pinned], laidTests := true, laidLooks := .later }
def FnExactTreePutCardSaid : Prop := Claim7.holds Tryd.pinned (.plain (OpenSpec.ofChange fnExactTreePutSpec)) fnExactTreePutCard

/-- THE TIED CARD OF 'laws.FnViewPut'. -/
def fnViewPutCard : Claim7 := { stood := { row := fnViewPutRow, standIns := [], harness := (true, "79c27c9d8edd209800da6bea02e372db1714aacc7642ec803d570a51f4b4ae96"), looks := false }, kinds := [], alts := [], laidByText := true, laidKinds := [.data, .pinned], laidTests := true, laidLooks := .later }
def FnViewPutCardSaid : Prop := Claim7.holds Tryd.pinned (.plain (OpenSpec.ofChange fnViewPutSpec)) fnViewPutCard

/-- THE TIED CARD OF 'laws.FnViewFree'. -/
def fnViewFreeCard : Claim7 := { stood := { row := fnViewFreeRow, standIns := [], harness := (true, "79c27c9d8edd209800da6bea02e372db1714aacc7642ec803d570a51f4b4ae96"), looks := false }, kinds := [], alts := [], laidByText := true, laidKinds := [.data, .pinned], laidTests := true, laidLooks := .later }
def FnViewFreeCardSaid : Prop := Claim7.holds Tryd.pinned (.plain (OpenSpec.ofChange fnViewFreeSpec)) fnViewFreeCard

/-- THE TIED CARD OF 'laws.FnExactViewPut'. -/
def fnExactViewPutCard : Claim7 := { stood := { row := fnExactViewPutRow, standIns := [], harness := (true, "79c27c9d8edd209800da6bea02e372db1714aacc7642ec803d570a51f4b4ae96"), looks := false }, kinds := [], alts := [], laidByText := true, laidKinds := [.data, .pinned], laidTests := true, laidLooks := .later }
def FnExactViewPutCardSaid : Prop := Claim7.holds Tryd.pinned (.plain (OpenSpec.ofChange fnExactViewPutSpec)) fnExactViewPutCard

/-- THE SECOND FORM's CARD OF 'laws.FnExactStatLines'. -/
def fnExactStatLinesUptoCard : Claim7 := { stood := { row := fnExactStatLinesUptoRow, standIns := [], harness := (true, "79c27c9d8edd209800da6bea02e372db1714aacc7642ec803d570a51f4b4ae96"), looks := false }, kinds := [], alts := [], laidByText := true, laidKinds := [.data, .pinned], laidTests := true, laidLooks := .later }
def FnExactStatLinesUptoCardSaid : Prop := Claim7.holds Tryd.pinned (.plain (OpenSpec.upto fnExactStatLinesSpec)) fnExactStatLinesUptoCard

/-- THE SECOND FORM's CARD OF 'laws.FnExactViewFree'. -/
def fnExactViewFreeUptoCard : Claim7 := { stood := { row := fnExactViewFreeUptoRow, standIns := [], harness := (true, "79c27c9d8edd209800da6bea02e372db1714aacc7642ec803d570a51f4b4ae96"), looks := false }, kinds := [], alts := [], laidByText := true, laidKinds := [.data, .pinned], laidTests := true, laidLooks := .later }
def FnExactViewFreeUptoCardSaid : Prop := Claim7.holds Tryd.pinned (.plain (OpenSpec.upto fnExactViewFreeSpec)) fnExactViewFreeUptoCard

/-- THE SECOND FORM's CARD OF 'laws.FnExactSeekTree'. -/
def fnExactSeekTreeUptoCard : Claim7 := { stood := { row := fnExactSeekTreeUptoRow, standIns := [], harness := (true, "79c27c9d8edd209800da6bea02e372db1714aacc7642ec803d570a51f4b4ae96"), looks := false }, kinds := [], alts := [], laidByText := true, laidKinds := [.data, .pinned], laidTests := true, laidLooks := .later }
def FnExactSeekTreeUptoCardSaid : Prop := Claim7.holds Tryd.pinned (.plain (OpenSpec.upto fnExactSeekTreeSpec)) fnExactSeekTreeUptoCard

/-- THE SECOND FORM's CARD OF 'laws.FnSeekTree'. -/
def fnSeekTreeUptoCard : Claim7 := { stood := { row := fnSeekTreeUptoRow, standIns := [], harness := (true, "79c27c9d8edd209800da6bea02e372db1714aacc7642ec803d570a51f4b4ae96"), looks := false }, kinds := [], alts := [], laidByText := true, laidKinds := [.data, .pinned], laidTests := true, laidLooks := .later }
def FnSeekTreeUptoCardSaid : Prop := Claim7.holds Tryd.pinned (.plain (OpenSpec.upto fnSeekTreeSpec)) fnSeekTreeUptoCard

/-- THE SECOND FORM's CARD OF 'laws.FnExactViewOf'. -/
def fnExactViewOfUptoCard : Claim7 := { stood := { row := fnExactViewOfUptoRow, standIns := [], harness := (true, "79c27c9d8edd209800da6bea02e372db1714aacc7642ec803d570a51f4b4ae96"), looks := false }, kinds := [], alts := [], laidByText := true, laidKinds := [.data, .pinned], laidTests := true, laidLooks := .later }
def FnExactViewOfUptoCardSaid : Prop := Claim7.holds Tryd.pinned (.plain (OpenSpec.upto fnExactViewOfSpec)) fnExactViewOfUptoCard

/-- THE SECOND FORM's CARD OF 'laws.FnExactMarksOk'. -/
def fnExactMarksOkUptoCard : Claim7 := { stood := { row := fnExactMarksOkUptoRow, standIns := [], harness := (true, "79c27c9d8edd209800da6bea02e372db1714aacc7642ec803d570a51f4b4ae96"), looks := false }, kinds := [], alts := [], laidByText := true, laidKinds := [.data, .pinned], laidTests := true, laidLooks := .later }
def FnExactMarksOkUptoCardSaid : Prop := Claim7.holds Tryd.pinned (.plain (OpenSpec.upto fnExactMarksOkSpec)) fnExactMarksOkUptoCard

/-- THE SECOND FORM's CARD OF 'laws.FnExactTreePut'. -/
def fnExactTreePutUptoCard : Claim7 := { stood := { row := fnExactTreePutUptoRow, standIns := [], harness := (true, "79c27c9d8edd209800da6bea02e372db1714aacc7642ec803d570a51f4b4ae96"), looks := false }, kinds := [], alts := [], laidByText := true, laidKinds := [.data, .data, .data, .data, .pinned], laidTests := true, laidLooks := .later }
def FnExactTreePutUptoCardSaid : Prop := Claim7.holds Tryd.pinned (.plain (OpenSpec.upto fnExactTreePutSpec)) fnExactTreePutUptoCard

/-- THE SECOND FORM's CARD OF 'laws.FnViewPut'. -/
def fnViewPutUptoCard : Claim7 := { stood := { row := fnViewPutUptoRow, standIns := [], harness := (true, "79c27c9d8edd209800da6bea02e372db1714aacc7642ec803d570a51f4b4ae96"), looks := false }, kinds := [], alts := [], laidByText := true, laidKinds := [.data, .pinned], laidTests := true, laidLooks := .later }
def FnViewPutUptoCardSaid : Prop := Claim7.holds Tryd.pinned (.plain (OpenSpec.upto fnViewPutSpec)) fnViewPutUptoCard

/-- THE SECOND FORM's CARD OF 'laws.FnViewFree'. -/
def fnViewFreeUptoCard : Claim7 := { stood := { row := fnViewFreeUptoRow, standIns := [], harness := (true, "79c27c9d8edd209800da6bea02e372db1714aacc7642ec803d570a51f4b4ae96"), looks := false }, kinds := [], alts := [], laidByText := true, laidKinds := [.data, .pinned], laidTests := true, laidLooks := .later }
def FnViewFreeUptoCardSaid : Prop := Claim7.holds Tryd.pinned (.plain (OpenSpec.upto fnViewFreeSpec)) fnViewFreeUptoCard

/-- THE SECOND FORM's CARD OF 'laws.FnExactViewPut'. -/
def fnExactViewPutUptoCard : Claim7 := { stood := { row := fnExactViewPutUptoRow, standIns := [], harness := (true, "79c27c9d8edd209800da6bea02e372db1714aacc7642ec803d570a51f4b4ae96"), looks := false }, kinds := [], alts := [], laidByText := true, laidKinds := [.data, .pinned], laidTests := true, laidLooks := .later }
def FnExactViewPutUptoCardSaid : Prop := Claim7.holds Tryd.pinned (.plain (OpenSpec.upto fnExactViewPutSpec)) fnExactViewPutUptoCard
end Rows
end Go.Proofs.YthipdbpdmbdjaaaDoor
