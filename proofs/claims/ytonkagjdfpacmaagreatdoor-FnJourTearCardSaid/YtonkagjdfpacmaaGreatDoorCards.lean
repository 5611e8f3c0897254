/-
  DERIVED. GIVEN WITH THE SEED: THE CARDS: each row of YtonkagjdfpacmaaGreatDoorRows.lean that lists a variable, with what it lists TIED to the program's text (the seventh form; the later family's looks); each row that meets fmt, with fmt's text TOLD by the authors' own Lean function (tested against real Go, not proved from fmt's source: count such statements apart). THE CARD IS WHAT COUNTS. Prove the row's statement (the work); the ties are given (YtonkagjdfpacmaaGreatDoorTie.lean); close each card by the builder's one call (the guide's Derived/Test/ToyasCard.lean, 'card_holds'). Laid BY PROGRAM, IN A SANDBOX (cutbox-door.mjs). By AI agents, Wed Nov 11 2026. No macro, syntax, notation, axiom, sorry.
-/
import Derived.Test.YtonkagjdfpacmaaGreatDoorRows
import GoSem.ClaimSeven
namespace Go.Proofs.YtonkagjdfpacmaaGreatDoor
namespace Rows

/-- THE TIED CARD OF 'laws.FnExactRepoPlay'. -/
def fnExactRepoPlayCard : Claim7 := { stood := { row := fnExactRepoPlayRow, standIns := [], harness := (true, "3022dce8ada3d8251f3d4c9b13d9cf09d9826f8f05e624d52acfd8f064b9e046"), looks := true }, kinds := [], alts := [], laidByText := true, laidKinds := [.data, .pinned], laidTests := true, laidLooks := .later }
def FnExactRepoPlayCardSaid : Prop := Claim7.holds Tryz.pinned (.plain (OpenSpec.ofChange fnExactRepoPlaySpec)) fnExactRepoPlayCard

/-- THE TIED CARD OF 'laws.FnExactJourAdd'. -/
def fnExactJourAddCard : Claim7 := { stood := { row := fnExactJourAddRow, standIns := [], harness := (true, "3022dce8ada3d8251f3d4c9b13d9cf09d9826f8f05e624d52acfd8f064b9e046"), looks := true }, kinds := [], alts := [], laidByText := true, laidKinds := [.data, .data, .data, .data, .sentinel, .sentinel, .pinned], laidTests := true, laidLooks := .later }
def FnExactJourAddCardSaid : Prop := Claim7.holds Tryz.pinned (.plain (OpenSpec.ofChange fnExactJourAddSpec)) fnExactJourAddCard

/-- THE TIED CARD OF 'laws.FnExactJourTear'. -/
def fnExactJourTearCard : Claim7 := { stood := { row := fnExactJourTearRow, standIns := [], harness := (true, "3022dce8ada3d8251f3d4c9b13d9cf09d9826f8f05e624d52acfd8f064b9e046"), looks := true }, kinds := [], alts := [], laidByText := true, laidKinds := [.data, .data, .data, .data, .sentinel, .sentinel, .pinned], laidTests := true, laidLooks := .later }
def FnExactJourTearCardSaid : Prop := Claim7.holds Tryz.pinned (.plain (OpenSpec.ofChange fnExactJourTearSpec)) fnExactJourTearCard

/-- THE TIED CARD OF 'laws.FnJourRead'. -/
def fnJourReadCard : Claim7 := { stood := { row := fnJourReadRow, standIns := [], harness := (true, "3022dce8ada3d8251f3d4c9b13d9cf09d9826f8f05e624d52acfd8f064b9e046"), looks := true }, kinds := [], alts := [], laidByText := true, laidKinds := [.data, .data, .data, .data, .sentinel, .sentinel, .pinned], laidTests := true, laidLooks := .later }
def FnJourReadCardSaid : Prop := Claim7.holds Tryz.pinned (.plain (OpenSpec.ofChange fnJourReadSpec)) fnJourReadCard

/-- THE TIED CARD OF 'laws.FnJourAdd'. -/
def fnJourAddCard : Claim7 := { stood := { row := fnJourAddRow, standIns := [], harness := (true, "3022dce8ada3d8251f3d4c9b13d9cf09d9826f8f05e624d52acfd8f064b9e046"), looks := true }, kinds := [], alts := [], laidByText := true, laidKinds := [.data, .data, .data, .data, .sentinel, .sentinel, .pinned], laidTests := true, laidLooks := .later }
def FnJourAddCardSaid : Prop := Claim7.holds Tryz.pinned (.plain (OpenSpec.ofChange fnJourAddSpec)) fnJourAddCard

/-- THE TIED CARD OF 'laws.FnJourTear'. -/
def fnJourTearCard : Claim7 := { stood := { row := fnJourTearRow, standIns := [], harness := (true, "3022dce8ada3d8251f3d4c9b13d9cf09d9826f8f05e624d52acfd8f064b9e046"), looks := true }, kinds := [], alts := [], laidByText := true, laidKinds := [.data, .data, .data, .data, .sentinel, .sentinel, .pinned], laidTests := true, laidLooks := .later }
def FnJourTearCardSaid : Prop := Claim7.holds Tryz.pinned (.plain (OpenSpec.ofChange fnJourTearSpec)) fnJourTearCard

/-- THE TIED CARD OF 'laws.FnExactJourRead'. -/
def fnExactJourReadCard : Claim7 := { stood := { row := fnExactJourReadRow, standIns := [], harness := (true, "3022dce8ada3d8251f3d4c9b13d9cf09d9826f8f05e624d52acfd8f064b9e046"), looks := true }, kinds := [], alts := [], laidByText := true, laidKinds := [.data, .data, .data, .data, .sentinel, .sentinel, .pinned], laidTests := true, laidLooks := .later }
def FnExactJourReadCardSaid : Prop := Claim7.holds Tryz.pinned (.plain (OpenSpec.ofChange fnExactJourReadSpec)) fnExactJourReadCard

/-- THE SECOND FORM's CARD OF 'laws.FnExactRepoPlay'. -/
def fnExactRepoPlayUptoCard : Claim7 := { stood := { row := fnExactRepoPlayUptoRow, standIns := [], harness := (true, "3022dce8ada3d8251f3d4c9b13d9cf09d9826f8f05e624d52acfd8f064b9e046"), looks := true }, kinds := [], alts := [], laidByText := true, laidKinds := [.data, .pinned], laidTests := true, laidLooks := .later }
def FnExactRepoPlayUptoCardSaid : Prop := Claim7.holds Tryz.pinned (.plain (OpenSpec.upto fnExactRepoPlaySpec)) fnExactRepoPlayUptoCard

/-- THE SECOND FORM's CARD OF 'laws.FnExactJourAdd'. -/
def fnExactJourAddUptoCard : Claim7 := { stood := { row := fnExactJourAddUptoRow, standIns := [], harness := (true, "3022dce8ada3d8251f3d4c9b13d9cf09d9826f8f05e624d52acfd8f064b9e046"), looks := true }, kinds := [], alts := [], laidByText := true, laidKinds := [.data, .data, .data, .data, .sentinel, .sentinel, .pinned], laidTests := true, laidLooks := .later }
def FnExactJourAddUptoCardSaid : Prop := Claim7.holds Tryz.pinned (.plain (OpenSpec.upto fnExactJourAddSpec)) fnExactJourAddUptoCard

/-- THE SECOND FORM's CARD OF 'laws.FnExactJourTear'. -/
def fnExactJourTearUptoCard : Claim7 := { stood := { row := fnExactJourTearUptoRow, standIns := [], harness := (true, "3022dce8ada3d8251f3d4c9b13d9cf09d9826f8f05e624d52acfd8f064b9e046"), looks := true }, kinds := [], alts := [], laidByText := true, laidKinds := [.data, .data, .data, .data, .sentinel, .sentinel, .pinned], laidTests := true, laidLooks := .later }
def FnExactJourTearUptoCardSaid : Prop := Claim7.holds Tryz.pinned (.plain (OpenSpec.upto fnExactJourTearSpec)) fnExactJourTearUptoCard

/-- THE SECOND FORM's CARD OF 'laws.FnJourRead'. -/
def fnJourReadUptoCard : Claim7 := { stood := { row := fnJourReadUptoRow, standIns := [], harness := (true, "3022dce8ada3d8251f3d4c9b13d9cf09d9826f8f05e624d52acfd8f064b9e046"), looks := true }, kinds := [], alts := [], laidByText := true, laidKinds := [.data, .data, .data, .data, .sentinel, .sentinel, .pinned], laidTests := true, laidLooks := .later }
def FnJourReadUptoCardSaid : Prop := Claim7.holds Tryz.pinned (.plain (OpenSpec.upto fnJourReadSpec)) fnJourReadUptoCard

/-- THE SECOND FORM's CARD OF 'laws.FnJourAdd'. -/
def fnJourAddUptoCard : Claim7 := { stood := { row := fnJourAddUptoRow, standIns := [], harness := (true, "3022dce8ada3d8251f3d4c9b13d9cf09d9826f8f05e624d52acfd8f064b9e046"), looks := true }, kinds := [], alts := [], laidByText := true, laidKinds := [.data, .data, .data, .data, .sentinel, .sentinel, .pinned], laidTests := true, laidLooks := .later }
def FnJourAddUptoCardSaid : Prop := Claim7.holds Tryz.pinned (.plain (OpenSpec.upto fnJourAddSpec)) fnJourAddUptoCard

/-- THE SECOND FORM's CARD OF 'laws.FnJourTear'. -/
def fnJourTearUptoCard : Claim7 := { stood := { row := fnJourTearUptoRow, standIns := [], harness := (true, "3022dce8ada3d8251f3d4c9b13d9cf09d9826f8f05e624d52acfd8f064b9e046"), looks := true }, kinds := [], alts := [], laidByText := true, laidKinds := [.data, .data, .data, .data, .sentinel, .sentinel, .pinned], laidTests := true, laidLooks := .later }
def FnJourTearUptoCardSaid : Prop := Claim7.holds Tryz.pinned (.plain (OpenSpec.upto fnJourTearSpec)) fnJourTearUptoCard

/-- THE SECOND FORM's CARD OF 'laws.FnExactJourRead'. -/
def fnExactJourReadUptoCard : Claim7 := { stood := { row := fnExactJourReadUptoRow, standIns := [], harness := (true, "3022dce8ada3d8251f3d4c9b13d9cf09d9826f8f05e624d52acfd8f064b9e046"), looks := true }, kinds := [], alts := [], laidByText := true, laidKinds := [.data, .data, .data, .data, .sentinel, .sentinel, .pinned], laidTests := true, laidLooks := .later }
def FnExactJourReadUptoCardSaid : Prop := Claim7.holds Tryz.pinned (.plain (OpenSpec.upto fnExactJourReadSpec)) fnExactJourReadUptoCard
end Rows
end Go.Proofs.YtonkagjdfpacmaaGreatDoor
