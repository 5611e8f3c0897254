/-
  DERIVED. GIVEN WITH THE SEED: THE CARDS: each row of YtokdjnbcdokpjabGreatDoorRows.lean that lists a variable, with what it lists TIED to the program's text (the seventh form; the later family's looks); each row that meets fmt, with fmt's text TOLD by the authors' own Lean function (tested against real Go, not proved from fmt's source: count such statements apart). THE CARD IS WHAT COUNTS. Prove the row's statement (the work); the ties are given (YtokdjnbcdokpjabGreatDoorTie.lean); close each card by the builder's one call (the guide's Derived/Test/ToyasCard.lean, 'card_holds'). Laid BY PROGRAM, IN A SANDBOX (cutbox-door.mjs). By AI agents, Wed Nov 11 2026. No macro, syntax, notation, axiom, sorry.
-/
import Derived.Test.YtokdjnbcdokpjabGreatDoorRows
import GoSem.ClaimSeven
namespace Go.Proofs.YtokdjnbcdokpjabGreatDoor
namespace Rows

/-- THE TIED CARD OF 'laws.FnExactQueueRun'. -/
def fnExactQueueRunCard : Claim7 := { stood := { row := fnExactQueueRunRow, standIns := [], harness := (true, "07b8670641899b57d14ba062a93c01adeb48c46a70ac58132df361314697340a"), looks := false }, kinds := [], alts := [], laidByText := true, laidKinds := [.data, .pinned], laidTests := true, laidLooks := .later }
def FnExactQueueRunCardSaid : Prop := Claim7.holds Tryz.pinned (.plain (OpenSpec.ofChange fnExactQueueRunSpec)) fnExactQueueRunCard

/-- THE TIED CARD OF 'laws.FnQueueRun'. -/
def fnQueueRunCard : Claim7 := { stood := { row := fnQueueRunRow, standIns := [], harness := (true, "07b8670641899b57d14ba062a93c01adeb48c46a70ac58132df361314697340a"), looks := false }, kinds := [], alts := [], laidByText := true, laidKinds := [.data, .pinned], laidTests := true, laidLooks := .later }
def FnQueueRunCardSaid : Prop := Claim7.holds Tryz.pinned (.plain (OpenSpec.ofChange fnQueueRunSpec)) fnQueueRunCard

/-- THE TIED CARD OF 'laws.FnRepoPlay'. -/
def fnRepoPlayCard : Claim7 := { stood := { row := fnRepoPlayRow, standIns := [], harness := (true, "07b8670641899b57d14ba062a93c01adeb48c46a70ac58132df361314697340a"), looks := false }, kinds := [], alts := [], laidByText := true, laidKinds := [.data, .pinned], laidTests := true, laidLooks := .later }
def FnRepoPlayCardSaid : Prop := Claim7.holds Tryz.pinned (.plain (OpenSpec.ofChange fnRepoPlaySpec)) fnRepoPlayCard

/-- THE TIED CARD OF 'laws.FnRepoFork'. -/
def fnRepoForkCard : Claim7 := { stood := { row := fnRepoForkRow, standIns := [], harness := (true, "07b8670641899b57d14ba062a93c01adeb48c46a70ac58132df361314697340a"), looks := false }, kinds := [], alts := [], laidByText := true, laidKinds := [.data, .pinned], laidTests := true, laidLooks := .later }
def FnRepoForkCardSaid : Prop := Claim7.holds Tryz.pinned (.plain (OpenSpec.ofChange fnRepoForkSpec)) fnRepoForkCard

/-- THE TIED CARD OF 'laws.FnRepoSet'. -/
def fnRepoSetCard : Claim7 := { stood := { row := fnRepoSetRow, standIns := [], harness := (true, "07b8670641899b57d14ba062a93c01adeb48c46a70ac58132df361314697340a"), looks := false }, kinds := [], alts := [], laidByText := true, laidKinds := [.data, .pinned], laidTests := true, laidLooks := .later }
def FnRepoSetCardSaid : Prop := Claim7.holds Tryz.pinned (.plain (OpenSpec.ofChange fnRepoSetSpec)) fnRepoSetCard

/-- THE TIED CARD OF 'laws.FnRepoDo'. -/
def fnRepoDoCard : Claim7 := { stood := { row := fnRepoDoRow, standIns := [], harness := (true, "07b8670641899b57d14ba062a93c01adeb48c46a70ac58132df361314697340a"), looks := false }, kinds := [], alts := [], laidByText := true, laidKinds := [.data, .pinned], laidTests := true, laidLooks := .later }
def FnRepoDoCardSaid : Prop := Claim7.holds Tryz.pinned (.plain (OpenSpec.ofChange fnRepoDoSpec)) fnRepoDoCard

/-- THE TIED CARD OF 'laws.FnExactRepoPlay'. -/
def fnExactRepoPlayCard : Claim7 := { stood := { row := fnExactRepoPlayRow, standIns := [], harness := (true, "07b8670641899b57d14ba062a93c01adeb48c46a70ac58132df361314697340a"), looks := false }, kinds := [], alts := [], laidByText := true, laidKinds := [.data, .pinned], laidTests := true, laidLooks := .later }
def FnExactRepoPlayCardSaid : Prop := Claim7.holds Tryz.pinned (.plain (OpenSpec.ofChange fnExactRepoPlaySpec)) fnExactRepoPlayCard

/-- THE TIED CARD OF 'laws.FnExactRepoDo'. -/
def fnExactRepoDoCard : Claim7 := { stood := { row := fnExactRepoDoRow, standIns := [], harness := (true, "07b8670641899b57d14ba062a93c01adeb48c46a70ac58132df361314697340a"), looks := false }, kinds := [], alts := [], laidByText := true, laidKinds := [.data, .pinned], laidTests := true, laidLooks := .later }
def FnExactRepoDoCardSaid : Prop := Claim7.holds Tryz.pinned (.plain (OpenSpec.ofChange fnExactRepoDoSpec)) fnExactRepoDoCard

/-- THE SECOND FORM's CARD OF 'laws.FnExactQueueRun'. -/
def fnExactQueueRunUptoCard : Claim7 := { stood := { row := fnExactQueueRunUptoRow, standIns := [], harness := (true, "07b8670641899b57d14ba062a93c01adeb48c46a70ac58132df361314697340a"), looks := false }, kinds := [], alts := [], laidByText := true, laidKinds := [.data, .pinned], laidTests := true, laidLooks := .later }
def FnExactQueueRunUptoCardSaid : Prop := Claim7.holds Tryz.pinned (.plain (OpenSpec.upto fnExactQueueRunSpec)) fnExactQueueRunUptoCard

/-- THE SECOND FORM's CARD OF 'laws.FnQueueRun'. -/
def fnQueueRunUptoCard : Claim7 := { stood := { row := fnQueueRunUptoRow, standIns := [], harness := (true, "07b8670641899b57d14ba062a93c01adeb48c46a70ac58132df361314697340a"), looks := false }, kinds := [], alts := [], laidByText := true, laidKinds := [.data, .pinned], laidTests := true, laidLooks := .later }
def FnQueueRunUptoCardSaid : Prop := Claim7.holds Tryz.pinned (.plain (OpenSpec.upto fnQueueRunSpec)) fnQueueRunUptoCard

/-- THE SECOND FORM's CARD OF 'laws.FnRepoPlay'. -/
def fnRepoPlayUptoCard : Claim7 := { stood := { row := fnRepoPlayUptoRow, standIns := [], harness := (true, "07b8670641899b57d14ba062a93c01adeb48c46a70ac58132df361314697340a"), looks := false }, kinds := [], alts := [], laidByText := true, laidKinds := [.data, .pinned], laidTests := true, laidLooks := .later }
def FnRepoPlayUptoCardSaid : Prop := Claim7.holds Tryz.pinned (.plain (OpenSpec.upto fnRepoPlaySpec)) fnRepoPlayUptoCard

/-- THE SECOND FORM's CARD OF 'laws.FnRepoFork'. -/
def fnRepoForkUptoCard : Claim7 := { stood := { row := fnRepoForkUptoRow, standIns := [], harness := (true, "07b8670641899b57d14ba062a93c01adeb48c46a70ac58132df361314697340a"), looks := false }, kinds := [], alts := [], laidByText := true, laidKinds := [.data, .pinned], laidTests := true, laidLooks := .later }
def FnRepoForkUptoCardSaid : Prop := Claim7.holds Tryz.pinned (.plain (OpenSpec.upto fnRepoForkSpec)) fnRepoForkUptoCard

/-- THE SECOND FORM's CARD OF 'laws.FnRepoSet'. -/
def fnRepoSetUptoCard : Claim7 := { stood := { row := fnRepoSetUptoRow, standIns := [], harness := (true, "07b8670641899b57d14ba062a93c01adeb48c46a70ac58132df361314697340a"), looks := false }, kinds := [], alts := [], laidByText := true, laidKinds := [.data, .pinned], laidTests := true, laidLooks := .later }
def FnRepoSetUptoCardSaid : Prop := Claim7.holds Tryz.pinned (.plain (OpenSpec.upto fnRepoSetSpec)) fnRepoSetUptoCard

/-- THE SECOND FORM's CARD OF 'laws.FnRepoDo'. -/
def fnRepoDoUptoCard : Claim7 := { stood := { row := fnRepoDoUptoRow, standIns := [], harness := (true, "07b8670641899b57d14ba062a93c01adeb48c46a70ac58132df361314697340a"), looks := false }, kinds := [], alts := [], laidByText := true, laidKinds := [.data, .pinned], laidTests := true, laidLooks := .later }
def FnRepoDoUptoCardSaid : Prop := Claim7.holds Tryz.pinned (.plain (OpenSpec.upto fnRepoDoSpec)) fnRepoDoUptoCard

/-- THE SECOND FORM's CARD OF 'laws.FnExactRepoPlay'. -/
def fnExactRepoPlayUptoCard : Claim7 := { stood := { row := fnExactRepoPlayUptoRow, standIns := [], harness := (true, "07b8670641899b57d14ba062a93c01adeb48c46a70ac58132df361314697340a"), looks := false }, kinds := [], alts := [], laidByText := true, laidKinds := [.data, .pinned], laidTests := true, laidLooks := .later }
def FnExactRepoPlayUptoCardSaid : Prop := Claim7.holds Tryz.pinned (.plain (OpenSpec.upto fnExactRepoPlaySpec)) fnExactRepoPlayUptoCard

/-- THE SECOND FORM's CARD OF 'laws.FnExactRepoDo'. -/
def fnExactRepoDoUptoCard : Claim7 := { stood := { row := fnExactRepoDoUptoRow, standIns := [], harness := (true, "07b8670641899b57d14ba062a93c01adeb48c46a70ac58132df361314697340a"), looks := false }, kinds := [], alts := [], laidByText := true, laidKinds := [.data, .pinned], laidTests := true, laidLooks := .later }
def FnExactRepoDoUptoCardSaid : Prop := Claim7.holds Tryz.pinned (.plain (OpenSpec.upto fnExactRepoDoSpec)) fnExactRepoDoUptoCard
end Rows
end Go.Proofs.YtokdjnbcdokpjabGreatDoor
