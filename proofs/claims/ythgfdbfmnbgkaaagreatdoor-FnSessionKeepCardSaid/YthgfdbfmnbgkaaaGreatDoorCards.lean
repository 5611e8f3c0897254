/-
  DERIVED. GIVEN WITH THE SEED: THE CARDS: each row of YthgfdbfmnbgkaaaGreatDoorRows.lean that lists a variable, with what it lists TIED to the program's text (the seventh form; the later family's looks); each row that meets fmt, with fmt's text TOLD by the authors' own Lean function (tested against real Go, not proved from fmt's source: count such statements apart). THE CARD IS WHAT COUNTS. Prove the row's statement (the work); the ties are given (YthgfdbfmnbgkaaaGreatDoorTie.lean); close each card by the builder's one call (the guide's Derived/Test/ToyasCard.lean, 'card_holds'). Laid BY PROGRAM, IN A SANDBOX (cutbox-door.mjs). By AI agents, Wed Nov 11 2026. No macro, syntax, notation, axiom, sorry.
-/
import Derived.Test.YthgfdbfmnbgkaaaGreatDoorRows
import GoSem.ClaimSeven
namespace Go.Proofs.YthgfdbfmnbgkaaaGreatDoor
namespace Rows

/-- THE TIED CARD OF 'laws.FnExactSession'. -/
def fnExactSessionCard : Claim7 := { stood := { row := fnExactSessionRow, standIns := [], harness := (true, "824f90a957cc3d6f9485f8d005931cbbe74c10dc6c7c3d5b49d4379a261fa1d9"), looks := true }, kinds := [], alts := [], laidByText := true, laidKinds := [.data, .data, .data, .data, .sentinel, .sentinel, .pinned], laidTests := true, laidLooks := .later }
def FnExactSessionCardSaid : Prop := Claim7.holds Tryz.pinned (.plain (OpenSpec.ofChange fnExactSessionSpec)) fnExactSessionCard

/-- THE TIED CARD OF 'laws.FnSession'. -/
def fnSessionCard : Claim7 := { stood := { row := fnSessionRow, standIns := [], harness := (true, "824f90a957cc3d6f9485f8d005931cbbe74c10dc6c7c3d5b49d4379a261fa1d9"), looks := true }, kinds := [], alts := [], laidByText := true, laidKinds := [.data, .data, .data, .data, .sentinel, .sentinel, .pinned], laidTests := true, laidLooks := .later }
def FnSessionCardSaid : Prop := Claim7.holds Tryz.pinned (.plain (OpenSpec.ofChange fnSessionSpec)) fnSessionCard

/-- THE TIED CARD OF 'laws.FnSessionKeep'. -/
def fnSessionKeepCard : Claim7 := { stood := { row := fnSessionKeepRow, standIns := [], harness := (true, "824f90a957cc3d6f9485f8d005931cbbe74c10dc6c7c3d5b49d4379a261fa1d9"), looks := true }, kinds := [], alts := [], laidByText := true, laidKinds := [.data, .data, .data, .data, .sentinel, .sentinel, .pinned], laidTests := true, laidLooks := .later }
def FnSessionKeepCardSaid : Prop := Claim7.holds Tryz.pinned (.plain (OpenSpec.ofChange fnSessionKeepSpec)) fnSessionKeepCard

/-- THE TIED CARD OF 'laws.FnReviewNeed'. -/
def fnReviewNeedCard : Claim7 := { stood := { row := fnReviewNeedRow, standIns := [], harness := (true, "824f90a957cc3d6f9485f8d005931cbbe74c10dc6c7c3d5b49d4379a261fa1d9"), looks := true }, kinds := [], alts := [], laidByText := true, laidKinds := [.data, .pinned], laidTests := true, laidLooks := .later }
def FnReviewNeedCardSaid : Prop := Claim7.holds Tryz.pinned (.plain (OpenSpec.ofChange fnReviewNeedSpec)) fnReviewNeedCard

/-- THE TIED CARD OF 'laws.FnReviewLand'. -/
def fnReviewLandCard : Claim7 := { stood := { row := fnReviewLandRow, standIns := [], harness := (true, "824f90a957cc3d6f9485f8d005931cbbe74c10dc6c7c3d5b49d4379a261fa1d9"), looks := true }, kinds := [], alts := [], laidByText := true, laidKinds := [.data, .pinned], laidTests := true, laidLooks := .later }
def FnReviewLandCardSaid : Prop := Claim7.holds Tryz.pinned (.plain (OpenSpec.ofChange fnReviewLandSpec)) fnReviewLandCard

/-- THE SECOND FORM's CARD OF 'laws.FnExactSession'. -/
def fnExactSessionUptoCard : Claim7 := { stood := { row := fnExactSessionUptoRow, standIns := [], harness := (true, "824f90a957cc3d6f9485f8d005931cbbe74c10dc6c7c3d5b49d4379a261fa1d9"), looks := true }, kinds := [], alts := [], laidByText := true, laidKinds := [.data, .data, .data, .data, .sentinel, .sentinel, .pinned], laidTests := true, laidLooks := .later }
def FnExactSessionUptoCardSaid : Prop := Claim7.holds Tryz.pinned (.plain (OpenSpec.upto fnExactSessionSpec)) fnExactSessionUptoCard

/-- THE SECOND FORM's CARD OF 'laws.FnSession'. -/
def fnSessionUptoCard : Claim7 := { stood := { row := fnSessionUptoRow, standIns := [], harness := (true, "824f90a957cc3d6f9485f8d005931cbbe74c10dc6c7c3d5b49d4379a261fa1d9"), looks := true }, kinds := [], alts := [], laidByText := true, laidKinds := [.data, .data, .data, .data, .sentinel, .sentinel, .pinned], laidTests := true, laidLooks := .later }
def FnSessionUptoCardSaid : Prop := Claim7.holds Tryz.pinned (.plain (OpenSpec.upto fnSessionSpec)) fnSessionUptoCard

/-- THE SECOND FORM's CARD OF 'laws.FnSessionKeep'. -/
def fnSessionKeepUptoCard : Claim7 := { stood := { row := fnSessionKeepUptoRow, standIns := [], harness := (true, "824f90a957cc3d6f9485f8d005931cbbe74c10dc6c7c3d5b49d4379a261fa1d9"), looks := true }, kinds := [], alts := [], laidByText := true, laidKinds := [.data, .data, .data, .data, .sentinel, .sentinel, .pinned], laidTests := true, laidLooks := .later }
def FnSessionKeepUptoCardSaid : Prop := Claim7.holds Tryz.pinned (.plain (OpenSpec.upto fnSessionKeepSpec)) fnSessionKeepUptoCard

/-- THE SECOND FORM's CARD OF 'laws.FnReviewNeed'. -/
def fnReviewNeedUptoCard : Claim7 := { stood := { row := fnReviewNeedUptoRow, standIns := [], harness := (true, "824f90a957cc3d6f9485f8d005931cbbe74c10dc6c7c3d5b49d4379a261fa1d9"), looks := true }, kinds := [], alts := [], laidByText := true, laidKinds := [.data, .pinned], laidTests := true, laidLooks := .later }
def FnReviewNeedUptoCardSaid : Prop := Claim7.holds Tryz.pinned (.plain (OpenSpec.upto fnReviewNeedSpec)) fnReviewNeedUptoCard

/-- THE SECOND FORM's CARD OF 'laws.FnReviewLand'. -/
def fnReviewLandUptoCard : Claim7 := { stood := { row := fnReviewLandUptoRow, standIns := [], harness := (true, "824f90a957cc3d6f9485f8d005931cbbe74c10dc6c7c3d5b49d4379a261fa1d9"), looks := true }, kinds := [], alts := [], laidByText := true, laidKinds := [.data, .pinned], laidTests := true, laidLooks := .later }
def FnReviewLandUptoCardSaid : Prop := Claim7.holds Tryz.pinned (.plain (OpenSpec.upto fnReviewLandSpec)) fnReviewLandUptoCard
end Rows
end Go.Proofs.YthgfdbfmnbgkaaaGreatDoor
