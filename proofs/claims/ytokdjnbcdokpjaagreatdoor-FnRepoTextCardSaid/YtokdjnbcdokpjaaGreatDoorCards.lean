/-
  DERIVED. GIVEN WITH THE SEED: THE CARDS: each row of YtokdjnbcdokpjaaGreatDoorRows.lean that lists a variable, with what it lists TIED to the program's text (the seventh form; the later family's looks); each row that meets fmt, with fmt's text TOLD by the authors' own Lean function (tested against real Go, not proved from fmt's source: count such statements apart). THE CARD IS WHAT COUNTS. Prove the row's statement (the work); the ties are given (YtokdjnbcdokpjaaGreatDoorTie.lean); close each card by the builder's one call (the guide's Derived/Test/ToyasCard.lean, 'card_holds'). Laid BY PROGRAM, IN A SANDBOX (cutbox-door.mjs). By AI agents, Wed Nov 11 2026. No macro, syntax, notation, axiom, sorry.
-/
import Derived.Test.YtokdjnbcdokpjaaGreatDoorRows
import GoSem.ClaimSeven
namespace Go.Proofs.YtokdjnbcdokpjaaGreatDoor
namespace Rows

/-- THE TIED CARD OF 'laws.FnStatOf'. -/
def fnStatOfCard : Claim7 := { stood := { row := fnStatOfRow, standIns := [], harness := (true, "a06713f6636fd81b2bd7ca4b5321a5ca8bdd90fad26f39c39e951bbbbac8771a"), looks := false }, kinds := [], alts := [], laidByText := true, laidKinds := [.data, .pinned], laidTests := true, laidLooks := .later }
def FnStatOfCardSaid : Prop := Claim7.holds Tryz.pinned (.plain (OpenSpec.ofChange fnStatOfSpec)) fnStatOfCard

/-- THE TIED CARD OF 'laws.FnQueueLeft'. -/
def fnQueueLeftCard : Claim7 := { stood := { row := fnQueueLeftRow, standIns := [], harness := (true, "a06713f6636fd81b2bd7ca4b5321a5ca8bdd90fad26f39c39e951bbbbac8771a"), looks := false }, kinds := [], alts := [], laidByText := true, laidKinds := [.data, .pinned], laidTests := true, laidLooks := .later }
def FnQueueLeftCardSaid : Prop := Claim7.holds Tryz.pinned (.plain (OpenSpec.ofChange fnQueueLeftSpec)) fnQueueLeftCard

/-- THE TIED CARD OF 'laws.FnExactQueueLeft'. -/
def fnExactQueueLeftCard : Claim7 := { stood := { row := fnExactQueueLeftRow, standIns := [], harness := (true, "a06713f6636fd81b2bd7ca4b5321a5ca8bdd90fad26f39c39e951bbbbac8771a"), looks := false }, kinds := [], alts := [], laidByText := true, laidKinds := [.data, .pinned], laidTests := true, laidLooks := .later }
def FnExactQueueLeftCardSaid : Prop := Claim7.holds Tryz.pinned (.plain (OpenSpec.ofChange fnExactQueueLeftSpec)) fnExactQueueLeftCard

/-- THE TIED CARD OF 'laws.FnUniteInto'. -/
def fnUniteIntoCard : Claim7 := { stood := { row := fnUniteIntoRow, standIns := [], harness := (true, "a06713f6636fd81b2bd7ca4b5321a5ca8bdd90fad26f39c39e951bbbbac8771a"), looks := false }, kinds := [], alts := [], laidByText := true, laidKinds := [.data, .pinned], laidTests := true, laidLooks := .later }
def FnUniteIntoCardSaid : Prop := Claim7.holds Tryz.pinned (.plain (OpenSpec.ofChange fnUniteIntoSpec)) fnUniteIntoCard

/-- THE TIED CARD OF 'laws.FnUniteMade'. -/
def fnUniteMadeCard : Claim7 := { stood := { row := fnUniteMadeRow, standIns := [], harness := (true, "a06713f6636fd81b2bd7ca4b5321a5ca8bdd90fad26f39c39e951bbbbac8771a"), looks := false }, kinds := [], alts := [], laidByText := true, laidKinds := [.data, .pinned], laidTests := true, laidLooks := .later }
def FnUniteMadeCardSaid : Prop := Claim7.holds Tryz.pinned (.plain (OpenSpec.ofChange fnUniteMadeSpec)) fnUniteMadeCard

/-- THE TIED CARD OF 'laws.FnRepoText'. -/
def fnRepoTextCard : Claim7 := { stood := { row := fnRepoTextRow, standIns := [], harness := (true, "a06713f6636fd81b2bd7ca4b5321a5ca8bdd90fad26f39c39e951bbbbac8771a"), looks := false }, kinds := [], alts := [], laidByText := true, laidKinds := [.data, .pinned], laidTests := true, laidLooks := .later }
def FnRepoTextCardSaid : Prop := Claim7.holds Tryz.pinned (.plain (OpenSpec.ofChange fnRepoTextSpec)) fnRepoTextCard

/-- THE TIED CARD OF 'laws.FnPickUnite'. -/
def fnPickUniteCard : Claim7 := { stood := { row := fnPickUniteRow, standIns := [], harness := (true, "a06713f6636fd81b2bd7ca4b5321a5ca8bdd90fad26f39c39e951bbbbac8771a"), looks := false }, kinds := [], alts := [], laidByText := true, laidKinds := [.data, .pinned], laidTests := true, laidLooks := .later }
def FnPickUniteCardSaid : Prop := Claim7.holds Tryz.pinned (.plain (OpenSpec.ofChange fnPickUniteSpec)) fnPickUniteCard

/-- THE TIED CARD OF 'laws.FnPickOnto'. -/
def fnPickOntoCard : Claim7 := { stood := { row := fnPickOntoRow, standIns := [], harness := (true, "a06713f6636fd81b2bd7ca4b5321a5ca8bdd90fad26f39c39e951bbbbac8771a"), looks := false }, kinds := [], alts := [], laidByText := true, laidKinds := [.data, .pinned], laidTests := true, laidLooks := .later }
def FnPickOntoCardSaid : Prop := Claim7.holds Tryz.pinned (.plain (OpenSpec.ofChange fnPickOntoSpec)) fnPickOntoCard

/-- THE SECOND FORM's CARD OF 'laws.FnStatOf'. -/
def fnStatOfUptoCard : Claim7 := { stood := { row := fnStatOfUptoRow, standIns := [], harness := (true, "a06713f6636fd81b2bd7ca4b5321a5ca8bdd90fad26f39c39e951bbbbac8771a"), looks := false }, kinds := [], alts := [], laidByText := true, laidKinds := [.data, .pinned], laidTests := true, laidLooks := .later }
def FnStatOfUptoCardSaid : Prop := Claim7.holds Tryz.pinned (.plain (OpenSpec.upto fnStatOfSpec)) fnStatOfUptoCard

/-- THE SECOND FORM's CARD OF 'laws.FnQueueLeft'. -/
def fnQueueLeftUptoCard : Claim7 := { stood := { row := fnQueueLeftUptoRow, standIns := [], harness := (true, "a06713f6636fd81b2bd7ca4b5321a5ca8bdd90fad26f39c39e951bbbbac8771a"), looks := false }, kinds := [], alts := [], laidByText := true, laidKinds := [.data, .pinned], laidTests := true, laidLooks := .later }
def FnQueueLeftUptoCardSaid : Prop := Claim7.holds Tryz.pinned (.plain (OpenSpec.upto fnQueueLeftSpec)) fnQueueLeftUptoCard

/-- THE SECOND FORM's CARD OF 'laws.FnExactQueueLeft'. -/
def fnExactQueueLeftUptoCard : Claim7 := { stood := { row := fnExactQueueLeftUptoRow, standIns := [], harness := (true, "a06713f6636fd81b2bd7ca4b5321a5ca8bdd90fad26f39c39e951bbbbac8771a"), looks := false }, kinds := [], alts := [], laidByText := true, laidKinds := [.data, .pinned], laidTests := true, laidLooks := .later }
def FnExactQueueLeftUptoCardSaid : Prop := Claim7.holds Tryz.pinned (.plain (OpenSpec.upto fnExactQueueLeftSpec)) fnExactQueueLeftUptoCard

/-- THE SECOND FORM's CARD OF 'laws.FnUniteInto'. -/
def fnUniteIntoUptoCard : Claim7 := { stood := { row := fnUniteIntoUptoRow, standIns := [], harness := (true, "a06713f6636fd81b2bd7ca4b5321a5ca8bdd90fad26f39c39e951bbbbac8771a"), looks := false }, kinds := [], alts := [], laidByText := true, laidKinds := [.data, .pinned], laidTests := true, laidLooks := .later }
def FnUniteIntoUptoCardSaid : Prop := Claim7.holds Tryz.pinned (.plain (OpenSpec.upto fnUniteIntoSpec)) fnUniteIntoUptoCard

/-- THE SECOND FORM's CARD OF 'laws.FnUniteMade'. -/
def fnUniteMadeUptoCard : Claim7 := { stood := { row := fnUniteMadeUptoRow, standIns := [], harness := (true, "a06713f6636fd81b2bd7ca4b5321a5ca8bdd90fad26f39c39e951bbbbac8771a"), looks := false }, kinds := [], alts := [], laidByText := true, laidKinds := [.data, .pinned], laidTests := true, laidLooks := .later }
def FnUniteMadeUptoCardSaid : Prop := Claim7.holds Tryz.pinned (.plain (OpenSpec.upto fnUniteMadeSpec)) fnUniteMadeUptoCard

/-- THE SECOND FORM's CARD OF 'laws.FnRepoText'. -/
def fnRepoTextUptoCard : Claim7 := { stood := { row := fnRepoTextUptoRow, standIns := [], harness := (true, "a06713f6636fd81b2bd7ca4b5321a5ca8bdd90fad26f39c39e951bbbbac8771a"), looks := false }, kinds := [], alts := [], laidByText := true, laidKinds := [.data, .pinned], laidTests := true, laidLooks := .later }
def FnRepoTextUptoCardSaid : Prop := Claim7.holds Tryz.pinned (.plain (OpenSpec.upto fnRepoTextSpec)) fnRepoTextUptoCard

/-- THE SECOND FORM's CARD OF 'laws.FnPickUnite'. -/
def fnPickUniteUptoCard : Claim7 := { stood := { row := fnPickUniteUptoRow, standIns := [], harness := (true, "a06713f6636fd81b2bd7ca4b5321a5ca8bdd90fad26f39c39e951bbbbac8771a"), looks := false }, kinds := [], alts := [], laidByText := true, laidKinds := [.data, .pinned], laidTests := true, laidLooks := .later }
def FnPickUniteUptoCardSaid : Prop := Claim7.holds Tryz.pinned (.plain (OpenSpec.upto fnPickUniteSpec)) fnPickUniteUptoCard

/-- THE SECOND FORM's CARD OF 'laws.FnPickOnto'. -/
def fnPickOntoUptoCard : Claim7 := { stood := { row := fnPickOntoUptoRow, standIns := [], harness := (true, "a06713f6636fd81b2bd7ca4b5321a5ca8bdd90fad26f39c39e951bbbbac8771a"), looks := false }, kinds := [], alts := [], laidByText := true, laidKinds := [.data, .pinned], laidTests := true, laidLooks := .later }
def FnPickOntoUptoCardSaid : Prop := Claim7.holds Tryz.pinned (.plain (OpenSpec.upto fnPickOntoSpec)) fnPickOntoUptoCard
end Rows
end Go.Proofs.YtokdjnbcdokpjaaGreatDoor
