/-
  DERIVED. GIVEN WITH THE SEED: THE CARDS: each row of YtnanellmaelipaaGreatDoorRows.lean that lists a variable, with what it lists TIED to the program's text (the seventh form; the later family's looks); each row that meets fmt, with fmt's text TOLD by the authors' own Lean function (tested against real Go, not proved from fmt's source: count such statements apart). THE CARD IS WHAT COUNTS. Prove the row's statement (the work); the ties are given (YtnanellmaelipaaGreatDoorTie.lean); close each card by the builder's one call (the guide's Derived/Test/ToyasCard.lean, 'card_holds'). Laid BY PROGRAM, IN A SANDBOX (cutbox-door.mjs). By AI agents, Wed Nov 11 2026. No macro, syntax, notation, axiom, sorry.
-/
import Derived.Test.YtnanellmaelipaaGreatDoorRows
import GoSem.ClaimSeven
namespace Go.Proofs.YtnanellmaelipaaGreatDoor
namespace Rows

/-- THE TIED CARD OF 'laws.FnMarkNear'. -/
def fnMarkNearCard : Claim7 := { stood := { row := fnMarkNearRow, standIns := [], harness := (true, "8061bdb295eb694416af30361d91de58efdb099882aab65f08d2284b1f2c935c"), looks := false }, kinds := [], alts := [], laidByText := true, laidKinds := [.data, .pinned], laidTests := true, laidLooks := .later }
def FnMarkNearCardSaid : Prop := Claim7.holds Tryz.pinned (.plain (OpenSpec.ofChange fnMarkNearSpec)) fnMarkNearCard

/-- THE TIED CARD OF 'laws.FnSeekSince'. -/
def fnSeekSinceCard : Claim7 := { stood := { row := fnSeekSinceRow, standIns := [], harness := (true, "8061bdb295eb694416af30361d91de58efdb099882aab65f08d2284b1f2c935c"), looks := false }, kinds := [], alts := [], laidByText := true, laidKinds := [.data, .pinned], laidTests := true, laidLooks := .later }
def FnSeekSinceCardSaid : Prop := Claim7.holds Tryz.pinned (.plain (OpenSpec.ofChange fnSeekSinceSpec)) fnSeekSinceCard

/-- THE TIED CARD OF 'laws.FnMarkPut'. -/
def fnMarkPutCard : Claim7 := { stood := { row := fnMarkPutRow, standIns := [], harness := (true, "8061bdb295eb694416af30361d91de58efdb099882aab65f08d2284b1f2c935c"), looks := false }, kinds := [], alts := [], laidByText := true, laidKinds := [.data, .pinned], laidTests := true, laidLooks := .later }
def FnMarkPutCardSaid : Prop := Claim7.holds Tryz.pinned (.plain (OpenSpec.ofChange fnMarkPutSpec)) fnMarkPutCard

/-- THE TIED CARD OF 'laws.FnStatOf'. -/
def fnStatOfCard : Claim7 := { stood := { row := fnStatOfRow, standIns := [], harness := (true, "8061bdb295eb694416af30361d91de58efdb099882aab65f08d2284b1f2c935c"), looks := false }, kinds := [], alts := [], laidByText := true, laidKinds := [.data, .pinned], laidTests := true, laidLooks := .later }
def FnStatOfCardSaid : Prop := Claim7.holds Tryz.pinned (.plain (OpenSpec.ofChange fnStatOfSpec)) fnStatOfCard

/-- THE TIED CARD OF 'laws.FnReviewNeed'. -/
def fnReviewNeedCard : Claim7 := { stood := { row := fnReviewNeedRow, standIns := [], harness := (true, "8061bdb295eb694416af30361d91de58efdb099882aab65f08d2284b1f2c935c"), looks := false }, kinds := [], alts := [], laidByText := true, laidKinds := [.data, .pinned], laidTests := true, laidLooks := .later }
def FnReviewNeedCardSaid : Prop := Claim7.holds Tryz.pinned (.plain (OpenSpec.ofChange fnReviewNeedSpec)) fnReviewNeedCard

/-- THE TIED CARD OF 'laws.FnUniteTwice'. -/
def fnUniteTwiceCard : Claim7 := { stood := { row := fnUniteTwiceRow, standIns := [], harness := (true, "8061bdb295eb694416af30361d91de58efdb099882aab65f08d2284b1f2c935c"), looks := false }, kinds := [], alts := [], laidByText := true, laidKinds := [.data, .pinned], laidTests := true, laidLooks := .later }
def FnUniteTwiceCardSaid : Prop := Claim7.holds Tryz.pinned (.plain (OpenSpec.ofChange fnUniteTwiceSpec)) fnUniteTwiceCard

/-- THE TIED CARD OF 'laws.FnQueueLeft'. -/
def fnQueueLeftCard : Claim7 := { stood := { row := fnQueueLeftRow, standIns := [], harness := (true, "8061bdb295eb694416af30361d91de58efdb099882aab65f08d2284b1f2c935c"), looks := false }, kinds := [], alts := [], laidByText := true, laidKinds := [.data, .pinned], laidTests := true, laidLooks := .later }
def FnQueueLeftCardSaid : Prop := Claim7.holds Tryz.pinned (.plain (OpenSpec.ofChange fnQueueLeftSpec)) fnQueueLeftCard

/-- THE TIED CARD OF 'laws.FnExactQueueLeft'. -/
def fnExactQueueLeftCard : Claim7 := { stood := { row := fnExactQueueLeftRow, standIns := [], harness := (true, "8061bdb295eb694416af30361d91de58efdb099882aab65f08d2284b1f2c935c"), looks := false }, kinds := [], alts := [], laidByText := true, laidKinds := [.data, .pinned], laidTests := true, laidLooks := .later }
def FnExactQueueLeftCardSaid : Prop := Claim7.holds Tryz.pinned (.plain (OpenSpec.ofChange fnExactQueueLeftSpec)) fnExactQueueLeftCard

/-- THE TIED CARD OF 'laws.FnUniteInto'. -/
def fnUniteIntoCard : Claim7 := { stood := { row := fnUniteIntoRow, standIns := [], harness := (true, "8061bdb295eb694416af30361d91de58efdb099882aab65f08d2284b1f2c935c"), looks := false }, kinds := [], alts := [], laidByText := true, laidKinds := [.data, .pinned], laidTests := true, laidLooks := .later }
def FnUniteIntoCardSaid : Prop := Claim7.holds Tryz.pinned (.plain (OpenSpec.ofChange fnUniteIntoSpec)) fnUniteIntoCard

/-- THE TIED CARD OF 'laws.FnUniteMade'. -/
def fnUniteMadeCard : Claim7 := { stood := { row := fnUniteMadeRow, standIns := [], harness := (true, "8061bdb295eb694416af30361d91de58efdb099882aab65f08d2284b1f2c935c"), looks := false }, kinds := [], alts := [], laidByText := true, laidKinds := [.data, .pinned], laidTests := true, laidLooks := .later }
def FnUniteMadeCardSaid : Prop := Claim7.holds Tryz.pinned (.plain (OpenSpec.ofChange fnUniteMadeSpec)) fnUniteMadeCard

/-- THE TIED CARD OF 'laws.FnExactQueueRun'. -/
def fnExactQueueRunCard : Claim7 := { stood := { row := fnExactQueueRunRow, standIns := [], harness := (true, "8061bdb295eb694416af30361d91de58efdb099882aab65f08d2284b1f2c935c"), looks := false }, kinds := [], alts := [], laidByText := true, laidKinds := [.data, .pinned], laidTests := true, laidLooks := .later }
def FnExactQueueRunCardSaid : Prop := Claim7.holds Tryz.pinned (.plain (OpenSpec.ofChange fnExactQueueRunSpec)) fnExactQueueRunCard

/-- THE TIED CARD OF 'laws.FnQueueRun'. -/
def fnQueueRunCard : Claim7 := { stood := { row := fnQueueRunRow, standIns := [], harness := (true, "8061bdb295eb694416af30361d91de58efdb099882aab65f08d2284b1f2c935c"), looks := false }, kinds := [], alts := [], laidByText := true, laidKinds := [.data, .pinned], laidTests := true, laidLooks := .later }
def FnQueueRunCardSaid : Prop := Claim7.holds Tryz.pinned (.plain (OpenSpec.ofChange fnQueueRunSpec)) fnQueueRunCard

/-- THE SECOND FORM's CARD OF 'laws.FnMarkNear'. -/
def fnMarkNearUptoCard : Claim7 := { stood := { row := fnMarkNearUptoRow, standIns := [], harness := (true, "8061bdb295eb694416af30361d91de58efdb099882aab65f08d2284b1f2c935c"), looks := false }, kinds := [], alts := [], laidByText := true, laidKinds := [.data, .pinned], laidTests := true, laidLooks := .later }
def FnMarkNearUptoCardSaid : Prop := Claim7.holds Tryz.pinned (.plain (OpenSpec.upto fnMarkNearSpec)) fnMarkNearUptoCard

/-- THE SECOND FORM's CARD OF 'laws.FnSeekSince'. -/
def fnSeekSinceUptoCard : Claim7 := { stood := { row := fnSeekSinceUptoRow, standIns := [], harness := (true, "8061bdb295eb694416af30361d91de58efdb099882aab65f08d2284b1f2c935c"), looks := false }, kinds := [], alts := [], laidByText := true, laidKinds := [.data, .pinned], laidTests := true, laidLooks := .later }
def FnSeekSinceUptoCardSaid : Prop := Claim7.holds Tryz.pinned (.plain (OpenSpec.upto fnSeekSinceSpec)) fnSeekSinceUptoCard

/-- THE SECOND FORM's CARD OF 'laws.FnMarkPut'. -/
def fnMarkPutUptoCard : Claim7 := { stood := { row := fnMarkPutUptoRow, standIns := [], harness := (true, "8061bdb295eb694416af30361d91de58efdb099882aab65f08d2284b1f2c935c"), looks := false }, kinds := [], alts := [], laidByText := true, laidKinds := [.data, .pinned], laidTests := true, laidLooks := .later }
def FnMarkPutUptoCardSaid : Prop := Claim7.holds Tryz.pinned (.plain (OpenSpec.upto fnMarkPutSpec)) fnMarkPutUptoCard

/-- THE SECOND FORM's CARD OF 'laws.FnStatOf'. -/
def fnStatOfUptoCard : Claim7 := { stood := { row := fnStatOfUptoRow, standIns := [], harness := (true, "8061bdb295eb694416af30361d91de58efdb099882aab65f08d2284b1f2c935c"), looks := false }, kinds := [], alts := [], laidByText := true, laidKinds := [.data, .pinned], laidTests := true, laidLooks := .later }
def FnStatOfUptoCardSaid : Prop := Claim7.holds Tryz.pinned (.plain (OpenSpec.upto fnStatOfSpec)) fnStatOfUptoCard

/-- THE SECOND FORM's CARD OF 'laws.FnReviewNeed'. -/
def fnReviewNeedUptoCard : Claim7 := { stood := { row := fnReviewNeedUptoRow, standIns := [], harness := (true, "8061bdb295eb694416af30361d91de58efdb099882aab65f08d2284b1f2c935c"), looks := false }, kinds := [], alts := [], laidByText := true, laidKinds := [.data, .pinned], laidTests := true, laidLooks := .later }
def FnReviewNeedUptoCardSaid : Prop := Claim7.holds Tryz.pinned (.plain (OpenSpec.upto fnReviewNeedSpec)) fnReviewNeedUptoCard

/-- THE SECOND FORM's CARD OF 'laws.FnUniteTwice'. -/
def fnUniteTwiceUptoCard : Claim7 := { stood := { row := fnUniteTwiceUptoRow, standIns := [], harness := (true, "8061bdb295eb694416af30361d91de58efdb099882aab65f08d2284b1f2c935c"), looks := false }, kinds := [], alts := [], laidByText := true, laidKinds := [.data, .pinned], laidTests := true, laidLooks := .later }
def FnUniteTwiceUptoCardSaid : Prop := Claim7.holds Tryz.pinned (.plain (OpenSpec.upto fnUniteTwiceSpec)) fnUniteTwiceUptoCard

/-- THE SECOND FORM's CARD OF 'laws.FnQueueLeft'. -/
def fnQueueLeftUptoCard : Claim7 := { stood := { row := fnQueueLeftUptoRow, standIns := [], harness := (true, "8061bdb295eb694416af30361d91de58efdb099882aab65f08d2284b1f2c935c"), looks := false }, kinds := [], alts := [], laidByText := true, laidKinds := [.data, .pinned], laidTests := true, laidLooks := .later }
def FnQueueLeftUptoCardSaid : Prop := Claim7.holds Tryz.pinned (.plain (OpenSpec.upto fnQueueLeftSpec)) fnQueueLeftUptoCard

/-- THE SECOND FORM's CARD OF 'laws.FnExactQueueLeft'. -/
def fnExactQueueLeftUptoCard : Claim7 := { stood := { row := fnExactQueueLeftUptoRow, standIns := [], harness := (true, "8061bdb295eb694416af30361d91de58efdb099882aab65f08d2284b1f2c935c"), looks := false }, kinds := [], alts := [], laidByText := true, laidKinds := [.data, .pinned], laidTests := true, laidLooks := .later }
def FnExactQueueLeftUptoCardSaid : Prop := Claim7.holds Tryz.pinned (.plain (OpenSpec.upto fnExactQueueLeftSpec)) fnExactQueueLeftUptoCard

/-- THE SECOND FORM's CARD OF 'laws.FnUniteInto'. -/
def fnUniteIntoUptoCard : Claim7 := { stood := { row := fnUniteIntoUptoRow, standIns := [], harness := (true, "8061bdb295eb694416af30361d91de58efdb099882aab65f08d2284b1f2c935c"), looks := false }, kinds := [], alts := [], laidByText := true, laidKinds := [.data, .pinned], laidTests := true, laidLooks := .later }
def FnUniteIntoUptoCardSaid : Prop := Claim7.holds Tryz.pinned (.plain (OpenSpec.upto fnUniteIntoSpec)) fnUniteIntoUptoCard

/-- THE SECOND FORM's CARD OF 'laws.FnUniteMade'. -/
def fnUniteMadeUptoCard : Claim7 := { stood := { row := fnUniteMadeUptoRow, standIns := [], harness := (true, "8061bdb295eb694416af30361d91de58efdb099882aab65f08d2284b1f2c935c"), looks := false }, kinds := [], alts := [], laidByText := true, laidKinds := [.data, .pinned], laidTests := true, laidLooks := .later }
def FnUniteMadeUptoCardSaid : Prop := Claim7.holds Tryz.pinned (.plain (OpenSpec.upto fnUniteMadeSpec)) fnUniteMadeUptoCard

/-- THE SECOND FORM's CARD OF 'laws.FnExactQueueRun'. -/
def fnExactQueueRunUptoCard : Claim7 := { stood := { row := fnExactQueueRunUptoRow, standIns := [], harness := (true, "8061bdb295eb694416af30361d91de58efdb099882aab65f08d2284b1f2c935c"), looks := false }, kinds := [], alts := [], laidByText := true, laidKinds := [.data, .pinned], laidTests := true, laidLooks := .later }
def FnExactQueueRunUptoCardSaid : Prop := Claim7.holds Tryz.pinned (.plain (OpenSpec.upto fnExactQueueRunSpec)) fnExactQueueRunUptoCard

/-- THE SECOND FORM's CARD OF 'laws.FnQueueRun'. -/
def fnQueueRunUptoCard : Claim7 := { stood := { row := fnQueueRunUptoRow, standIns := [], harness := (true, "8061bdb295eb694416af30361d91de58efdb099882aab65f08d2284b1f2c935c"), looks := false }, kinds := [], alts := [], laidByText := true, laidKinds := [.data, .pinned], laidTests := true, laidLooks := .later }
def FnQueueRunUptoCardSaid : Prop := Claim7.holds Tryz.pinned (.plain (OpenSpec.upto fnQueueRunSpec)) fnQueueRunUptoCard
end Rows
end Go.Proofs.YtnanellmaelipaaGreatDoor
