/-
  DERIVED. GIVEN WITH THE SEED: THE CARDS: each row of YtnmmlcjnjnooaaaGreatDoorRows.lean that lists a variable, with what it lists TIED to the program's text (the seventh form; the later family's looks); each row that meets fmt, with fmt's text TOLD by the authors' own Lean function (tested against real Go, not proved from fmt's source: count such statements apart). THE CARD IS WHAT COUNTS. Prove the row's statement (the work); the ties are given (YtnmmlcjnjnooaaaGreatDoorTie.lean); close each card by the builder's one call (the guide's Derived/Test/ToyasCard.lean, 'card_holds'). Laid BY PROGRAM, IN A SANDBOX (cutbox-door.mjs). By AI agents, Wed Nov 11 2026. No macro, syntax, notation, axiom, sorry.
-/
import Derived.Test.YtnmmlcjnjnooaaaGreatDoorRows
import GoSem.ClaimSeven
namespace Go.Proofs.YtnmmlcjnjnooaaaGreatDoor
namespace Rows

/-- THE TIED CARD OF 'laws.FnSeekAll'. -/
def fnSeekAllCard : Claim7 := { stood := { row := fnSeekAllRow, standIns := [], harness := (true, "c07d103f8eec316b2fa38b870457f2668d29b6bcc1669b0123ed84f782e5723e"), looks := true }, kinds := [], alts := [], laidByText := true, laidKinds := [.data, .pinned], laidTests := true, laidLooks := .later }
def FnSeekAllCardSaid : Prop := Claim7.holds Tryz.pinned (.plain (OpenSpec.ofChange fnSeekAllSpec)) fnSeekAllCard

/-- THE TIED CARD OF 'laws.FnMarkNear'. -/
def fnMarkNearCard : Claim7 := { stood := { row := fnMarkNearRow, standIns := [], harness := (true, "c07d103f8eec316b2fa38b870457f2668d29b6bcc1669b0123ed84f782e5723e"), looks := true }, kinds := [], alts := [], laidByText := true, laidKinds := [.data, .pinned], laidTests := true, laidLooks := .later }
def FnMarkNearCardSaid : Prop := Claim7.holds Tryz.pinned (.plain (OpenSpec.ofChange fnMarkNearSpec)) fnMarkNearCard

/-- THE TIED CARD OF 'laws.FnExactStatOf'. -/
def fnExactStatOfCard : Claim7 := { stood := { row := fnExactStatOfRow, standIns := [], harness := (true, "c07d103f8eec316b2fa38b870457f2668d29b6bcc1669b0123ed84f782e5723e"), looks := true }, kinds := [], alts := [], laidByText := true, laidKinds := [.data, .pinned], laidTests := true, laidLooks := .later }
def FnExactStatOfCardSaid : Prop := Claim7.holds Tryz.pinned (.plain (OpenSpec.ofChange fnExactStatOfSpec)) fnExactStatOfCard

/-- THE TIED CARD OF 'laws.FnSeekSince'. -/
def fnSeekSinceCard : Claim7 := { stood := { row := fnSeekSinceRow, standIns := [], harness := (true, "c07d103f8eec316b2fa38b870457f2668d29b6bcc1669b0123ed84f782e5723e"), looks := true }, kinds := [], alts := [], laidByText := true, laidKinds := [.data, .pinned], laidTests := true, laidLooks := .later }
def FnSeekSinceCardSaid : Prop := Claim7.holds Tryz.pinned (.plain (OpenSpec.ofChange fnSeekSinceSpec)) fnSeekSinceCard

/-- THE TIED CARD OF 'laws.FnMarkPut'. -/
def fnMarkPutCard : Claim7 := { stood := { row := fnMarkPutRow, standIns := [], harness := (true, "c07d103f8eec316b2fa38b870457f2668d29b6bcc1669b0123ed84f782e5723e"), looks := true }, kinds := [], alts := [], laidByText := true, laidKinds := [.data, .pinned], laidTests := true, laidLooks := .later }
def FnMarkPutCardSaid : Prop := Claim7.holds Tryz.pinned (.plain (OpenSpec.ofChange fnMarkPutSpec)) fnMarkPutCard

/-- THE TIED CARD OF 'laws.FnStatOf'. -/
def fnStatOfCard : Claim7 := { stood := { row := fnStatOfRow, standIns := [], harness := (true, "c07d103f8eec316b2fa38b870457f2668d29b6bcc1669b0123ed84f782e5723e"), looks := true }, kinds := [], alts := [], laidByText := true, laidKinds := [.data, .pinned], laidTests := true, laidLooks := .later }
def FnStatOfCardSaid : Prop := Claim7.holds Tryz.pinned (.plain (OpenSpec.ofChange fnStatOfSpec)) fnStatOfCard

/-- THE TIED CARD OF 'laws.FnRepoPut'. -/
def fnRepoPutCard : Claim7 := { stood := { row := fnRepoPutRow, standIns := [], harness := (true, "c07d103f8eec316b2fa38b870457f2668d29b6bcc1669b0123ed84f782e5723e"), looks := true }, kinds := [], alts := [], laidByText := true, laidKinds := [.data, .data, .data, .data, .sentinel, .sentinel, .pinned], laidTests := true, laidLooks := .later }
def FnRepoPutCardSaid : Prop := Claim7.holds Tryz.pinned (.plain (OpenSpec.ofChange fnRepoPutSpec)) fnRepoPutCard

/-- THE TIED CARD OF 'laws.FnRepoRead'. -/
def fnRepoReadCard : Claim7 := { stood := { row := fnRepoReadRow, standIns := [], harness := (true, "c07d103f8eec316b2fa38b870457f2668d29b6bcc1669b0123ed84f782e5723e"), looks := true }, kinds := [], alts := [], laidByText := true, laidKinds := [.data, .data, .data, .data, .sentinel, .sentinel, .pinned], laidTests := true, laidLooks := .later }
def FnRepoReadCardSaid : Prop := Claim7.holds Tryz.pinned (.plain (OpenSpec.ofChange fnRepoReadSpec)) fnRepoReadCard

/-- THE TIED CARD OF 'laws.FnReviewNeed'. -/
def fnReviewNeedCard : Claim7 := { stood := { row := fnReviewNeedRow, standIns := [], harness := (true, "c07d103f8eec316b2fa38b870457f2668d29b6bcc1669b0123ed84f782e5723e"), looks := true }, kinds := [], alts := [], laidByText := true, laidKinds := [.data, .pinned], laidTests := true, laidLooks := .later }
def FnReviewNeedCardSaid : Prop := Claim7.holds Tryz.pinned (.plain (OpenSpec.ofChange fnReviewNeedSpec)) fnReviewNeedCard

/-- THE TIED CARD OF 'laws.FnUniteTwice'. -/
def fnUniteTwiceCard : Claim7 := { stood := { row := fnUniteTwiceRow, standIns := [], harness := (true, "c07d103f8eec316b2fa38b870457f2668d29b6bcc1669b0123ed84f782e5723e"), looks := true }, kinds := [], alts := [], laidByText := true, laidKinds := [.data, .pinned], laidTests := true, laidLooks := .later }
def FnUniteTwiceCardSaid : Prop := Claim7.holds Tryz.pinned (.plain (OpenSpec.ofChange fnUniteTwiceSpec)) fnUniteTwiceCard

/-- THE TIED CARD OF 'laws.FnQueueLeft'. -/
def fnQueueLeftCard : Claim7 := { stood := { row := fnQueueLeftRow, standIns := [], harness := (true, "c07d103f8eec316b2fa38b870457f2668d29b6bcc1669b0123ed84f782e5723e"), looks := true }, kinds := [], alts := [], laidByText := true, laidKinds := [.data, .pinned], laidTests := true, laidLooks := .later }
def FnQueueLeftCardSaid : Prop := Claim7.holds Tryz.pinned (.plain (OpenSpec.ofChange fnQueueLeftSpec)) fnQueueLeftCard

/-- THE TIED CARD OF 'laws.FnExactQueueLeft'. -/
def fnExactQueueLeftCard : Claim7 := { stood := { row := fnExactQueueLeftRow, standIns := [], harness := (true, "c07d103f8eec316b2fa38b870457f2668d29b6bcc1669b0123ed84f782e5723e"), looks := true }, kinds := [], alts := [], laidByText := true, laidKinds := [.data, .pinned], laidTests := true, laidLooks := .later }
def FnExactQueueLeftCardSaid : Prop := Claim7.holds Tryz.pinned (.plain (OpenSpec.ofChange fnExactQueueLeftSpec)) fnExactQueueLeftCard

/-- THE SECOND FORM's CARD OF 'laws.FnSeekAll'. -/
def fnSeekAllUptoCard : Claim7 := { stood := { row := fnSeekAllUptoRow, standIns := [], harness := (true, "c07d103f8eec316b2fa38b870457f2668d29b6bcc1669b0123ed84f782e5723e"), looks := true }, kinds := [], alts := [], laidByText := true, laidKinds := [.data, .pinned], laidTests := true, laidLooks := .later }
def FnSeekAllUptoCardSaid : Prop := Claim7.holds Tryz.pinned (.plain (OpenSpec.upto fnSeekAllSpec)) fnSeekAllUptoCard

/-- THE SECOND FORM's CARD OF 'laws.FnMarkNear'. -/
def fnMarkNearUptoCard : Claim7 := { stood := { row := fnMarkNearUptoRow, standIns := [], harness := (true, "c07d103f8eec316b2fa38b870457f2668d29b6bcc1669b0123ed84f782e5723e"), looks := true }, kinds := [], alts := [], laidByText := true, laidKinds := [.data, .pinned], laidTests := true, laidLooks := .later }
def FnMarkNearUptoCardSaid : Prop := Claim7.holds Tryz.pinned (.plain (OpenSpec.upto fnMarkNearSpec)) fnMarkNearUptoCard

/-- THE SECOND FORM's CARD OF 'laws.FnExactStatOf'. -/
def fnExactStatOfUptoCard : Claim7 := { stood := { row := fnExactStatOfUptoRow, standIns := [], harness := (true, "c07d103f8eec316b2fa38b870457f2668d29b6bcc1669b0123ed84f782e5723e"), looks := true }, kinds := [], alts := [], laidByText := true, laidKinds := [.data, .pinned], laidTests := true, laidLooks := .later }
def FnExactStatOfUptoCardSaid : Prop := Claim7.holds Tryz.pinned (.plain (OpenSpec.upto fnExactStatOfSpec)) fnExactStatOfUptoCard

/-- THE SECOND FORM's CARD OF 'laws.FnSeekSince'. -/
def fnSeekSinceUptoCard : Claim7 := { stood := { row := fnSeekSinceUptoRow, standIns := [], harness := (true, "c07d103f8eec316b2fa38b870457f2668d29b6bcc1669b0123ed84f782e5723e"), looks := true }, kinds := [], alts := [], laidByText := true, laidKinds := [.data, .pinned], laidTests := true, laidLooks := .later }
def FnSeekSinceUptoCardSaid : Prop := Claim7.holds Tryz.pinned (.plain (OpenSpec.upto fnSeekSinceSpec)) fnSeekSinceUptoCard

/-- THE SECOND FORM's CARD OF 'laws.FnMarkPut'. -/
def fnMarkPutUptoCard : Claim7 := { stood := { row := fnMarkPutUptoRow, standIns := [], harness := (true, "c07d103f8eec316b2fa38b870457f2668d29b6bcc1669b0123ed84f782e5723e"), looks := true }, kinds := [], alts := [], laidByText := true, laidKinds := [.data, .pinned], laidTests := true, laidLooks := .later }
def FnMarkPutUptoCardSaid : Prop := Claim7.holds Tryz.pinned (.plain (OpenSpec.upto fnMarkPutSpec)) fnMarkPutUptoCard

/-- THE SECOND FORM's CARD OF 'laws.FnStatOf'. -/
def fnStatOfUptoCard : Claim7 := { stood := { row := fnStatOfUptoRow, standIns := [], harness := (true, "c07d103f8eec316b2fa38b870457f2668d29b6bcc1669b0123ed84f782e5723e"), looks := true }, kinds := [], alts := [], laidByText := true, laidKinds := [.data, .pinned], laidTests := true, laidLooks := .later }
def FnStatOfUptoCardSaid : Prop := Claim7.holds Tryz.pinned (.plain (OpenSpec.upto fnStatOfSpec)) fnStatOfUptoCard

/-- THE SECOND FORM's CARD OF 'laws.FnRepoPut'. -/
def fnRepoPutUptoCard : Claim7 := { stood := { row := fnRepoPutUptoRow, standIns := [], harness := (true, "c07d103f8eec316b2fa38b870457f2668d29b6bcc1669b0123ed84f782e5723e"), looks := true }, kinds := [], alts := [], laidByText := true, laidKinds := [.data, .data, .data, .data, .sentinel, .sentinel, .pinned], laidTests := true, laidLooks := .later }
def FnRepoPutUptoCardSaid : Prop := Claim7.holds Tryz.pinned (.plain (OpenSpec.upto fnRepoPutSpec)) fnRepoPutUptoCard

/-- THE SECOND FORM's CARD OF 'laws.FnRepoRead'. -/
def fnRepoReadUptoCard : Claim7 := { stood := { row := fnRepoReadUptoRow, standIns := [], harness := (true, "c07d103f8eec316b2fa38b870457f2668d29b6bcc1669b0123ed84f782e5723e"), looks := true }, kinds := [], alts := [], laidByText := true, laidKinds := [.data, .data, .data, .data, .sentinel, .sentinel, .pinned], laidTests := true, laidLooks := .later }
def FnRepoReadUptoCardSaid : Prop := Claim7.holds Tryz.pinned (.plain (OpenSpec.upto fnRepoReadSpec)) fnRepoReadUptoCard

/-- THE SECOND FORM's CARD OF 'laws.FnReviewNeed'. -/
def fnReviewNeedUptoCard : Claim7 := { stood := { row := fnReviewNeedUptoRow, standIns := [], harness := (true, "c07d103f8eec316b2fa38b870457f2668d29b6bcc1669b0123ed84f782e5723e"), looks := true }, kinds := [], alts := [], laidByText := true, laidKinds := [.data, .pinned], laidTests := true, laidLooks := .later }
def FnReviewNeedUptoCardSaid : Prop := Claim7.holds Tryz.pinned (.plain (OpenSpec.upto fnReviewNeedSpec)) fnReviewNeedUptoCard

/-- THE SECOND FORM's CARD OF 'laws.FnUniteTwice'. -/
def fnUniteTwiceUptoCard : Claim7 := { stood := { row := fnUniteTwiceUptoRow, standIns := [], harness := (true, "c07d103f8eec316b2fa38b870457f2668d29b6bcc1669b0123ed84f782e5723e"), looks := true }, kinds := [], alts := [], laidByText := true, laidKinds := [.data, .pinned], laidTests := true, laidLooks := .later }
def FnUniteTwiceUptoCardSaid : Prop := Claim7.holds Tryz.pinned (.plain (OpenSpec.upto fnUniteTwiceSpec)) fnUniteTwiceUptoCard

/-- THE SECOND FORM's CARD OF 'laws.FnQueueLeft'. -/
def fnQueueLeftUptoCard : Claim7 := { stood := { row := fnQueueLeftUptoRow, standIns := [], harness := (true, "c07d103f8eec316b2fa38b870457f2668d29b6bcc1669b0123ed84f782e5723e"), looks := true }, kinds := [], alts := [], laidByText := true, laidKinds := [.data, .pinned], laidTests := true, laidLooks := .later }
def FnQueueLeftUptoCardSaid : Prop := Claim7.holds Tryz.pinned (.plain (OpenSpec.upto fnQueueLeftSpec)) fnQueueLeftUptoCard

/-- THE SECOND FORM's CARD OF 'laws.FnExactQueueLeft'. -/
def fnExactQueueLeftUptoCard : Claim7 := { stood := { row := fnExactQueueLeftUptoRow, standIns := [], harness := (true, "c07d103f8eec316b2fa38b870457f2668d29b6bcc1669b0123ed84f782e5723e"), looks := true }, kinds := [], alts := [], laidByText := true, laidKinds := [.data, .pinned], laidTests := true, laidLooks := .later }
def FnExactQueueLeftUptoCardSaid : Prop := Claim7.holds Tryz.pinned (.plain (OpenSpec.upto fnExactQueueLeftSpec)) fnExactQueueLeftUptoCard
end Rows
end Go.Proofs.YtnmmlcjnjnooaaaGreatDoor
