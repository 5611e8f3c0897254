/-
  DERIVED. GIVEN WITH THE SEED: THE CARDS: each row of YthmhaggmcfemnaaGreatDoorRows.lean that lists a variable, with what it lists TIED to the program's text (the seventh form; the later family's looks); each row that meets fmt, with fmt's text TOLD by the authors' own Lean function (tested against real Go, not proved from fmt's source: count such statements apart). THE CARD IS WHAT COUNTS. Prove the row's statement (the work); the ties are given (YthmhaggmcfemnaaGreatDoorTie.lean); close each card by the builder's one call (the guide's Derived/Test/ToyasCard.lean, 'card_holds'). Laid BY PROGRAM, IN A SANDBOX (cutbox-door.mjs). By AI agents, Wed Nov 11 2026. No macro, syntax, notation, axiom, sorry.
-/
import Derived.Test.YthmhaggmcfemnaaGreatDoorRows
import GoSem.ClaimSeven
namespace Go.Proofs.YthmhaggmcfemnaaGreatDoor
namespace Rows

/-- THE TIED CARD OF 'laws.FnSeekAll'. -/
def fnSeekAllCard : Claim7 := { stood := { row := fnSeekAllRow, standIns := [], harness := (true, "de4043eedf466843d696034660e2006148ff3a9ea8fbbd9151e9d5476362e398"), looks := true }, kinds := [], alts := [], laidByText := true, laidKinds := [.data, .pinned], laidTests := true, laidLooks := .later }
def FnSeekAllCardSaid : Prop := Claim7.holds Tryz.pinned (.plain (OpenSpec.ofChange fnSeekAllSpec)) fnSeekAllCard

/-- THE TIED CARD OF 'laws.FnMarkNear'. -/
def fnMarkNearCard : Claim7 := { stood := { row := fnMarkNearRow, standIns := [], harness := (true, "de4043eedf466843d696034660e2006148ff3a9ea8fbbd9151e9d5476362e398"), looks := true }, kinds := [], alts := [], laidByText := true, laidKinds := [.data, .pinned], laidTests := true, laidLooks := .later }
def FnMarkNearCardSaid : Prop := Claim7.holds Tryz.pinned (.plain (OpenSpec.ofChange fnMarkNearSpec)) fnMarkNearCard

/-- THE TIED CARD OF 'laws.FnSeekSince'. -/
def fnSeekSinceCard : Claim7 := { stood := { row := fnSeekSinceRow, standIns := [], harness := (true, "de4043eedf466843d696034660e2006148ff3a9ea8fbbd9151e9d5476362e398"), looks := true }, kinds := [], alts := [], laidByText := true, laidKinds := [.data, .pinned], laidTests := true, laidLooks := .later }
def FnSeekSinceCardSaid : Prop := Claim7.holds Tryz.pinned (.plain (OpenSpec.ofChange fnSeekSinceSpec)) fnSeekSinceCard

/-- THE TIED CARD OF 'laws.FnMarkPut'. -/
def fnMarkPutCard : Claim7 := { stood := { row := fnMarkPutRow, standIns := [], harness := (true, "de4043eedf466843d696034660e2006148ff3a9ea8fbbd9151e9d5476362e398"), looks := true }, kinds := [], alts := [], laidByText := true, laidKinds := [.data, .pinned], laidTests := true, laidLooks := .later }
def FnMarkPutCardSaid : Prop := Claim7.holds Tryz.pinned (.plain (OpenSpec.ofChange fnMarkPutSpec)) fnMarkPutCard

/-- THE TIED CARD OF 'laws.FnExactRepoRead'. -/
def fnExactRepoReadCard : Claim7 := { stood := { row := fnExactRepoReadRow, standIns := [], harness := (true, "de4043eedf466843d696034660e2006148ff3a9ea8fbbd9151e9d5476362e398"), looks := true }, kinds := [], alts := [], laidByText := true, laidKinds := [.data, .data, .data, .data, .sentinel, .sentinel, .pinned], laidTests := true, laidLooks := .later }
def FnExactRepoReadCardSaid : Prop := Claim7.holds Tryz.pinned (.plain (OpenSpec.ofChange fnExactRepoReadSpec)) fnExactRepoReadCard

/-- THE TIED CARD OF 'laws.FnRepoPut'. -/
def fnRepoPutCard : Claim7 := { stood := { row := fnRepoPutRow, standIns := [], harness := (true, "de4043eedf466843d696034660e2006148ff3a9ea8fbbd9151e9d5476362e398"), looks := true }, kinds := [], alts := [], laidByText := true, laidKinds := [.data, .data, .data, .data, .sentinel, .sentinel, .pinned], laidTests := true, laidLooks := .later }
def FnRepoPutCardSaid : Prop := Claim7.holds Tryz.pinned (.plain (OpenSpec.ofChange fnRepoPutSpec)) fnRepoPutCard

/-- THE TIED CARD OF 'laws.FnRepoRead'. -/
def fnRepoReadCard : Claim7 := { stood := { row := fnRepoReadRow, standIns := [], harness := (true, "de4043eedf466843d696034660e2006148ff3a9ea8fbbd9151e9d5476362e398"), looks := true }, kinds := [], alts := [], laidByText := true, laidKinds := [.data, .data, .data, .data, .sentinel, .sentinel, .pinned], laidTests := true, laidLooks := .later }
def FnRepoReadCardSaid : Prop := Claim7.holds Tryz.pinned (.plain (OpenSpec.ofChange fnRepoReadSpec)) fnRepoReadCard

/-- THE SECOND FORM's CARD OF 'laws.FnSeekAll'. -/
def fnSeekAllUptoCard : Claim7 := { stood := { row := fnSeekAllUptoRow, standIns := [], harness := (true, "de4043eedf466843d696034660e2006148ff3a9ea8fbbd9151e9d5476362e398"), looks := true }, kinds := [], alts := [], laidByText := true, laidKinds := [.data, .pinned], laidTests := true, laidLooks := .later }
def FnSeekAllUptoCardSaid : Prop := Claim7.holds Tryz.pinned (.plain (OpenSpec.upto fnSeekAllSpec)) fnSeekAllUptoCard

/-- THE SECOND FORM's CARD OF 'laws.FnMarkNear'. -/
def fnMarkNearUptoCard : Claim7 := { stood := { row := fnMarkNearUptoRow, standIns := [], harness := (true, "de4043eedf466843d696034660e2006148ff3a9ea8fbbd9151e9d5476362e398"), looks := true }, kinds := [], alts := [], laidByText := true, laidKinds := [.data, .pinned], laidTests := true, laidLooks := .later }
def FnMarkNearUptoCardSaid : Prop := Claim7.holds Tryz.pinned (.plain (OpenSpec.upto fnMarkNearSpec)) fnMarkNearUptoCard

/-- THE SECOND FORM's CARD OF 'laws.FnSeekSince'. -/
def fnSeekSinceUptoCard : Claim7 := { stood := { row := fnSeekSinceUptoRow, standIns := [], harness := (true, "de4043eedf466843d696034660e2006148ff3a9ea8fbbd9151e9d5476362e398"), looks := true }, kinds := [], alts := [], laidByText := true, laidKinds := [.data, .pinned], laidTests := true, laidLooks := .later }
def FnSeekSinceUptoCardSaid : Prop := Claim7.holds Tryz.pinned (.plain (OpenSpec.upto fnSeekSinceSpec)) fnSeekSinceUptoCard

/-- THE SECOND FORM's CARD OF 'laws.FnMarkPut'. -/
def fnMarkPutUptoCard : Claim7 := { stood := { row := fnMarkPutUptoRow, standIns := [], harness := (true, "de4043eedf466843d696034660e2006148ff3a9ea8fbbd9151e9d5476362e398"), looks := true }, kinds := [], alts := [], laidByText := true, laidKinds := [.data, .pinned], laidTests := true, laidLooks := .later }
def FnMarkPutUptoCardSaid : Prop := Claim7.holds Tryz.pinned (.plain (OpenSpec.upto fnMarkPutSpec)) fnMarkPutUptoCard

/-- THE SECOND FORM's CARD OF 'laws.FnExactRepoRead'. -/
def fnExactRepoReadUptoCard : Claim7 := { stood := { row := fnExactRepoReadUptoRow, standIns := [], harness := (true, "de4043eedf466843d696034660e2006148ff3a9ea8fbbd9151e9d5476362e398"), looks := true }, kinds := [], alts := [], laidByText := true, laidKinds := [.data, .data, .data, .data, .sentinel, .sentinel, .pinned], laidTests := true, laidLooks := .later }
def FnExactRepoReadUptoCardSaid : Prop := Claim7.holds Tryz.pinned (.plain (OpenSpec.upto fnExactRepoReadSpec)) fnExactRepoReadUptoCard

/-- THE SECOND FORM's CARD OF 'laws.FnRepoPut'. -/
def fnRepoPutUptoCard : Claim7 := { stood := { row := fnRepoPutUptoRow, standIns := [], harness := (true, "de4043eedf466843d696034660e2006148ff3a9ea8fbbd9151e9d5476362e398"), looks := true }, kinds := [], alts := [], laidByText := true, laidKinds := [.data, .data, .data, .data, .sentinel, .sentinel, .pinned], laidTests := true, laidLooks := .later }
def FnRepoPutUptoCardSaid : Prop := Claim7.holds Tryz.pinned (.plain (OpenSpec.upto fnRepoPutSpec)) fnRepoPutUptoCard

/-- THE SECOND FORM's CARD OF 'laws.FnRepoRead'. -/
def fnRepoReadUptoCard : Claim7 := { stood := { row := fnRepoReadUptoRow, standIns := [], harness := (true, "de4043eedf466843d696034660e2006148ff3a9ea8fbbd9151e9d5476362e398"), looks := true }, kinds := [], alts := [], laidByText := true, laidKinds := [.data, .data, .data, .data, .sentinel, .sentinel, .pinned], laidTests := true, laidLooks := .later }
def FnRepoReadUptoCardSaid : Prop := Claim7.holds Tryz.pinned (.plain (OpenSpec.upto fnRepoReadSpec)) fnRepoReadUptoCard
end Rows
end Go.Proofs.YthmhaggmcfemnaaGreatDoor
