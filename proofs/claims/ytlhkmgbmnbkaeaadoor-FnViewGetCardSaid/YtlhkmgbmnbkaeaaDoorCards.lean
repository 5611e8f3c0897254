/-
  DERIVED. GIVEN WITH THE SEED: THE CARDS: each row of YtlhkmgbmnbkaeaaDoorRows.lean that lists a variable, with what it lists TIED to the program's text (the seventh form; the later family's looks); each row that meets fmt, with fmt's text TOLD by the authors' own Lean function (tested against real Go, not proved from fmt's source: count such statements apart). THE CARD IS WHAT COUNTS. Prove the row's statement (the work); the ties are given (YtlhkmgbmnbkaeaaDoorTie.lean); close each card by the builder's one call (the guide's Derived/Test/ToyasCard.lean, 'card_holds'). Laid BY PROGRAM, IN A SANDBOX (cutbox-door.mjs). By AI agents, Wed Nov 11 2026. No macro, syntax, notation, axiom, sorry.
-/
import Derived.Test.YtlhkmgbmnbkaeaaDoorRows
import GoSem.ClaimSeven
namespace Go.Proofs.YtlhkmgbmnbkaeaaDoor
namespace Rows

/-- THE TIED CARD OF 'laws.FnSeekTree'. -/
def fnSeekTreeCard : Claim7 := { stood := { row := fnSeekTreeRow, standIns := [], harness := (true, "ce410c8ebcda4fe269eb5c91247efb65606ccc2bf184ff01e6283bcef50e511a"), looks := false }, kinds := [], alts := [], laidByText := true, laidKinds := [.data, .pinned], laidTests := true, laidLooks := .later }
def FnSeekTreeCardSaid : Prop := Claim7.holds Tryd.pinned (.plain (OpenSpec.ofChange fnSeekTreeSpec)) fnSeekTreeCard

/-- THE TIED CARD OF 'laws.FnExactTreePut'. -/
def fnExactTreePutCard : Claim7 := { stood := { row := fnExactTreePutRow, standIns := [], harness := (true, "ce410c8ebcda4fe269eb5c91247efb65606ccc2bf184ff01e6283bcef50e511a"), looks := false }, kinds := [], alts := [], laidByText := true, laidKinds := [.data, .data, .data, .data, .pinned], laidTests := true, laidLooks := .later }
def FnExactTreePutCardSaid : Prop := Claim7.holds Tryd.pinned (.plain (OpenSpec.ofChange fnExactTreePutSpec)) fnExactTreePutCard

/-- THE TIED CARD OF 'laws.FnViewPut'. -/
def fnViewPutCard : Claim7 := { stood := { row := fnViewPutRow, standIns := [], harness := (true, "ce410c8ebcda4fe269eb5c91247efb65606ccc2bf184ff01e6283bcef50e511a"), looks := false }, kinds := [], alts := [], laidByText := true, laidKinds := [.data, .pinned], laidTests := true, laidLooks := .later }
def FnViewPutCardSaid : Prop := Claim7.holds Tryd.pinned (.plain (OpenSpec.ofChange fnViewPutSpec)) fnViewPutCard

/-- THE TIED CARD OF 'laws.FnViewFree'. -/
def fnViewFreeCard : Claim7 := { stood := { row := fnViewFreeRow, standIns := [], harness := (true, "ce410c8ebcda4fe269eb5c91247efb65606ccc2bf184ff01e6283bcef50e511a"), looks := false }, kinds := [], alts := [], laidByText := true, laidKinds := [.data, .pinned], laidTests := true, laidLooks := .later }
def FnViewFreeCardSaid : Prop := Claim7.holds Tryd.pinned (.plain (OpenSpec.ofChange fnViewFreeSpec)) fnViewFreeCard

/-- THE TIED CARD OF 'laws.FnExactViewPut'. -/
def fnExactViewPutCard : Claim7 := { stood := { row := fnExactViewPutRow, standIns := [], harness := (true, "ce410c8ebcda4fe269eb5c91247efb65606ccc2bf184ff01e6283bcef50e511a"), looks := false }, kinds := [], alts := [], laidByText := true, laidKinds := [.data, .pinned], laidTests := true, laidLooks := .later }
def FnExactViewPutCardSaid : Prop := Claim7.holds Tryd.pinned (.plain (OpenSpec.ofChange fnExactViewPutSpec)) fnExactViewPutCard

/-- THE TIED CARD OF 'laws.FnExactMarkNear'. -/
def fnExactMarkNearCard : Claim7 := { stood := { row := fnExactMarkNearRow, standIns := [], harness := (true, "ce410c8ebcda4fe269eb5c91247efb65606ccc2bf184ff01e6283bcef50e511a"), looks := false }, kinds := [], alts := [], laidByText := true, laidKinds := [.data, .pinned], laidTests := true, laidLooks := .later }
def FnExactMarkNearCardSaid : Prop := Claim7.holds Tryd.pinned (.plain (OpenSpec.ofChange fnExactMarkNearSpec)) fnExactMarkNearCard

/-- THE TIED CARD OF 'laws.FnViewGet'. -/
def fnViewGetCard : Claim7 := { stood := { row := fnViewGetRow, standIns := [], harness := (true, "ce410c8ebcda4fe269eb5c91247efb65606ccc2bf184ff01e6283bcef50e511a"), looks := false }, kinds := [], alts := [], laidByText := true, laidKinds := [.data, .pinned], laidTests := true, laidLooks := .later }
def FnViewGetCardSaid : Prop := Claim7.holds Tryd.pinned (.plain (OpenSpec.ofChange fnViewGetSpec)) fnViewGetCard

/-- THE TIED CARD OF 'laws.FnExactSeekSince'. -/
def fnExactSeekSinceCard : Claim7 := { stood := { row := fnExactSeekSinceRow, standIns := [], harness := (true, "ce410c8ebcda4fe269eb5c91247efb65606ccc2bf184ff01e6283bcef50e511a"), looks := false }, kinds := [], alts := [], laidByText := true, laidKinds := [.data, .pinned], laidTests := true, laidLooks := .later }
def FnExactSeekSinceCardSaid : Prop := Claim7.holds Tryd.pinned (.plain (OpenSpec.ofChange fnExactSeekSinceSpec)) fnExactSeekSinceCard

/-- THE TIED CARD OF 'laws.FnExactSeekAll'. -/
def fnExactSeekAllCard : Claim7 := { stood := { row := fnExactSeekAllRow, standIns := [], harness := (true, "ce410c8ebcda4fe269eb5c91247efb65606ccc2bf184ff01e6283bcef50e511a"), looks := false }, kinds := [], alts := [], laidByText := true, laidKinds := [.data, .pinned], laidTests := true, laidLooks := .later }
def FnExactSeekAllCardSaid : Prop := Claim7.holds Tryd.pinned (.plain (OpenSpec.ofChange fnExactSeekAllSpec)) fnExactSeekAllCard

/-- THE TIED CARD OF 'laws.FnExactMarkPut'. -/
def fnExactMarkPutCard : Claim7 := { stood := { row := fnExactMarkPutRow, standIns := [], harness := (true, "ce410c8ebcda4fe269eb5c91247efb65606ccc2bf184ff01e6283bcef50e511a"), looks := false }, kinds := [], alts := [], laidByText := true, laidKinds := [.data, .pinned], laidTests := true, laidLooks := .later }
def FnExactMarkPutCardSaid : Prop := Claim7.holds Tryd.pinned (.plain (OpenSpec.ofChange fnExactMarkPutSpec)) fnExactMarkPutCard

/-- THE TIED CARD OF 'laws.FnExactRepoPut'. -/
def fnExactRepoPutCard : Claim7 := { stood := { row := fnExactRepoPutRow, standIns := [], harness := (true, "ce410c8ebcda4fe269eb5c91247efb65606ccc2bf184ff01e6283bcef50e511a"), looks := false }, kinds := [], alts := [], laidByText := true, laidKinds := [.data, .data, .data, .data, .pinned], laidTests := true, laidLooks := .later }
def FnExactRepoPutCardSaid : Prop := Claim7.holds Tryd.pinned (.plain (OpenSpec.ofChange fnExactRepoPutSpec)) fnExactRepoPutCard

/-- THE SECOND FORM's CARD OF 'laws.FnSeekTree'. -/
def fnSeekTreeUptoCard : Claim7 := { stood := { row := fnSeekTreeUptoRow, standIns := [], harness := (true, "ce410c8ebcda4fe269eb5c91247efb65606ccc2bf184ff01e6283bcef50e511a"), looks := false }, kinds := [], alts := [], laidByText := true, laidKinds := [.data, .pinned], laidTests := true, laidLooks := .later }
def FnSeekTreeUptoCardSaid : Prop := Claim7.holds Tryd.pinned (.plain (OpenSpec.upto fnSeekTreeSpec)) fnSeekTreeUptoCard

/-- THE SECOND FORM's CARD OF 'laws.FnExactTreePut'. -/
def fnExactTreePutUptoCard : Claim7 := { stood := { row := fnExactTreePutUptoRow, standIns := [], harness := (true, "ce410c8ebcda4fe269eb5c91247efb65606ccc2bf184ff01e6283bcef50e511a"), looks := false }, kinds := [], alts := [], laidByText := true, laidKinds := [.data, .data, .data, .data, .pinned], laidTests := true, laidLooks := .later }
def FnExactTreePutUptoCardSaid : Prop := Claim7.holds Tryd.pinned (.plain (OpenSpec.upto fnExactTreePutSpec)) fnExactTreePutUptoCard

/-- THE SECOND FORM's CARD OF 'laws.FnViewPut'. -/
def fnViewPutUptoCard : Claim7 := { stood := { row := fnViewPutUptoRow, standIns := [], harness := (true, "ce410c8ebcda4fe269eb5c91247efb65606ccc2bf184ff01e6283bcef50e511a"), looks := false }, kinds := [], alts := [], laidByText := true, laidKinds := [.data, .pinned], laidTests := true, laidLooks := .later }
def FnViewPutUptoCardSaid : Prop := Claim7.holds Tryd.pinned (.plain (OpenSpec.upto fnViewPutSpec)) fnViewPutUptoCard

/-- THE SECOND FORM's CARD OF 'laws.FnViewFree'. -/
def fnViewFreeUptoCard : Claim7 := { stood := { row := fnViewFreeUptoRow, standIns := [], harness := (true, "ce410c8ebcda4fe269eb5c91247efb65606ccc2bf184ff01e6283bcef50e511a"), looks := false }, kinds := [], alts := [], laidByText := true, laidKinds := [.data, .pinned], laidTests := true, laidLooks := .later }
def FnViewFreeUptoCardSaid : Prop := Claim7.holds Tryd.pinned (.plain (OpenSpec.upto fnViewFreeSpec)) fnViewFreeUptoCard

/-- THE SECOND FORM's CARD OF 'laws.FnExactViewPut'. -/
def fnExactViewPutUptoCard : Claim7 := { stood := { row := fnExactViewPutUptoRow, standIns := [], harness := (true, "ce410c8ebcda4fe269eb5c91247efb65606ccc2bf184ff01e6283bcef50e511a"), looks := false }, kinds := [], alts := [], laidByText := true, laidKinds := [.data, .pinned], laidTests := true, laidLooks := .later }
def FnExactViewPutUptoCardSaid : Prop := Claim7.holds Tryd.pinned (.plain (OpenSpec.upto fnExactViewPutSpec)) fnExactViewPutUptoCard

/-- THE SECOND FORM's CARD OF 'laws.FnExactMarkNear'. -/
def fnExactMarkNearUptoCard : Claim7 := { stood := { row := fnExactMarkNearUptoRow, standIns := [], harness := (true, "ce410c8ebcda4fe269eb5c91247efb65606ccc2bf184ff01e6283bcef50e511a"), looks := false }, kinds := [], alts := [], laidByText := true, laidKinds := [.data, .pinned], laidTests := true, laidLooks := .later }
def FnExactMarkNearUptoCardSaid : Prop := Claim7.holds Tryd.pinned (.plain (OpenSpec.upto fnExactMarkNearSpec)) fnExactMarkNearUptoCard

/-- THE SECOND FORM's CARD OF 'laws.FnViewGet'. -/
def fnViewGetUptoCard : Claim7 := { stood := { row := fnViewGetUptoRow, standIns := [], harness := (true, "ce410c8ebcda4fe269eb5c91247efb65606ccc2bf184ff01e6283bcef50e511a"), looks := false }, kinds := [], alts := [], laidByText := true, laidKinds := [.data, .pinned], laidTests := true, laidLooks := .later }
def FnViewGetUptoCardSaid : Prop := Claim7.holds Tryd.pinned (.plain (OpenSpec.upto fnViewGetSpec)) fnViewGetUptoCard

/-- THE SECOND FORM's CARD OF 'laws.FnExactSeekSince'. -/
def fnExactSeekSinceUptoCard : Claim7 := { stood := { row := fnExactSeekSinceUptoRow, standIns := [], harness := (true, "ce410c8ebcda4fe269eb5c91247efb65606ccc2bf184ff01e6283bcef50e511a"), looks := false }, kinds := [], alts := [], laidByText := true, laidKinds := [.data, .pinned], laidTests := true, laidLooks := .later }
def FnExactSeekSinceUptoCardSaid : Prop := Claim7.holds Tryd.pinned (.plain (OpenSpec.upto fnExactSeekSinceSpec)) fnExactSeekSinceUptoCard

/-- THE SECOND FORM's CARD OF 'laws.FnExactSeekAll'. -/
def fnExactSeekAllUptoCard : Claim7 := { stood := { row := fnExactSeekAllUptoRow, standIns := [], harness := (true, "ce410c8ebcda4fe269eb5c91247efb65606ccc2bf184ff01e6283bcef50e511a"), looks := false }, kinds := [], alts := [], laidByText := true, laidKinds := [.data, .pinned], laidTests := true, laidLooks := .later }
def FnExactSeekAllUptoCardSaid : Prop := Claim7.holds Tryd.pinned (.plain (OpenSpec.upto fnExactSeekAllSpec)) fnExactSeekAllUptoCard

/-- THE SECOND FORM's CARD OF 'laws.FnExactMarkPut'. -/
def fnExactMarkPutUptoCard : Claim7 := { stood := { row := fnExactMarkPutUptoRow, standIns := [], harness := (true, "ce410c8ebcda4fe269eb5c91247efb65606ccc2bf184ff01e6283bcef50e511a"), looks := false }, kinds := [], alts := [], laidByText := true, laidKinds := [.data, .pinned], laidTests := true, laidLooks := .later }
def FnExactMarkPutUptoCardSaid : Prop := Claim7.holds Tryd.pinned (.plain (OpenSpec.upto fnExactMarkPutSpec)) fnExactMarkPutUptoCard

/-- THE SECOND FORM's CARD OF 'laws.FnExactRepoPut'. -/
def fnExactRepoPutUptoCard : Claim7 := { stood := { row := fnExactRepoPutUptoRow, standIns := [], harness := (true, "ce410c8ebcda4fe269eb5c91247efb65606ccc2bf184ff01e6283bcef50e511a"), looks := false }, kinds := [], alts := [], laidByText := true, laidKinds := [.data, .data, .data, .data, .pinned], laidTests := true, laidLooks := .later }
def FnExactRepoPutUptoCardSaid : Prop := Claim7.holds Tryd.pinned (.plain (OpenSpec.upto fnExactRepoPutSpec)) fnExactRepoPutUptoCard
end Rows
end Go.Proofs.YtlhkmgbmnbkaeaaDoor
