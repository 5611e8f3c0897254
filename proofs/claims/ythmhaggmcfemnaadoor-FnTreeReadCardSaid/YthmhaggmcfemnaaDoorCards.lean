/-
  DERIVED. GIVEN WITH THE SEED: THE CARDS: each row of YthmhaggmcfemnaaDoorRows.lean that lists a variable, with what it lists TIED to the program's text (the seventh form; the later family's looks); each row that meets fmt, with fmt's text TOLD by the authors' own Lean function (tested against real Go, not proved from fmt's source: count such statements apart). THE CARD IS WHAT COUNTS. Prove the row's statement (the work); the ties are given (YthmhaggmcfemnaaDoorTie.lean); close each card by the builder's one call (the guide's Derived/Test/ToyasCard.lean, 'card_holds'). Laid BY PROGRAM, IN A SANDBOX (cutbox-door.mjs). By AI agents, Wed Nov 11 2026. No macro, syntax, notation, axiom, sorry.
-/
import Derived.Test.YthmhaggmcfemnaaDoorRows
import GoSem.ClaimSeven
namespace Go.Proofs.YthmhaggmcfemnaaDoor
namespace Rows

/-- THE TIED CARD OF 'laws.FnExactTreePut'. -/
def fnExactTreePutCard : Claim7 := { stood := { row := fnExactTreePutRow, standIns := [], harness := (true, "a99537ec8e59b16038e410bf1b90aa28c4e1114e612632c80b5bb83e954a67bf"), looks := true }, kinds := [], alts := [], laidByText := true, laidKinds := [.data, .data, .data, .data, .pinned], laidTests := true, laidLooks := .later }
def FnExactTreePutCardSaid : Prop := Claim7.holds Tryd.pinned (.plain (OpenSpec.ofChange fnExactTreePutSpec)) fnExactTreePutCard

/-- THE TIED CARD OF 'laws.FnExactRepoPut'. -/
def fnExactRepoPutCard : Claim7 := { stood := { row := fnExactRepoPutRow, standIns := [], harness := (true, "a99537ec8e59b16038e410bf1b90aa28c4e1114e612632c80b5bb83e954a67bf"), looks := true }, kinds := [], alts := [], laidByText := true, laidKinds := [.data, .data, .data, .data, .pinned], laidTests := true, laidLooks := .later }
def FnExactRepoPutCardSaid : Prop := Claim7.holds Tryd.pinned (.plain (OpenSpec.ofChange fnExactRepoPutSpec)) fnExactRepoPutCard

/-- THE TIED CARD OF 'laws.FnExactTreeRead'. -/
def fnExactTreeReadCard : Claim7 := { stood := { row := fnExactTreeReadRow, standIns := [], harness := (true, "a99537ec8e59b16038e410bf1b90aa28c4e1114e612632c80b5bb83e954a67bf"), looks := true }, kinds := [], alts := [], laidByText := true, laidKinds := [.data, .data, .data, .data, .sentinel, .sentinel, .pinned], laidTests := true, laidLooks := .later }
def FnExactTreeReadCardSaid : Prop := Claim7.holds Tryd.pinned (.plain (OpenSpec.ofChange fnExactTreeReadSpec)) fnExactTreeReadCard

/-- THE TIED CARD OF 'laws.FnTreePut'. -/
def fnTreePutCard : Claim7 := { stood := { row := fnTreePutRow, standIns := [], harness := (true, "a99537ec8e59b16038e410bf1b90aa28c4e1114e612632c80b5bb83e954a67bf"), looks := true }, kinds := [], alts := [], laidByText := true, laidKinds := [.data, .data, .data, .data, .sentinel, .sentinel, .pinned], laidTests := true, laidLooks := .later }
def FnTreePutCardSaid : Prop := Claim7.holds Tryd.pinned (.plain (OpenSpec.ofChange fnTreePutSpec)) fnTreePutCard

/-- THE TIED CARD OF 'laws.FnTreeRead'. -/
def fnTreeReadCard : Claim7 := { stood := { row := fnTreeReadRow, standIns := [], harness := (true, "a99537ec8e59b16038e410bf1b90aa28c4e1114e612632c80b5bb83e954a67bf"), looks := true }, kinds := [], alts := [], laidByText := true, laidKinds := [.data, .data, .data, .data, .sentinel, .sentinel, .pinned], laidTests := true, laidLooks := .later }
def FnTreeReadCardSaid : Prop := Claim7.holds Tryd.pinned (.plain (OpenSpec.ofChange fnTreeReadSpec)) fnTreeReadCard

/-- THE SECOND FORM's CARD OF 'laws.FnExactTreePut'. -/
def fnExactTreePutUptoCard : Claim7 := { stood := { row := fnExactTreePutUptoRow, standIns := [], harness := (true, "a99537ec8e59b16038e410bf1b90aa28c4e1114e612632c80b5bb83e954a67bf"), looks := true }, kinds := [], alts := [], laidByText := true, laidKinds := [.data, .data, .data, .data, .pinned], laidTests := true, laidLooks := .later }
def FnExactTreePutUptoCardSaid : Prop := Claim7.holds Tryd.pinned (.plain (OpenSpec.upto fnExactTreePutSpec)) fnExactTreePutUptoCard

/-- THE SECOND FORM's CARD OF 'laws.FnExactRepoPut'. -/
def fnExactRepoPutUptoCard : Claim7 := { stood := { row := fnExactRepoPutUptoRow, standIns := [], harness := (true, "a99537ec8e59b16038e410bf1b90aa28c4e1114e612632c80b5bb83e954a67bf"), looks := true }, kinds := [], alts := [], laidByText := true, laidKinds := [.data, .data, .data, .data, .pinned], laidTests := true, laidLooks := .later }
def FnExactRepoPutUptoCardSaid : Prop := Claim7.holds Tryd.pinned (.plain (OpenSpec.upto fnExactRepoPutSpec)) fnExactRepoPutUptoCard

/-- THE SECOND FORM's CARD OF 'laws.FnExactTreeRead'. -/
def fnExactTreeReadUptoCard : Claim7 := { stood := { row := fnExactTreeReadUptoRow, standIns := [], harness := (true, "a99537ec8e59b16038e410bf1b90aa28c4e1114e612632c80b5bb83e954a67bf"), looks := true }, kinds := [], alts := [], laidByText := true, laidKinds := [.data, .data, .data, .data, .sentinel, .sentinel, .pinned], laidTests := true, laidLooks := .later }
def FnExactTreeReadUptoCardSaid : Prop := Claim7.holds Tryd.pinned (.plain (OpenSpec.upto fnExactTreeReadSpec)) fnExactTreeReadUptoCard

/-- THE SECOND FORM's CARD OF 'laws.FnTreePut'. -/
def fnTreePutUptoCard : Claim7 := { stood := { row := fnTreePutUptoRow, standIns := [], harness := (true, "a99537ec8e59b16038e410bf1b90aa28c4e1114e612632c80b5bb83e954a67bf"), looks := true }, kinds := [], alts := [], laidByText := true, laidKinds := [.data, .data, .data, .data, .sentinel, .sentinel, .pinned], laidTests := true, laidLooks := .later }
def FnTreePutUptoCardSaid : Prop := Claim7.holds Tryd.pinned (.plain (OpenSpec.upto fnTreePutSpec)) fnTreePutUptoCard

/-- THE SECOND FORM's CARD OF 'laws.FnTreeRead'. -/
def fnTreeReadUptoCard : Claim7 := { stood := { row := fnTreeReadUptoRow, standIns := [], harness := (true, "a99537ec8e59b16038e410bf1b90aa28c4e1114e612632c80b5bb83e954a67bf"), looks := true }, kinds := [], alts := [], laidByText := true, laidKinds := [.data, .data, .data, .data, .sentinel, .sentinel, .pinned], laidTests := true, laidLooks := .later }
def FnTreeReadUptoCardSaid : Prop := Claim7.holds Tryd.pinned (.plain (OpenSpec.upto fnTreeReadSpec)) fnTreeReadUptoCard
end Rows
end Go.Proofs.YthmhaggmcfemnaaDoor
