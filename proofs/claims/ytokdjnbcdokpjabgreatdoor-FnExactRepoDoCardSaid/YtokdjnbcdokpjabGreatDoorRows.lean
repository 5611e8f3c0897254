/-
  NARROWER THAN 'FOR EVERY INPUT', by the rows' own cells (each row's printed sentence says how): FnExactQueueRun: laid · FnQueueRun: laid · FnRepoPlay: laid · FnRepoFork: laid · FnRepoSet: laid · FnRepoDo: laid · FnExactRepoPlay: laid · FnExactRepoDo: laid.
  DERIVED. THE GIVEN ROWS OF THIS SEAT. 8 by the template 'for every input the law returns true; each argument reads behind the call as it read before'; 0 by the template 'total and deterministic' (their statements: YtokdjnbcdokpjabGreatDoorTotals.lean).
  GIVEN WITH THE SEED: the statements are not yours to turn. If you find one false, say at which input.
  Laid BY PROGRAM, IN A SANDBOX (cutbox-rows.mjs): the forced cells as the released guide's own fill.sh prints them over the translation 7157a9d538e3a7d9… (all of the seat's roots in one cut). By AI agents, Wed Nov 11 2026. No macro, syntax, notation, axiom, sorry.
-/
import Derived.Test.YtokdjnbcdokpjabGreatDoorChecked
import GoSem.PinnedTables
import GoSem.Claim
import GoSem.ClaimJoined
import GoSem.ClaimMapViews
import Derived.JoinedTies
import Derived.KernelRfl
namespace Go.Proofs.YtokdjnbcdokpjabGreatDoor
/- THE CELL 'sum', in the pinned program and in every row, IS THE sha256 OF THE DUMP (.gsa) THAT YtokdjnbcdokpjabGreatDoorProg.lean LOADS. Nothing in Lean hashes anything: it is a label: what it is worth is what the hold of that sum in a sandbox is worth. -/
noncomputable def Tryz.pinned : Pinned := { name := "ytokdjnbcdokpjabgreatdoor", sum := "7157a9d538e3a7d9a60bec589fca662a692d9bd2b86c43435e40032abd6e910b", checked := Tryz.checked }
namespace Rows
def none {H : Type} : Left H := { results := [], args := [] }

/- WHAT THE LISTED PACKAGE-LEVEL VARIABLES READ AS WHEN THE CALL BEGINS. Each datum BY PROGRAM (the guide's laid-datum.mjs) off the statement by which the dump's own 'gosem.cut.vars' lays the variable. In a bare row this is a premise. The card (YtokdjnbcdokpjabGreatDoorCards.lean) ties it to the program's text. -/
def laid_unicode_utf8_acceptRanges {H : Type} : DataW H := .agg [.agg [.lit (.int .u8 128), .lit (.int .u8 191)], .agg [.lit (.int .u8 160), .lit (.int .u8 191)], .agg [.lit (.int .u8 128), .lit (.int .u8 159)], .agg [.lit (.int .u8 144), .lit (.int .u8 191)], .agg [.lit (.int .u8 128), .lit (.int .u8 143)], .agg [.lit (.int .u8 0), .lit (.int .u8 0)], .agg [.lit (.int .u8 0), .lit (.int .u8 0)], .agg [.lit (.int .u8 0), .lit (.int .u8 0)], .agg [.lit (.int .u8 0), .lit (.int .u8 0)], .agg [.lit (.int .u8 0), .lit (.int .u8 0)], .agg [.lit (.int .u8 0), .lit (.int .u8 0)], .agg [.lit (.int .u8 0), .lit (.int .u8 0)], .agg [.lit (.int .u8 0), .lit (.int .u8 0)], .agg [.lit (.int .u8 0), .lit (.int .u8 0)], .agg [.lit (.int .u8 0), .lit (.int .u8 0)], .agg [.lit (.int .u8 0), .lit (.int .u8 0)]]
/-- One of Go's own tables, pinned by name: the form's constant. -/
def laid_unicode_utf8_first : DataW Unit := Go.Pinned.utf8First

/-- 'laws.FnExactQueueRun': WHATEVER THE INPUT: true; the input reads as it did. -/
def fnExactQueueRunSpec : ChangeSpec := { name := "fnExactQueueRun", fn := fun _ => fun
  | [d1, d2, d3, d4] => { results := [.lit (.bool true)], args := [d1, d2, d3, d4] }
  | _ => none }
def fnExactQueueRunRow : OpenClaim := { program := "ytokdjnbcdokpjabgreatdoor", sum := "7157a9d538e3a7d9a60bec589fca662a692d9bd2b86c43435e40032abd6e910b", func := "loop.example/versioncontrol/laws.FnExactQueueRun", spec := "fnExactQueueRun", inPlace := ["internal/bytealg.CountString", "internal/bytealg.IndexByteString", "internal/bytealg.IndexString", "slices.overlaps[loop.example/versioncontrol/impl.Head]"], unfollowed := true, recurses := true, named := ["unicode/utf8.first", "unicode/utf8.acceptRanges", "internal/bytealg.MaxLen"], apart := false, laid := [("unicode/utf8.acceptRanges", laid_unicode_utf8_acceptRanges), ("unicode/utf8.first", laid_unicode_utf8_first)] }
def FnExactQueueRunSaid : Prop := fnExactQueueRunRow.holds Tryz.pinned (OpenSpec.ofChange fnExactQueueRunSpec)

/-- ITS FALSE NEIGHBOUR: 'it returns false'. Refute it at one input. -/
def fnExactQueueRunWrong : ChangeSpec := { name := "fnExactQueueRun", fn := fun _ => fun
  | [d1, d2, d3, d4] => { results := [.lit (.bool false)], args := [d1, d2, d3, d4] }
  | _ => none }
def FnExactQueueRunWrongFalsely : Prop := fnExactQueueRunRow.holds Tryz.pinned (OpenSpec.ofChange fnExactQueueRunWrong)

/-- 'laws.FnQueueRun': WHATEVER THE INPUT: true; the input reads as it did. -/
def fnQueueRunSpec : ChangeSpec := { name := "fnQueueRun", fn := fun _ => fun
  | [d] => { results := [.lit (.bool true)], args := [d] }
  | _ => none }
def fnQueueRunRow : OpenClaim := { program := "ytokdjnbcdokpjabgreatdoor", sum := "7157a9d538e3a7d9a60bec589fca662a692d9bd2b86c43435e40032abd6e910b", func := "loop.example/versioncontrol/laws.FnQueueRun", spec := "fnQueueRun", inPlace := ["internal/bytealg.CountString", "internal/bytealg.IndexByteString", "internal/bytealg.IndexString", "slices.overlaps[loop.example/versioncontrol/impl.Head]"], unfollowed := true, recurses := true, named := ["unicode/utf8.first", "unicode/utf8.acceptRanges", "internal/bytealg.MaxLen"], apart := false, laid := [("unicode/utf8.acceptRanges", laid_unicode_utf8_acceptRanges), ("unicode/utf8.first", laid_unicode_utf8_first)] }
def FnQueueRunSaid : Prop := fnQueueRunRow.holds Tryz.pinned (OpenSpec.ofChange fnQueueRunSpec)

/-- ITS FALSE NEIGHBOUR: 'it returns false'. Refute it at one input. -/
def fnQueueRunWrong : ChangeSpec := { name := "fnQueueRun", fn := fun _ => fun
  | [d] => { results := [.lit (.bool false)], args := [d] }
  | _ => none }
def FnQueueRunWrongFalsely : Prop := fnQueueRunRow.holds Tryz.pinned (OpenSpec.ofChange fnQueueRunWrong)

/-- 'laws.FnRepoPlay': WHATEVER THE INPUT: true; the input reads as it did. -/
def fnRepoPlaySpec : ChangeSpec := { name := "fnRepoPlay", fn := fun _ => fun
  | [d] => { results := [.lit (.bool true)], args := [d] }
  | _ => none }
def fnRepoPlayRow : OpenClaim := { program := "ytokdjnbcdokpjabgreatdoor", sum := "7157a9d538e3a7d9a60bec589fca662a692d9bd2b86c43435e40032abd6e910b", func := "loop.example/versioncontrol/laws.FnRepoPlay", spec := "fnRepoPlay", inPlace := ["internal/bytealg.CountString", "internal/bytealg.IndexByteString", "internal/bytealg.IndexString", "internal/abi.NoEscape", "internal/bytealg.MakeNoZero", "slices.overlaps[loop.example/versioncontrol/impl.File]", "slices.overlaps[loop.example/versioncontrol/impl.Head]"], unfollowed := true, recurses := true, named := ["unicode/utf8.first", "unicode/utf8.acceptRanges", "internal/bytealg.MaxLen"], apart := false, laid := [("unicode/utf8.acceptRanges", laid_unicode_utf8_acceptRanges), ("unicode/utf8.first", laid_unicode_utf8_first)] }
def FnRepoPlaySaid : Prop := fnRepoPlayRow.holds Tryz.pinned (OpenSpec.ofChange fnRepoPlaySpec)

/-- ITS FALSE NEIGHBOUR: 'it returns false'. Refute it at one input. -/
def fnRepoPlayWrong : ChangeSpec := { name := "fnRepoPlay", fn := fun _ => fun
  | [d] => { results := [.lit (.bool false)], args := [d] }
  | _ => none }
def FnRepoPlayWrongFalsely : Prop := fnRepoPlayRow.holds Tryz.pinned (OpenSpec.ofChange fnRepoPlayWrong)

/-- 'laws.FnRepoFork': WHATEVER THE INPUT: true; the input reads as it did. -/
def fnRepoForkSpec : ChangeSpec := { name := "fnRepoFork", fn := fun _ => fun
  | [d] => { results := [.lit (.bool true)], args := [d] }
  | _ => none }
def fnRepoForkRow : OpenClaim := { program := "ytokdjnbcdokpjabgreatdoor", sum := "7157a9d538e3a7d9a60bec589fca662a692d9bd2b86c43435e40032abd6e910b", func := "loop.example/versioncontrol/laws.FnRepoFork", spec := "fnRepoFork", inPlace := ["internal/bytealg.CountString", "internal/bytealg.IndexByteString", "internal/bytealg.IndexString", "internal/abi.NoEscape", "internal/bytealg.MakeNoZero", "slices.overlaps[loop.example/versioncontrol/impl.File]", "slices.overlaps[loop.example/versioncontrol/impl.Head]"], unfollowed := true, recurses := true, named := ["unicode/utf8.first", "unicode/utf8.acceptRanges", "internal/bytealg.MaxLen"], apart := false, laid := [("unicode/utf8.acceptRanges", laid_unicode_utf8_acceptRanges), ("unicode/utf8.first", laid_unicode_utf8_first)] }
def FnRepoForkSaid : Prop := fnRepoForkRow.holds Tryz.pinned (OpenSpec.ofChange fnRepoForkSpec)

/-- ITS FALSE NEIGHBOUR: 'it returns false'. Refute it at one input. -/
def fnRepoForkWrong : ChangeSpec := { name := "fnRepoFork", fn := fun _ => fun
  | [d] => { results := [.lit (.bool false)], args := [d] }
  | _ => none }
def FnRepoForkWrongFalsely : Prop := fnRepoForkRow.holds Tryz.pinned (OpenSpec.ofChange fnRepoForkWrong)

/-- 'laws.FnRepoSet': WHATEVER THE INPUT: true; the input reads as it did. -/
def fnRepoSetSpec : ChangeSpec := { name := "fnRepoSet", fn := fun _ => fun
  | [d] => { results := [.lit (.bool true)], args := [d] }
  | _ => none }
def fnRepoSetRow : OpenClaim := { program := "ytokdjnbcdokpjabgreatdoor", sum := "7157a9d538e3a7d9a60bec589fca662a692d9bd2b86c43435e40032abd6e910b", func := "loop.example/versioncontrol/laws.FnRepoSet", spec := "fnRepoSet", inPlace := ["internal/bytealg.CountString", "internal/bytealg.IndexByteString", "internal/bytealg.IndexString", "internal/abi.NoEscape", "internal/bytealg.MakeNoZero", "slices.overlaps[loop.example/versioncontrol/impl.File]", "slices.overlaps[loop.example/versioncontrol/impl.Head]"], unfollowed := true, recurses := true, named := ["unicode/utf8.first", "unicode/utf8.acceptRanges", "internal/bytealg.MaxLen"], apart := false, laid := [("unicode/utf8.acceptRanges", laid_unicode_utf8_acceptRanges), ("unicode/utf8.first", laid_unicode_utf8_first)] }
def FnRepoSetSaid : Prop := fnRepoSetRow.holds Tryz.pinned (OpenSpec.ofChange fnRepoSetSpec)

/-- ITS FALSE NEIGHBOUR: 'it returns false'. Refute it at one input. -/
def fnRepoSetWrong : ChangeSpec := { name := "fnRepoSet", fn := fun _ => fun
  | [d] => { results := [.lit (.bool false)], args := [d] }
  | _ => none }
def FnRepoSetWrongFalsely : Prop := fnRepoSetRow.holds Tryz.pinned (OpenSpec.ofChange fnRepoSetWrong)

/-- 'laws.FnRepoDo': WHATEVER THE INPUT: true; the input reads as it did. -/
def fnRepoDoSpec : ChangeSpec := { name := "fnRepoDo", fn := fun _ => fun
  | [d] => { results := [.lit (.bool true)], args := [d] }
  | _ => none }
def fnRepoDoRow : OpenClaim := { program := "ytokdjnbcdokpjabgreatdoor", sum := "7157a9d538e3a7d9a60bec589fca662a692d9bd2b86c43435e40032abd6e910b", func := "loop.example/versioncontrol/laws.FnRepoDo", spec := "fnRepoDo", inPlace := ["internal/bytealg.CountString", "internal/bytealg.IndexByteString", "internal/bytealg.IndexString", "internal/abi.NoEscape", "internal/bytealg.MakeNoZero", "slices.overlaps[loop.example/versioncontrol/impl.File]", "slices.overlaps[loop.example/versioncontrol/impl.Head]"], unfollowed := true, recurses := true, named := ["unicode/utf8.first", "unicode/utf8.acceptRanges", "internal/bytealg.MaxLen"], apart := false, laid := [("unicode/utf8.acceptRanges", laid_unicode_utf8_acceptRanges), ("unicode/utf8.first", laid_unicode_utf8_first)] }
def FnRepoDoSaid : Prop := fnRepoDoRow.holds Tryz.pinned (OpenSpec.ofChange fnRepoDoSpec)

/-- ITS FALSE NEIGHBOUR: 'it returns false'. Refute it at one input. -/
def fnRepoDoWrong : ChangeSpec := { name := "fnRepoDo", fn := fun _ => fun
  | [d] => { results := [.lit (.bool false)], args := [d] }
  | _ => none }
def FnRepoDoWrongFalsely : Prop := fnRepoDoRow.holds Tryz.pinned (OpenSpec.ofChange fnRepoDoWrong)

/-- 'laws.FnExactRepoPlay': WHATEVER THE INPUT: true; the input reads as it did. -/
def fnExactRepoPlaySpec : ChangeSpec := { name := "fnExactRepoPlay", fn := fun _ => fun
  | [d] => { results := [.lit (.bool true)], args := [d] }
  | _ => none }
def fnExactRepoPlayRow : OpenClaim := { program := "ytokdjnbcdokpjabgreatdoor", sum := "7157a9d538e3a7d9a60bec589fca662a692d9bd2b86c43435e40032abd6e910b", func := "loop.example/versioncontrol/laws.FnExactRepoPlay", spec := "fnExactRepoPlay", inPlace := ["internal/bytealg.CountString", "internal/bytealg.IndexByteString", "internal/bytealg.IndexString", "internal/abi.NoEscape", "internal/bytealg.MakeNoZero", "slices.overlaps[loop.example/versioncontrol/impl.File]", "slices.overlaps[loop.example/versioncontrol/impl.Head]"], unfollowed := true, recurses := true, named := ["unicode/utf8.first", "unicode/utf8.acceptRanges", "internal/bytealg.MaxLen"], apart := false, laid := [("unicode/utf8.acceptRanges", laid_unicode_utf8_acceptRanges), ("unicode/utf8.first", laid_unicode_utf8_first)] }
def FnExactRepoPlaySaid : Prop := fnExactRepoPlayRow.holds Tryz.pinned (OpenSpec.ofChange fnExactRepoPlaySpec)

/-- ITS FALSE NEIGHBOUR: 'it returns false'. Refute it at one input. -/
def fnExactRepoPlayWrong : ChangeSpec := { name := "fnExactRepoPlay", fn := fun _ => fun
  | [d] => { results := [.lit (.bool false)], args := [d] }
  | _ => none }
def FnExactRepoPlayWrongFalsely : Prop := fnExactRepoPlayRow.holds Tryz.pinned (OpenSpec.ofChange fnExactRepoPlayWrong)

/-- 'laws.FnExactRepoDo': WHATEVER THE INPUT: true; the input reads as it did. -/
def fnExactRepoDoSpec : ChangeSpec := { name := "fnExactRepoDo", fn := fun _ => fun
  | [d1, d2] => { results := [.lit (.bool true)], args := [d1, d2] }
  | _ => none }
def fnExactRepoDoRow : OpenClaim := { program := "ytokdjnbcdokpjabgreatdoor", sum := "7157a9d538e3a7d9a60bec589fca662a692d9bd2b86c43435e40032abd6e910b", func := "loop.example/versioncontrol/laws.FnExactRepoDo", spec := "fnExactRepoDo", inPlace := ["internal/bytealg.CountString", "internal/bytealg.IndexByteString", "internal/bytealg.IndexString", "internal/abi.NoEscape", "internal/bytealg.MakeNoZero", "slices.overlaps[loop.example/versioncontrol/impl.File]", "slices.overlaps[loop.example/versioncontrol/impl.Head]"], unfollowed := true, recurses := true, named := ["unicode/utf8.first", "unicode/utf8.acceptRanges", "internal/bytealg.MaxLen"], apart := false, laid := [("unicode/utf8.acceptRanges", laid_unicode_utf8_acceptRanges), ("unicode/utf8.first", laid_unicode_utf8_first)] }
def FnExactRepoDoSaid : Prop := fnExactRepoDoRow.holds Tryz.pinned (OpenSpec.ofChange fnExactRepoDoSpec)

/-- ITS FALSE NEIGHBOUR: 'it returns false'. Refute it at one input. -/
def fnExactRepoDoWrong : ChangeSpec := { name := "fnExactRepoDo", fn := fun _ => fun
  | [d1, d2] => { results := [.lit (.bool false)], args := [d1, d2] }
  | _ => none }
def FnExactRepoDoWrongFalsely : Prop := fnExactRepoDoRow.holds Tryz.pinned (OpenSpec.ofChange fnExactRepoDoWrong)

/- THE SECOND FORM. 'bulk': how many values and letters a reading holds, each counted each time it is reached (what is shared counts as often as it is met; a slice's spare places count too). A statement '..UptoSaid' is the law's where the arguments, and the package variables that the reading takes, are together of bulk at most 1048576: NARROWER than '..Said'. Prove '..Said' where nothing that the law and all that it calls make is longer than what came in: it says more and counts as full. Else prove '..UptoSaid'. A law counts once. -/
mutual
def uptoBulk {H : Type} : DataW H → Nat
  | .lit (.string bytes) => bytes.length + 1
  | .lit _ => 1
  | .nil => 1
  | .ptr d => uptoBulk d + 1
  | .slice elems spare => uptoBulkAll elems + uptoBulkAll spare + 1
  | .agg parts => uptoBulkAll parts + 1
  | .iface _ d => uptoBulk d + 1
  | .map entries => uptoBulkEntries entries + 1
  | .held _ => 1
def uptoBulkAll {H : Type} : List (DataW H) → Nat
  | [] => 0
  | d :: r => uptoBulk d + uptoBulkAll r
def uptoBulkEntries {H : Type} : List (Lit × DataW H) → Nat
  | [] => 0
  | x :: r => uptoBulkEntry x + uptoBulkEntries r
def uptoBulkEntry {H : Type} : Lit × DataW H → Nat
  | (.string bytes, d) => bytes.length + uptoBulk d + 1
  | (_, d) => uptoBulk d + 1
 end
def uptoSmall : (H : Type) → List (DataW H) → Bool := fun _ ds => decide (uptoBulkAll ds ≤ 1048576)
def OpenSpec.upto (s : _root_.Go.ChangeSpec) : _root_.Go.OpenSpec := { _root_.Go.OpenSpec.ofChange s with cond := some uptoSmall }

/-- 'laws.FnExactQueueRun', WHERE WHAT IT READS IS OF BULK AT MOST 1048576: true; the input reads as it did. -/
def fnExactQueueRunUptoRow : OpenClaim := { program := "ytokdjnbcdokpjabgreatdoor", sum := "7157a9d538e3a7d9a60bec589fca662a692d9bd2b86c43435e40032abd6e910b", func := "loop.example/versioncontrol/laws.FnExactQueueRun", spec := "fnExactQueueRun", inPlace := ["internal/bytealg.CountString", "internal/bytealg.IndexByteString", "internal/bytealg.IndexString", "slices.overlaps[loop.example/versioncontrol/impl.Head]"], unfollowed := true, recurses := true, named := ["unicode/utf8.first", "unicode/utf8.acceptRanges", "internal/bytealg.MaxLen"], apart := false, laid := [("unicode/utf8.acceptRanges", laid_unicode_utf8_acceptRanges), ("unicode/utf8.first", laid_unicode_utf8_first)], narrowed := true }
def FnExactQueueRunUptoSaid : Prop := fnExactQueueRunUptoRow.holds Tryz.pinned (OpenSpec.upto fnExactQueueRunSpec)

/-- 'laws.FnQueueRun', WHERE WHAT IT READS IS OF BULK AT MOST 1048576: true; the input reads as it did. -/
def fnQueueRunUptoRow : OpenClaim := { program := "ytokdjnbcdokpjabgreatdoor", sum := "7157a9d538e3a7d9a60bec589fca662a692d9bd2b86c43435e40032abd6e910b", func := "loop.example/versioncontrol/laws.FnQueueRun", spec := "fnQueueRun", inPlace := ["internal/bytealg.CountString", "internal/bytealg.IndexByteString", "internal/bytealg.IndexString", "slices.overlaps[loop.example/versioncontrol/impl.Head]"], unfollowed := true, recurses := true, named := ["unicode/utf8.first", "unicode/utf8.acceptRanges", "internal/bytealg.MaxLen"], apart := false, laid := [("unicode/utf8.acceptRanges", laid_unicode_utf8_acceptRanges), ("unicode/utf8.first", laid_unicode_utf8_first)], narrowed := true }
def FnQueueRunUptoSaid : Prop := fnQueueRunUptoRow.holds Tryz.pinned (OpenSpec.upto fnQueueRunSpec)

/-- 'laws.FnRepoPlay', WHERE WHAT IT READS IS OF BULK AT MOST 1048576: true; the input reads as it did. -/
def fnRepoPlayUptoRow : OpenClaim := { program := "ytokdjnbcdokpjabgreatdoor", sum := "7157a9d538e3a7d9a60bec589fca662a692d9bd2b86c43435e40032abd6e910b", func := "loop.example/versioncontrol/laws.FnRepoPlay", spec := "fnRepoPlay", inPlace := ["internal/bytealg.CountString", "internal/bytealg.IndexByteString", "internal/bytealg.IndexString", "internal/abi.NoEscape", "internal/bytealg.MakeNoZero", "slices.overlaps[loop.example/versioncontrol/impl.File]", "slices.overlaps[loop.example/versioncontrol/impl.Head]"], unfollowed := true, recurses := true, named := ["unicode/utf8.first", "unicode/utf8.acceptRanges", "internal/bytealg.MaxLen"], apart := false, laid := [("unicode/utf8.acceptRanges", laid_unicode_utf8_acceptRanges), ("unicode/utf8.first", laid_unicode_utf8_first)], narrowed := true }
def FnRepoPlayUptoSaid : Prop := fnRepoPlayUptoRow.holds Tryz.pinned (OpenSpec.upto fnRepoPlaySpec)

/-- 'laws.FnRepoFork', WHERE WHAT IT READS IS OF BULK AT MOST 1048576: true; the input reads as it did. -/
def fnRepoForkUptoRow : OpenClaim := { program := "ytokdjnbcdokpjabgreatdoor", sum := "7157a9d538e3a7d9a60bec589fca662a692d9bd2b86c43435e40032abd6e910b", func := "loop.example/versioncontrol/laws.FnRepoFork", spec := "fnRepoFork", inPlace := ["internal/bytealg.CountString", "internal/bytealg.IndexByteString", "internal/bytealg.IndexString", "internal/abi.NoEscape", "internal/bytealg.MakeNoZero", "slices.overlaps[loop.example/versioncontrol/impl.File]", "slices.overlaps[loop.example/versioncontrol/impl.Head]"], unfollowed := true, recurses := true, named := ["unicode/utf8.first", "unicode/utf8.acceptRanges", "internal/bytealg.MaxLen"], apart := false, laid := [("unicode/utf8.acceptRanges", laid_unicode_utf8_acceptRanges), ("unicode/utf8.first", laid_unicode_utf8_first)], narrowed := true }
def FnRepoForkUptoSaid : Prop := fnRepoForkUptoRow.holds Tryz.pinned (OpenSpec.upto fnRepoForkSpec)

/-- 'laws.FnRepoSet', WHERE WHAT IT READS IS OF BULK AT MOST 1048576: true; the input reads as it did. -/
def fnRepoSetUptoRow : OpenClaim := { program := "ytokdjnbcdokpjabgreatdoor", sum := "7157a9d538e3a7d9a60bec589fca662a692d9bd2b86c43435e40032abd6e910b", func := "loop.example/versioncontrol/laws.FnRepoSet", spec := "fnRepoSet", inPlace := ["internal/bytealg.CountString", "internal/bytealg.IndexByteString", "internal/bytealg.IndexString", "internal/abi.NoEscape", "internal/bytealg.MakeNoZero", "slices.overlaps[loop.example/versioncontrol/impl.File]", "slices.overlaps[loop.example/versioncontrol/impl.Head]"], unfollowed := true, recurses := true, named := ["unicode/utf8.first", "unicode/utf8.acceptRanges", "internal/bytealg.MaxLen"], apart := false, laid := [("unicode/utf8.acceptRanges", laid_unicode_utf8_acceptRanges), ("unicode/utf8.first", laid_unicode_utf8_first)], narrowed := true }
def FnRepoSetUptoSaid : Prop := fnRepoSetUptoRow.holds Tryz.pinned (OpenSpec.upto fnRepoSetSpec)

/-- 'laws.FnRepoDo', WHERE WHAT IT READS IS OF BULK AT MOST 1048576: true; the input reads as it did. -/
def fnRepoDoUptoRow : OpenClaim := { program := "ytokdjnbcdokpjabgreatdoor", sum := "7157a9d538e3a7d9a60bec589fca662a692d9bd2b86c43435e40032abd6e910b", func := "loop.example/versioncontrol/laws.FnRepoDo", spec := "fnRepoDo", inPlace := ["internal/bytealg.CountString", "internal/bytealg.IndexByteString", "internal/bytealg.IndexString", "internal/abi.NoEscape", "internal/bytealg.MakeNoZero", "slices.overlaps[loop.example/versioncontrol/impl.File]", "slices.overlaps[loop.example/versioncontrol/impl.Head]"], unfollowed := true, recurses := true, named := ["unicode/utf8.first", "unicode/utf8.acceptRanges", "internal/bytealg.MaxLen"], apart := false, laid := [("unicode/utf8.acceptRanges", laid_unicode_utf8_acceptRanges), ("unicode/utf8.first", laid_unicode_utf8_first)], narrowed := true }
def FnRepoDoUptoSaid : Prop := fnRepoDoUptoRow.holds Tryz.pinned (OpenSpec.upto fnRepoDoSpec)

/-- 'laws.FnExactRepoPlay', WHERE WHAT IT READS IS OF BULK AT MOST 1048576: true; the input reads as it did. -/
def fnExactRepoPlayUptoRow : OpenClaim := { program := "ytokdjnbcdokpjabgreatdoor", sum := "7157a9d538e3a7d9a60bec589fca662a692d9bd2b86c43435e40032abd6e910b", func := "loop.example/versioncontrol/laws.FnExactRepoPlay", spec := "fnExactRepoPlay", inPlace := ["internal/bytealg.CountString", "internal/bytealg.IndexByteString", "internal/bytealg.IndexString", "internal/abi.NoEscape", "internal/bytealg.MakeNoZero", "slices.overlaps[loop.example/versioncontrol/impl.File]", "slices.overlaps[loop.example/versioncontrol/impl.Head]"], unfollowed := true, recurses := true, named := ["unicode/utf8.first", "unicode/utf8.acceptRanges", "internal/bytealg.MaxLen"], apart := false, laid := [("unicode/utf8.acceptRanges", laid_unicode_utf8_acceptRanges), ("unicode/utf8.first", laid_unicode_utf8_first)], narrowed := true }
def FnExactRepoPlayUptoSaid : Prop := fnExactRepoPlayUptoRow.holds Tryz.pinned (OpenSpec.upto fnExactRepoPlaySpec)

/-- 'laws.FnExactRepoDo', WHERE WHAT IT READS IS OF BULK AT MOST 1048576: true; the input reads as it did. -/
def fnExactRepoDoUptoRow : OpenClaim := { program := "ytokdjnbcdokpjabgreatdoor", sum := "7157a9d538e3a7d9a60bec589fca662a692d9bd2b86c43435e40032abd6e910b", func := "loop.example/versioncontrol/laws.FnExactRepoDo", spec := "fnExactRepoDo", inPlace := ["internal/bytealg.CountString", "internal/bytealg.IndexByteString", "internal/bytealg.IndexString", "internal/abi.NoEscape", "internal/bytealg.MakeNoZero", "slices.overlaps[loop.example/versioncontrol/impl.File]", "slices.overlaps[loop.example/versioncontrol/impl.Head]"], unfollowed := true, recurses := true, named := ["unicode/utf8.first", "unicode/utf8.acceptRanges", "internal/bytealg.MaxLen"], apart := false, laid := [("unicode/utf8.acceptRanges", laid_unicode_utf8_acceptRanges), ("unicode/utf8.first", laid_unicode_utf8_first)], narrowed := true }
def FnExactRepoDoUptoSaid : Prop := fnExactRepoDoUptoRow.holds Tryz.pinned (OpenSpec.upto fnExactRepoDoSpec)

end Rows
end Go.Proofs.YtokdjnbcdokpjabGreatDoor
