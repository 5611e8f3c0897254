/-
  NARROWER THAN 'FOR EVERY INPUT', by the rows' own cells (each row's printed sentence says how): FnStatOf: laid · FnQueueLeft: laid · FnExactQueueLeft: laid · FnUniteInto: laid · FnUniteMade: laid · FnRepoText: laid · FnPickUnite: laid · FnPickOnto: laid.
  DERIVED. THE GIVEN ROWS OF THIS SEAT. 8 by the template 'for every input the law returns true; each argument reads behind the call as it read before'; 0 by the template 'total and deterministic' (their statements: YtokdjnbcdokpjaaGreatDoorTotals.lean).
  GIVEN WITH THE SEED: the statements are not yours to turn. If you find one false, say at which input.
  Laid BY PROGRAM, IN A SANDBOX (cutbox-rows.mjs): the forced cells as the released guide's own fill.sh prints them over the translation 67bf9db4fe5554fe… (all of the seat's roots in one cut). By AI agents, Wed Nov 11 2026. No macro, syntax, notation, axiom, sorry.
-/
import Derived.Test.YtokdjnbcdokpjaaGreatDoorChecked
import GoSem.PinnedTables
import GoSem.Claim
import GoSem.ClaimJoined
import GoSem.ClaimMapViews
import Derived.JoinedTies
import Derived.KernelRfl
namespace Go.Proofs.YtokdjnbcdokpjaaGreatDoor
/- THE CELL 'sum', in the pinned program and in every row, IS THE sha256 OF THE DUMP (.gsa) THAT YtokdjnbcdokpjaaGreatDoorProg.lean LOADS. Nothing in Lean hashes anything: it is a label: what it is worth is what the hold of that sum in a sandbox is worth. -/
noncomputable def Tryz.pinned : Pinned := { name := "ytokdjnbcdokpjaagreatdoor", sum := "67bf9db4fe5554fe82e6d05bd94d91580aa9414f28246f9796e001002e147015", checked := Tryz.checked }
namespace Rows
def none {H : Type} : Left H := { results := [], args := [] }

/- WHAT THE LISTED PACKAGE-LEVEL VARIABLES READ AS WHEN THE CALL BEGINS. Each datum BY PROGRAM (the guide's laid-datum.mjs) off the statement by which the dump's own 'gosem.cut.vars' lays the variable. In a bare row this is a premise. The card (YtokdjnbcdokpjaaGreatDoorCards.lean) ties it to the program's text. -/
def laid_unicode_utf8_acceptRanges {H : Type} : DataW H := .agg [.agg [.lit (.int .u8 128), .lit (.int .u8 191)], .agg [.lit (.int .u8 160), .lit (.int .u8 191)], .agg [.lit (.int .u8 128), .lit (.int .u8 159)], .agg [.lit (.int .u8 144), .lit (.int .u8 191)], .agg [.lit (.int .u8 128), .lit (.int .u8 143)], .agg [.lit (.int .u8 0), .lit (.int .u8 0)], .agg [.lit (.int .u8 0), .lit (.int .u8 0)], .agg [.lit (.int .u8 0), .lit (.int .u8 0)], .agg [.lit (.int .u8 0), .lit (.int .u8 0)], .agg [.lit (.int .u8 0), .lit (.int .u8 0)], .agg [.lit (.int .u8 0), .lit (.int .u8 0)], .agg [.lit (.int .u8 0), .lit (.int .u8 0)], .agg [.lit (.int .u8 0), .lit (.int .u8 0)], .agg [.lit (.int .u8 0), .lit (.int .u8 0)], .agg [.lit (.int .u8 0), .lit (.int .u8 0)], .agg [.lit (.int .u8 0), .lit (.int .u8 0)]]
/-- One of Go's own tables, pinned by name: the form's constant. -/
def laid_unicode_utf8_first : DataW Unit := Go.Pinned.utf8First

/-- 'laws.FnStatOf': WHATEVER THE INPUT: true; the input reads as it did. -/
def fnStatOfSpec : ChangeSpec := { name := "fnStatOf", fn := fun _ => fun
  | [d] => { results := [.lit (.bool true)], args := [d] }
  | _ => none }
def fnStatOfRow : OpenClaim := { program := "ytokdjnbcdokpjaagreatdoor", sum := "67bf9db4fe5554fe82e6d05bd94d91580aa9414f28246f9796e001002e147015", func := "loop.example/versioncontrol/laws.FnStatOf", spec := "fnStatOf", inPlace := ["internal/bytealg.CountString", "internal/bytealg.IndexByteString", "internal/bytealg.IndexString"], recurses := true, named := ["unicode/utf8.first", "unicode/utf8.acceptRanges", "internal/bytealg.MaxLen"], apart := false, laid := [("unicode/utf8.acceptRanges", laid_unicode_utf8_acceptRanges), ("unicode/utf8.first", laid_unicode_utf8_first)] }
def FnStatOfSaid : Prop := fnStatOfRow.holds Tryz.pinned (OpenSpec.ofChange fnStatOfSpec)

/-- ITS FALSE NEIGHBOUR: 'it returns false'. Refute it at one input. -/
def fnStatOfWrong : ChangeSpec := { name := "fnStatOf", fn := fun _ => fun
  | [d] => { results := [.lit (.bool false)], args := [d] }
  | _ => none }
def FnStatOfWrongFalsely : Prop := fnStatOfRow.holds Tryz.pinned (OpenSpec.ofChange fnStatOfWrong)

/-- 'laws.FnQueueLeft': WHATEVER THE INPUT: true; the input reads as it did. -/
def fnQueueLeftSpec : ChangeSpec := { name := "fnQueueLeft", fn := fun _ => fun
  | [d] => { results := [.lit (.bool true)], args := [d] }
  | _ => none }
def fnQueueLeftRow : OpenClaim := { program := "ytokdjnbcdokpjaagreatdoor", sum := "67bf9db4fe5554fe82e6d05bd94d91580aa9414f28246f9796e001002e147015", func := "loop.example/versioncontrol/laws.FnQueueLeft", spec := "fnQueueLeft", inPlace := ["internal/bytealg.CountString", "internal/bytealg.IndexByteString", "internal/bytealg.IndexString", "slices.overlaps[loop.example/versioncontrol/impl.Head]"], unfollowed := true, recurses := true, named := ["unicode/utf8.first", "unicode/utf8.acceptRanges", "internal/bytealg.MaxLen"], apart := false, laid := [("unicode/utf8.acceptRanges", laid_unicode_utf8_acceptRanges), ("unicode/utf8.first", laid_unicode_utf8_first)] }
def FnQueueLeftSaid : Prop := fnQueueLeftRow.holds Tryz.pinned (OpenSpec.ofChange fnQueueLeftSpec)

/-- ITS FALSE NEIGHBOUR: 'it returns false'. Refute it at one input. -/
def fnQueueLeftWrong : ChangeSpec := { name := "fnQueueLeft", fn := fun _ => fun
  | [d] => { results := [.lit (.bool false)], args := [d] }
  | _ => none }
def FnQueueLeftWrongFalsely : Prop := fnQueueLeftRow.holds Tryz.pinned (OpenSpec.ofChange fnQueueLeftWrong)

/-- 'laws.FnExactQueueLeft': WHATEVER THE INPUT: true; the input reads as it did. -/
def fnExactQueueLeftSpec : ChangeSpec := { name := "fnExactQueueLeft", fn := fun _ => fun
  | [d1, d2, d3, d4] => { results := [.lit (.bool true)], args := [d1, d2, d3, d4] }
  | _ => none }
def fnExactQueueLeftRow : OpenClaim := { program := "ytokdjnbcdokpjaagreatdoor", sum := "67bf9db4fe5554fe82e6d05bd94d91580aa9414f28246f9796e001002e147015", func := "loop.example/versioncontrol/laws.FnExactQueueLeft", spec := "fnExactQueueLeft", inPlace := ["internal/bytealg.CountString", "internal/bytealg.IndexByteString", "internal/bytealg.IndexString", "slices.overlaps[loop.example/versioncontrol/impl.Head]"], unfollowed := true, recurses := true, named := ["unicode/utf8.first", "unicode/utf8.acceptRanges", "internal/bytealg.MaxLen"], apart := false, laid := [("unicode/utf8.acceptRanges", laid_unicode_utf8_acceptRanges), ("unicode/utf8.first", laid_unicode_utf8_first)] }
def FnExactQueueLeftSaid : Prop := fnExactQueueLeftRow.holds Tryz.pinned (OpenSpec.ofChange fnExactQueueLeftSpec)

/-- ITS FALSE NEIGHBOUR: 'it returns false'. Refute it at one input. -/
def fnExactQueueLeftWrong : ChangeSpec := { name := "fnExactQueueLeft", fn := fun _ => fun
  | [d1, d2, d3, d4] => { results := [.lit (.bool false)], args := [d1, d2, d3, d4] }
  | _ => none }
def FnExactQueueLeftWrongFalsely : Prop := fnExactQueueLeftRow.holds Tryz.pinned (OpenSpec.ofChange fnExactQueueLeftWrong)

/-- 'laws.FnUniteInto': WHATEVER THE INPUT: true; the input reads as it did. -/
def fnUniteIntoSpec : ChangeSpec := { name := "fnUniteInto", fn := fun _ => fun
  | [d] => { results := [.lit (.bool true)], args := [d] }
  | _ => none }
def fnUniteIntoRow : OpenClaim := { program := "ytokdjnbcdokpjaagreatdoor", sum := "67bf9db4fe5554fe82e6d05bd94d91580aa9414f28246f9796e001002e147015", func := "loop.example/versioncontrol/laws.FnUniteInto", spec := "fnUniteInto", inPlace := ["internal/bytealg.CountString", "internal/bytealg.IndexByteString", "internal/bytealg.IndexString", "slices.overlaps[loop.example/versioncontrol/impl.Head]"], unfollowed := true, recurses := true, named := ["unicode/utf8.first", "unicode/utf8.acceptRanges", "internal/bytealg.MaxLen"], apart := false, laid := [("unicode/utf8.acceptRanges", laid_unicode_utf8_acceptRanges), ("unicode/utf8.first", laid_unicode_utf8_first)] }
def FnUniteIntoSaid : Prop := fnUniteIntoRow.holds Tryz.pinned (OpenSpec.ofChange fnUniteIntoSpec)

/-- ITS FALSE NEIGHBOUR: 'it returns false'. Refute it at one input. -/
def fnUniteIntoWrong : ChangeSpec := { name := "fnUniteInto", fn := fun _ => fun
  | [d] => { results := [.lit (.bool false)], args := [d] }
  | _ => none }
def FnUniteIntoWrongFalsely : Prop := fnUniteIntoRow.holds Tryz.pinned (OpenSpec.ofChange fnUniteIntoWrong)

/-- 'laws.FnUniteMade': WHATEVER THE INPUT: true; the input reads as it did. -/
def fnUniteMadeSpec : ChangeSpec := { name := "fnUniteMade", fn := fun _ => fun
  | [d] => { results := [.lit (.bool true)], args := [d] }
  | _ => none }
def fnUniteMadeRow : OpenClaim := { program := "ytokdjnbcdokpjaagreatdoor", sum := "67bf9db4fe5554fe82e6d05bd94d91580aa9414f28246f9796e001002e147015", func := "loop.example/versioncontrol/laws.FnUniteMade", spec := "fnUniteMade", inPlace := ["internal/bytealg.CountString", "internal/bytealg.IndexByteString", "internal/bytealg.IndexString", "slices.overlaps[loop.example/versioncontrol/impl.Head]"], unfollowed := true, recurses := true, named := ["unicode/utf8.first", "unicode/utf8.acceptRanges", "internal/bytealg.MaxLen"], apart := false, laid := [("unicode/utf8.acceptRanges", laid_unicode_utf8_acceptRanges), ("unicode/utf8.first", laid_unicode_utf8_first)] }
def FnUniteMadeSaid : Prop := fnUniteMadeRow.holds Tryz.pinned (OpenSpec.ofChange fnUniteMadeSpec)

/-- ITS FALSE NEIGHBOUR: 'it returns false'. Refute it at one input. -/
def fnUniteMadeWrong : ChangeSpec := { name := "fnUniteMade", fn := fun _ => fun
  | [d] => { results := [.lit (.bool false)], args := [d] }
  | _ => none }
def FnUniteMadeWrongFalsely : Prop := fnUniteMadeRow.holds Tryz.pinned (OpenSpec.ofChange fnUniteMadeWrong)

/-- 'laws.FnRepoText': WHATEVER THE INPUT: true; the input reads as it did. -/
def fnRepoTextSpec : ChangeSpec := { name := "fnRepoText", fn := fun _ => fun
  | [d] => { results := [.lit (.bool true)], args := [d] }
  | _ => none }
def fnRepoTextRow : OpenClaim := { program := "ytokdjnbcdokpjaagreatdoor", sum := "67bf9db4fe5554fe82e6d05bd94d91580aa9414f28246f9796e001002e147015", func := "loop.example/versioncontrol/laws.FnRepoText", spec := "fnRepoText", inPlace := ["internal/bytealg.CountString", "internal/bytealg.IndexByteString", "internal/bytealg.IndexString", "slices.overlaps[loop.example/versioncontrol/impl.Head]"], unfollowed := true, recurses := true, named := ["unicode/utf8.first", "unicode/utf8.acceptRanges", "internal/bytealg.MaxLen"], apart := false, laid := [("unicode/utf8.acceptRanges", laid_unicode_utf8_acceptRanges), ("unicode/utf8.first", laid_unicode_utf8_first)] }
def FnRepoTextSaid : Prop := fnRepoTextRow.holds Tryz.pinned (OpenSpec.ofChange fnRepoTextSpec)

/-- ITS FALSE NEIGHBOUR: 'it returns false'. Refute it at one input. -/
def fnRepoTextWrong : ChangeSpec := { name := "fnRepoText", fn := fun _ => fun
  | [d] => { results := [.lit (.bool false)], args := [d] }
  | _ => none }
def FnRepoTextWrongFalsely : Prop := fnRepoTextRow.holds Tryz.pinned (OpenSpec.ofChange fnRepoTextWrong)

/-- 'laws.FnPickUnite': WHATEVER THE INPUT: true; the input reads as it did. -/
def fnPickUniteSpec : ChangeSpec := { name := "fnPickUnite", fn := fun _ => fun
  | [d] => { results := [.lit (.bool true)], args := [d] }
  | _ => none }
def fnPickUniteRow : OpenClaim := { program := "ytokdjnbcdokpjaagreatdoor", sum := "67bf9db4fe5554fe82e6d05bd94d91580aa9414f28246f9796e001002e147015", func := "loop.example/versioncontrol/laws.FnPickUnite", spec := "fnPickUnite", inPlace := ["internal/bytealg.CountString", "internal/bytealg.IndexByteString", "internal/bytealg.IndexString", "slices.overlaps[loop.example/versioncontrol/impl.Head]"], unfollowed := true, recurses := true, named := ["unicode/utf8.first", "unicode/utf8.acceptRanges", "internal/bytealg.MaxLen"], apart := false, laid := [("unicode/utf8.acceptRanges", laid_unicode_utf8_acceptRanges), ("unicode/utf8.first", laid_unicode_utf8_first)] }
def FnPickUniteSaid : Prop := fnPickUniteRow.holds Tryz.pinned (OpenSpec.ofChange fnPickUniteSpec)

/-- ITS FALSE NEIGHBOUR: 'it returns false'. Refute it at one input. -/
def fnPickUniteWrong : ChangeSpec := { name := "fnPickUnite", fn := fun _ => fun
  | [d] => { results := [.lit (.bool false)], args := [d] }
  | _ => none }
def FnPickUniteWrongFalsely : Prop := fnPickUniteRow.holds Tryz.pinned (OpenSpec.ofChange fnPickUniteWrong)

/-- 'laws.FnPickOnto': WHATEVER THE INPUT: true; the input reads as it did. -/
def fnPickOntoSpec : ChangeSpec := { name := "fnPickOnto", fn := fun _ => fun
  | [d] => { results := [.lit (.bool true)], args := [d] }
  | _ => none }
def fnPickOntoRow : OpenClaim := { program := "ytokdjnbcdokpjaagreatdoor", sum := "67bf9db4fe5554fe82e6d05bd94d91580aa9414f28246f9796e001002e147015", func := "loop.example/versioncontrol/laws.FnPickOnto", spec := "fnPickOnto", inPlace := ["internal/bytealg.CountString", "internal/bytealg.IndexByteString", "internal/bytealg.IndexString", "slices.overlaps[loop.example/versioncontrol/impl.Head]"], unfollowed := true, recurses := true, named := ["unicode/utf8.first", "unicode/utf8.acceptRanges", "internal/bytealg.MaxLen"], apart := false, laid := [("unicode/utf8.acceptRanges", laid_unicode_utf8_acceptRanges), ("unicode/utf8.first", laid_unicode_utf8_first)] }
def FnPickOntoSaid : Prop := fnPickOntoRow.holds Tryz.pinned (OpenSpec.ofChange fnPickOntoSpec)

/-- ITS FALSE NEIGHBOUR: 'it returns false'. Refute it at one input. -/
def fnPickOntoWrong : ChangeSpec := { name := "fnPickOnto", fn := fun _ => fun
  | [d] => { results := [.lit (.bool false)], args := [d] }
  | _ => none }
def FnPickOntoWrongFalsely : Prop := fnPickOntoRow.holds Tryz.pinned (OpenSpec.ofChange fnPickOntoWrong)

/- THE SECOND FORM. 'bulk': how many values and letters a reading holds, each counted each time it is reached (what is shared counts as often as it is met; a slice's spare places count too). A statement '..UptoSaid' is the law's where the arguments, and the package variables that the reading takes, are together of bulk at most 1048576: NARROWER than '..Said'. Prove '..Said' where nothing that the law and all that it calls make is longer than what came in: it says more and counts as full. Else prove '..UptoSaid'. A law counts once. -/
mutual
def uptoBulk {H : Type} : DataW H → Nat
  | .lit (.string bytes) => bytes.length + 1
  | .lit _ => 1
  | .nil => 1
  | .ptr d => uptoBulk d + 1
  | .slice elems spare => uptoBulkAll elems + uptoBulkAll spare + 1
  | .agg parts => uptoBulkAll parts + 1
  | .iface _ d => uptoBulk d + 1
  | .map entries => uptoBulkEntries entries + 1
  | .held _ => 1
def uptoBulkAll {H : Type} : List (DataW H) → Nat
  | [] => 0
  | d :: r => uptoBulk d + uptoBulkAll r
def uptoBulkEntries {H : Type} : List (Lit × DataW H) → Nat
  | [] => 0
  | x :: r => uptoBulkEntry x + uptoBulkEntries r
def uptoBulkEntry {H : Type} : Lit × DataW H → Nat
  | (.string bytes, d) => bytes.length + uptoBulk d + 1
  | (_, d) => uptoBulk d + 1
 end
def uptoSmall : (H : Type) → List (DataW H) → Bool := fun _ ds => decide (uptoBulkAll ds ≤ 1048576)
def OpenSpec.upto (s : _root_.Go.ChangeSpec) : _root_.Go.OpenSpec := { _root_.Go.OpenSpec.ofChange s with cond := some uptoSmall }

/-- 'laws.FnStatOf', WHERE WHAT IT READS IS OF BULK AT MOST 1048576: true; the input reads as it did. -/
def fnStatOfUptoRow : OpenClaim := { program := "ytokdjnbcdokpjaagreatdoor", sum := "67bf9db4fe5554fe82e6d05bd94d91580aa9414f28246f9796e001002e147015", func := "loop.example/versioncontrol/laws.FnStatOf", spec := "fnStatOf", inPlace := ["internal/bytealg.CountString", "internal/bytealg.IndexByteString", "internal/bytealg.IndexString"], recurses := true, named := ["unicode/utf8.first", "unicode/utf8.acceptRanges", "internal/bytealg.MaxLen"], apart := false, laid := [("unicode/utf8.acceptRanges", laid_unicode_utf8_acceptRanges), ("unicode/utf8.first", laid_unicode_utf8_first)], narrowed := true }
def FnStatOfUptoSaid : Prop := fnStatOfUptoRow.holds Tryz.pinned (OpenSpec.upto fnStatOfSpec)

/-- 'laws.FnQueueLeft', WHERE WHAT IT READS IS OF BULK AT MOST 1048576: true; the input reads as it did. -/
def fnQueueLeftUptoRow : OpenClaim := { program := "ytokdjnbcdokpjaagreatdoor", sum := "67bf9db4fe5554fe82e6d05bd94d91580aa9414f28246f9796e001002e147015", func := "loop.example/versioncontrol/laws.FnQueueLeft", spec := "fnQueueLeft", inPlace := ["internal/bytealg.CountString", "internal/bytealg.IndexByteString", "internal/bytealg.IndexString", "slices.overlaps[loop.example/versioncontrol/impl.Head]"], unfollowed := true, recurses := true, named := ["unicode/utf8.first", "unicode/utf8.acceptRanges", "internal/bytealg.MaxLen"], apart := false, laid := [("unicode/utf8.acceptRanges", laid_unicode_utf8_acceptRanges), ("unicode/utf8.first", laid_unicode_utf8_first)], narrowed := true }
def FnQueueLeftUptoSaid : Prop := fnQueueLeftUptoRow.holds Tryz.pinned (OpenSpec.upto fnQueueLeftSpec)

/-- 'laws.FnExactQueueLeft', WHERE WHAT IT READS IS OF BULK AT MOST 1048576: true; the input reads as it did. -/
def fnExactQueueLeftUptoRow : OpenClaim := { program := "ytokdjnbcdokpjaagreatdoor", sum := "67bf9db4fe5554fe82e6d05bd94d91580aa9414f28246f9796e001002e147015", func := "loop.example/versioncontrol/laws.FnExactQueueLeft", spec := "fnExactQueueLeft", inPlace := ["internal/bytealg.CountString", "internal/bytealg.IndexByteString", "internal/bytealg.IndexString", "slices.overlaps[loop.example/versioncontrol/impl.Head]"], unfollowed := true, recurses := true, named := ["unicode/utf8.first", "unicode/utf8.acceptRanges", "internal/bytealg.MaxLen"], apart := false, laid := [("unicode/utf8.acceptRanges", laid_unicode_utf8_acceptRanges), ("unicode/utf8.first", laid_unicode_utf8_first)], narrowed := true }
def FnExactQueueLeftUptoSaid : Prop := fnExactQueueLeftUptoRow.holds Tryz.pinned (OpenSpec.upto fnExactQueueLeftSpec)

/-- 'laws.FnUniteInto', WHERE WHAT IT READS IS OF BULK AT MOST 1048576: true; the input reads as it did. -/
def fnUniteIntoUptoRow : OpenClaim := { program := "ytokdjnbcdokpjaagreatdoor", sum := "67bf9db4fe5554fe82e6d05bd94d91580aa9414f28246f9796e001002e147015", func := "loop.example/versioncontrol/laws.FnUniteInto", spec := "fnUniteInto", inPlace := ["internal/bytealg.CountString", "internal/bytealg.IndexByteString", "internal/bytealg.IndexString", "slices.overlaps[loop.example/versioncontrol/impl.Head]"], unfollowed := true, recurses := true, named := ["unicode/utf8.first", "unicode/utf8.acceptRanges", "internal/bytealg.MaxLen"], apart := false, laid := [("unicode/utf8.acceptRanges", laid_unicode_utf8_acceptRanges), ("unicode/utf8.first", laid_unicode_utf8_first)], narrowed := true }
def FnUniteIntoUptoSaid : Prop := fnUniteIntoUptoRow.holds Tryz.pinned (OpenSpec.upto fnUniteIntoSpec)

/-- 'laws.FnUniteMade', WHERE WHAT IT READS IS OF BULK AT MOST 1048576: true; the input reads as it did. -/
def fnUniteMadeUptoRow : OpenClaim := { program := "ytokdjnbcdokpjaagreatdoor", sum := "67bf9db4fe5554fe82e6d05bd94d91580aa9414f28246f9796e001002e147015", func := "loop.example/versioncontrol/laws.FnUniteMade", spec := "fnUniteMade", inPlace := ["internal/bytealg.CountString", "internal/bytealg.IndexByteString", "internal/bytealg.IndexString", "slices.overlaps[loop.example/versioncontrol/impl.Head]"], unfollowed := true, recurses := true, named := ["unicode/utf8.first", "unicode/utf8.acceptRanges", "internal/bytealg.MaxLen"], apart := false, laid := [("unicode/utf8.acceptRanges", laid_unicode_utf8_acceptRanges), ("unicode/utf8.first", laid_unicode_utf8_first)], narrowed := true }
def FnUniteMadeUptoSaid : Prop := fnUniteMadeUptoRow.holds Tryz.pinned (OpenSpec.upto fnUniteMadeSpec)

/-- 'laws.FnRepoText', WHERE WHAT IT READS IS OF BULK AT MOST 1048576: true; the input reads as it did. -/
def fnRepoTextUptoRow : OpenClaim := { program := "ytokdjnbcdokpjaagreatdoor", sum := "67bf9db4fe5554fe82e6d05bd94d91580aa9414f28246f9796e001002e147015", func := "loop.example/versioncontrol/laws.FnRepoText", spec := "fnRepoText", inPlace := ["internal/bytealg.CountString", "internal/bytealg.IndexByteString", "internal/bytealg.IndexString", "slices.overlaps[loop.example/versioncontrol/impl.Head]"], unfollowed := true, recurses := true, named := ["unicode/utf8.first", "unicode/utf8.acceptRanges", "internal/bytealg.MaxLen"], apart := false, laid := [("unicode/utf8.acceptRanges", laid_unicode_utf8_acceptRanges), ("unicode/utf8.first", laid_unicode_utf8_first)], narrowed := true }
def FnRepoTextUptoSaid : Prop := fnRepoTextUptoRow.holds Tryz.pinned (OpenSpec.upto fnRepoTextSpec)

/-- 'laws.FnPickUnite', WHERE WHAT IT READS IS OF BULK AT MOST 1048576: true; the input reads as it did. -/
def fnPickUniteUptoRow : OpenClaim := { program := "ytokdjnbcdokpjaagreatdoor", sum := "67bf9db4fe5554fe82e6d05bd94d91580aa9414f28246f9796e001002e147015", func := "loop.example/versioncontrol/laws.FnPickUnite", spec := "fnPickUnite", inPlace := ["internal/bytealg.CountString", "internal/bytealg.IndexByteString", "internal/bytealg.IndexString", "slices.overlaps[loop.example/versioncontrol/impl.Head]"], unfollowed := true, recurses := true, named := ["unicode/utf8.first", "unicode/utf8.acceptRanges", "internal/bytealg.MaxLen"], apart := false, laid := [("unicode/utf8.acceptRanges", laid_unicode_utf8_acceptRanges), ("unicode/utf8.first", laid_unicode_utf8_first)], narrowed := true }
def FnPickUniteUptoSaid : Prop := fnPickUniteUptoRow.holds Tryz.pinned (OpenSpec.upto fnPickUniteSpec)

/-- 'laws.FnPickOnto', WHERE WHAT IT READS IS OF BULK AT MOST 1048576: true; the input reads as it did. -/
def fnPickOntoUptoRow : OpenClaim := { program := "ytokdjnbcdokpjaagreatdoor", sum := "67bf9db4fe5554fe82e6d05bd94d91580aa9414f28246f9796e001002e147015", func := "loop.example/versioncontrol/laws.FnPickOnto", spec := "fnPickOnto", inPlace := ["internal/bytealg.CountString", "internal/bytealg.IndexByteString", "internal/bytealg.IndexString", "slices.overlaps[loop.example/versioncontrol/impl.Head]"], unfollowed := true, recurses := true, named := ["unicode/utf8.first", "unicode/utf8.acceptRanges", "internal/bytealg.MaxLen"], apart := false, laid := [("unicode/utf8.acceptRanges", laid_unicode_utf8_acceptRanges), ("unicode/utf8.first", laid_unicode_utf8_first)], narrowed := true }
def FnPickOntoUptoSaid : Prop := fnPickOntoUptoRow.holds Tryz.pinned (OpenSpec.upto fnPickOntoSpec)

end Rows
end Go.Proofs.YtokdjnbcdokpjaaGreatDoor
