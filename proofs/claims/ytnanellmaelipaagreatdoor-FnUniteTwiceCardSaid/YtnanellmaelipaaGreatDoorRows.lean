/-
  NARROWER THAN 'FOR EVERY INPUT', by the rows' own cells (each row's printed sentence says how): FnMarkNear: laid · FnSeekSince: laid · FnMarkPut: laid · FnStatOf: laid · FnReviewNeed: laid · FnUniteTwice: laid · FnQueueLeft: laid · FnExactQueueLeft: laid · FnUniteInto: laid · FnUniteMade: laid · FnExactQueueRun: laid · FnQueueRun: laid.
  DERIVED. THE GIVEN ROWS OF THIS SEAT. 12 by the template 'for every input the law returns true; each argument reads behind the call as it read before'; 0 by the template 'total and deterministic' (their statements: YtnanellmaelipaaGreatDoorTotals.lean).
  GIVEN WITH THE SEED: the statements are not yours to turn. If you find one false, say at which input.
  Laid BY PROGRAM, IN A SANDBOX (cutbox-rows.mjs): the forced cells as the released guide's own fill.sh prints them over the translation f7deaff68ebada25… (all of the seat's roots in one cut). By AI agents, Wed Nov 11 2026. No macro, syntax, notation, axiom, sorry.
-/
import Derived.Test.YtnanellmaelipaaGreatDoorChecked
import GoSem.PinnedTables
import GoSem.Claim
import GoSem.ClaimJoined
import GoSem.ClaimMapViews
import Derived.JoinedTies
import Derived.KernelRfl
namespace Go.Proofs.YtnanellmaelipaaGreatDoor
/- THE CELL 'sum', in the pinned program and in every row, IS THE sha256 OF THE DUMP (.gsa) THAT YtnanellmaelipaaGreatDoorProg.lean LOADS. Nothing in Lean hashes anything: it is a label: what it is worth is what the hold of that sum in a sandbox is worth. -/
noncomputable def Tryz.pinned : Pinned := { name := "ytnanellmaelipaagreatdoor", sum := "f7deaff68ebada25f9d41b856e57725ad500c705ca7253b31331605c59c31773", checked := Tryz.checked }
namespace Rows
def none {H : Type} : Left H := { results := [], args := [] }

/- WHAT THE LISTED PACKAGE-LEVEL VARIABLES READ AS WHEN THE CALL BEGINS. Each datum BY PROGRAM (the guide's laid-datum.mjs) off the statement by which the dump's own 'gosem.cut.vars' lays the variable. In a bare row this is a premise. The card (YtnanellmaelipaaGreatDoorCards.lean) ties it to the program's text. -/
def laid_unicode_utf8_acceptRanges {H : Type} : DataW H := .agg [.agg [.lit (.int .u8 128), .lit (.int .u8 191)], .agg [.lit (.int .u8 160), .lit (.int .u8 191)], .agg [.lit (.int .u8 128), .lit (.int .u8 159)], .agg [.lit (.int .u8 144), .lit (.int .u8 191)], .agg [.lit (.int .u8 128), .lit (.int .u8 143)], .agg [.lit (.int .u8 0), .lit (.int .u8 0)], .agg [.lit (.int .u8 0), .lit (.int .u8 0)], .agg [.lit (.int .u8 0), .lit (.int .u8 0)], .agg [.lit (.int .u8 0), .lit (.int .u8 0)], .agg [.lit (.int .u8 0), .lit (.int .u8 0)], .agg [.lit (.int .u8 0), .lit (.int .u8 0)], .agg [.lit (.int .u8 0), .lit (.int .u8 0)], .agg [.lit (.int .u8 0), .lit (.int .u8 0)], .agg [.lit (.int .u8 0), .lit (.int .u8 0)], .agg [.lit (.int .u8 0), .lit (.int .u8 0)], .agg [.lit (.int .u8 0), .lit (.int .u8 0)]]
/-- One of Go's own tables, pinned by name: the form's constant. -/
def laid_unicode_utf8_first : DataW Unit := Go.Pinned.utf8First

/-- 'laws.FnMarkNear': WHATEVER THE INPUT: true; the input reads as it did. -/
def fnMarkNearSpec : ChangeSpec := { name := "fnMarkNear", fn := fun _ => fun
  | [d] => { results := [.lit (.bool true)], args := [d] }
  | _ => none }
def fnMarkNearRow : OpenClaim := { program := "ytnanellmaelipaagreatdoor", sum := "f7deaff68ebada25f9d41b856e57725ad500c705ca7253b31331605c59c31773", func := "loop.example/versioncontrol/laws.FnMarkNear", spec := "fnMarkNear", inPlace := ["internal/bytealg.CountString", "internal/bytealg.IndexByteString", "internal/bytealg.IndexString"], named := ["unicode/utf8.first", "unicode/utf8.acceptRanges", "internal/bytealg.MaxLen"], apart := false, laid := [("unicode/utf8.acceptRanges", laid_unicode_utf8_acceptRanges), ("unicode/utf8.first", laid_unicode_utf8_first)] }
def FnMarkNearSaid : Prop := fnMarkNearRow.holds Tryz.pinned (OpenSpec.ofChange fnMarkNearSpec)

/-- ITS FALSE NEIGHBOUR: 'it returns false'. Refute it at one input. -/
def fnMarkNearWrong : ChangeSpec := { name := "fnMarkNear", fn := fun _ => fun
  | [d] => { results := [.lit (.bool false)], args := [d] }
  | _ => none }
def FnMarkNearWrongFalsely : Prop := fnMarkNearRow.holds Tryz.pinned (OpenSpec.ofChange fnMarkNearWrong)

/-- 'laws.FnSeekSince': WHATEVER THE INPUT: true; the input reads as it did. -/
def fnSeekSinceSpec : ChangeSpec := { name := "fnSeekSince", fn := fun _ => fun
  | [d] => { results := [.lit (.bool true)], args := [d] }
  | _ => none }
def fnSeekSinceRow : OpenClaim := { program := "ytnanellmaelipaagreatdoor", sum := "f7deaff68ebada25f9d41b856e57725ad500c705ca7253b31331605c59c31773", func := "loop.example/versioncontrol/laws.FnSeekSince", spec := "fnSeekSince", inPlace := ["internal/bytealg.CountString", "internal/bytealg.IndexByteString", "internal/bytealg.IndexString"], unfollowed := true, recurses := true, named := ["unicode/utf8.first", "unicode/utf8.acceptRanges", "internal/bytealg.MaxLen"], apart := false, laid := [("unicode/utf8.acceptRanges", laid_unicode_utf8_acceptRanges), ("unicode/utf8.first", laid_unicode_utf8_first)] }
def FnSeekSinceSaid : Prop := fnSeekSinceRow.holds Tryz.pinned (OpenSpec.ofChange fnSeekSinceSpec)

/-- ITS FALSE NEIGHBOUR: 'it returns false'. Refute it at one input. -/
def fnSeekSinceWrong : ChangeSpec := { name := "fnSeekSince", fn := fun _ => fun
  | [d] => { results := [.lit (.bool false)], args := [d] }
  | _ => none }
def FnSeekSinceWrongFalsely : Prop := fnSeekSinceRow.holds Tryz.pinned (OpenSpec.ofChange fnSeekSinceWrong)

/-- 'laws.FnMarkPut': WHATEVER THE INPUT: true; the input reads as it did. -/
def fnMarkPutSpec : ChangeSpec := { name := "fnMarkPut", fn := fun _ => fun
  | [d] => { results := [.lit (.bool true)], args := [d] }
  | _ => none }
def fnMarkPutRow : OpenClaim := { program := "ytnanellmaelipaagreatdoor", sum := "f7deaff68ebada25f9d41b856e57725ad500c705ca7253b31331605c59c31773", func := "loop.example/versioncontrol/laws.FnMarkPut", spec := "fnMarkPut", inPlace := ["internal/bytealg.CountString", "internal/bytealg.IndexByteString", "internal/bytealg.IndexString", "slices.overlaps[loop.example/versioncontrol/impl.Head]"], named := ["unicode/utf8.first", "unicode/utf8.acceptRanges", "internal/bytealg.MaxLen"], apart := false, laid := [("unicode/utf8.acceptRanges", laid_unicode_utf8_acceptRanges), ("unicode/utf8.first", laid_unicode_utf8_first)] }
def FnMarkPutSaid : Prop := fnMarkPutRow.holds Tryz.pinned (OpenSpec.ofChange fnMarkPutSpec)

/-- ITS FALSE NEIGHBOUR: 'it returns false'. Refute it at one input. -/
def fnMarkPutWrong : ChangeSpec := { name := "fnMarkPut", fn := fun _ => fun
  | [d] => { results := [.lit (.bool false)], args := [d] }
  | _ => none }
def FnMarkPutWrongFalsely : Prop := fnMarkPutRow.holds Tryz.pinned (OpenSpec.ofChange fnMarkPutWrong)

/-- 'laws.FnStatOf': WHATEVER THE INPUT: true; the input reads as it did. -/
def fnStatOfSpec : ChangeSpec := { name := "fnStatOf", fn := fun _ => fun
  | [d] => { results := [.lit (.bool true)], args := [d] }
  | _ => none }
def fnStatOfRow : OpenClaim := { program := "ytnanellmaelipaagreatdoor", sum := "f7deaff68ebada25f9d41b856e57725ad500c705ca7253b31331605c59c31773", func := "loop.example/versioncontrol/laws.FnStatOf", spec := "fnStatOf", inPlace := ["internal/bytealg.CountString", "internal/bytealg.IndexByteString", "internal/bytealg.IndexString"], recurses := true, named := ["unicode/utf8.first", "unicode/utf8.acceptRanges", "internal/bytealg.MaxLen"], apart := false, laid := [("unicode/utf8.acceptRanges", laid_unicode_utf8_acceptRanges), ("unicode/utf8.first", laid_unicode_utf8_first)] }
def FnStatOfSaid : Prop := fnStatOfRow.holds Tryz.pinned (OpenSpec.ofChange fnStatOfSpec)

/-- ITS FALSE NEIGHBOUR: 'it returns false'. Refute it at one input. -/
def fnStatOfWrong : ChangeSpec := { name := "fnStatOf", fn := fun _ => fun
  | [d] => { results := [.lit (.bool false)], args := [d] }
  | _ => none }
def FnStatOfWrongFalsely : Prop := fnStatOfRow.holds Tryz.pinned (OpenSpec.ofChange fnStatOfWrong)

/-- 'laws.FnReviewNeed': WHATEVER THE INPUT: true; the input reads as it did. -/
def fnReviewNeedSpec : ChangeSpec := { name := "fnReviewNeed", fn := fun _ => fun
  | [d] => { results := [.lit (.bool true)], args := [d] }
  | _ => none }
def fnReviewNeedRow : OpenClaim := { program := "ytnanellmaelipaagreatdoor", sum := "f7deaff68ebada25f9d41b856e57725ad500c705ca7253b31331605c59c31773", func := "loop.example/versioncontrol/laws.FnReviewNeed", spec := "fnReviewNeed", inPlace := ["internal/bytealg.CountString", "internal/bytealg.IndexByteString", "internal/bytealg.IndexString"], recurses := true, named := ["unicode/utf8.first", "unicode/utf8.acceptRanges", "internal/bytealg.MaxLen"], apart := false, laid := [("unicode/utf8.acceptRanges", laid_unicode_utf8_acceptRanges), ("unicode/utf8.first", laid_unicode_utf8_first)] }
def FnReviewNeedSaid : Prop := fnReviewNeedRow.holds Tryz.pinned (OpenSpec.ofChange fnReviewNeedSpec)

/-- ITS FALSE NEIGHBOUR: 'it returns false'. Refute it at one input. -/
def fnReviewNeedWrong : ChangeSpec := { name := "fnReviewNeed", fn := fun _ => fun
  | [d] => { results := [.lit (.bool false)], args := [d] }
  | _ => none }
def FnReviewNeedWrongFalsely : Prop := fnReviewNeedRow.holds Tryz.pinned (OpenSpec.ofChange fnReviewNeedWrong)

/-- 'laws.FnUniteTwice': WHATEVER THE INPUT: true; the input reads as it did. -/
def fnUniteTwiceSpec : ChangeSpec := { name := "fnUniteTwice", fn := fun _ => fun
  | [d] => { results := [.lit (.bool true)], args := [d] }
  | _ => none }
def fnUniteTwiceRow : OpenClaim := { program := "ytnanellmaelipaagreatdoor", sum := "f7deaff68ebada25f9d41b856e57725ad500c705ca7253b31331605c59c31773", func := "loop.example/versioncontrol/laws.FnUniteTwice", spec := "fnUniteTwice", inPlace := ["internal/bytealg.CountString", "internal/bytealg.IndexByteString", "internal/bytealg.IndexString", "slices.overlaps[loop.example/versioncontrol/impl.Head]"], unfollowed := true, recurses := true, named := ["unicode/utf8.first", "unicode/utf8.acceptRanges", "internal/bytealg.MaxLen"], apart := false, laid := [("unicode/utf8.acceptRanges", laid_unicode_utf8_acceptRanges), ("unicode/utf8.first", laid_unicode_utf8_first)] }
def FnUniteTwiceSaid : Prop := fnUniteTwiceRow.holds Tryz.pinned (OpenSpec.ofChange fnUniteTwiceSpec)

/-- ITS FALSE NEIGHBOUR: 'it returns false'. Refute it at one input. -/
def fnUniteTwiceWrong : ChangeSpec := { name := "fnUniteTwice", fn := fun _ => fun
  | [d] => { results := [.lit (.bool false)], args := [d] }
  | _ => none }
def FnUniteTwiceWrongFalsely : Prop := fnUniteTwiceRow.holds Tryz.pinned (OpenSpec.ofChange fnUniteTwiceWrong)

/-- 'laws.FnQueueLeft': WHATEVER THE INPUT: true; the input reads as it did. -/
def fnQueueLeftSpec : ChangeSpec := { name := "fnQueueLeft", fn := fun _ => fun
  | [d] => { results := [.lit (.bool true)], args := [d] }
  | _ => none }
def fnQueueLeftRow : OpenClaim := { program := "ytnanellmaelipaagreatdoor", sum := "f7deaff68ebada25f9d41b856e57725ad500c705ca7253b31331605c59c31773", func := "loop.example/versioncontrol/laws.FnQueueLeft", spec := "fnQueueLeft", inPlace := ["internal/bytealg.CountString", "internal/bytealg.IndexByteString", "internal/bytealg.IndexString", "slices.overlaps[loop.example/versioncontrol/impl.Head]"], unfollowed := true, recurses := true, named := ["unicode/utf8.first", "unicode/utf8.acceptRanges", "internal/bytealg.MaxLen"], apart := false, laid := [("unicode/utf8.acceptRanges", laid_unicode_utf8_acceptRanges), ("unicode/utf8.first", laid_unicode_utf8_first)] }
def FnQueueLeftSaid : Prop := fnQueueLeftRow.holds Tryz.pinned (OpenSpec.ofChange fnQueueLeftSpec)

/-- ITS FALSE NEIGHBOUR: 'it returns false'. Refute it at one input. -/
def fnQueueLeftWrong : ChangeSpec := { name := "fnQueueLeft", fn := fun _ => fun
  | [d] => { results := [.lit (.bool false)], args := [d] }
  | _ => none }
def FnQueueLeftWrongFalsely : Prop := fnQueueLeftRow.holds Tryz.pinned (OpenSpec.ofChange fnQueueLeftWrong)

/-- 'laws.FnExactQueueLeft': WHATEVER THE INPUT: true; the input reads as it did. -/
def fnExactQueueLeftSpec : ChangeSpec := { name := "fnExactQueueLeft", fn := fun _ => fun
  | [d1, d2, d3, d4] => { results := [.lit (.bool true)], args := [d1, d2, d3, d4] }
  | _ => none }
def fnExactQueueLeftRow : OpenClaim := { program := "ytnanellmaelipaagreatdoor", sum := "f7deaff68ebada25f9d41b856e57725ad500c705ca7253b31331605c59c31773", func := "loop.example/versioncontrol/laws.FnExactQueueLeft", spec := "fnExactQueueLeft", inPlace := ["internal/bytealg.CountString", "internal/bytealg.IndexByteString", "internal/bytealg.IndexString", "slices.overlaps[loop.example/versioncontrol/impl.Head]"], unfollowed := true, recurses := true, named := ["unicode/utf8.first", "unicode/utf8.acceptRanges", "internal/bytealg.MaxLen"], apart := false, laid := [("unicode/utf8.acceptRanges", laid_unicode_utf8_acceptRanges), ("unicode/utf8.first", laid_unicode_utf8_first)] }
def FnExactQueueLeftSaid : Prop := fnExactQueueLeftRow.holds Tryz.pinned (OpenSpec.ofChange fnExactQueueLeftSpec)

/-- ITS FALSE NEIGHBOUR: 'it returns false'. Refute it at one input. -/
def fnExactQueueLeftWrong : ChangeSpec := { name := "fnExactQueueLeft", fn := fun _ => fun
  | [d1, d2, d3, d4] => { results := [.lit (.bool false)], args := [d1, d2, d3, d4] }
  | _ => none }
def FnExactQueueLeftWrongFalsely : Prop := fnExactQueueLeftRow.holds Tryz.pinned (OpenSpec.ofChange fnExactQueueLeftWrong)

/-- 'laws.FnUniteInto': WHATEVER THE INPUT: true; the input reads as it did. -/
def fnUniteIntoSpec : ChangeSpec := { name := "fnUniteInto", fn := fun _ => fun
  | [d] => { results := [.lit (.bool true)], args := [d] }
  | _ => none }
def fnUniteIntoRow : OpenClaim := { program := "ytnanellmaelipaagreatdoor", sum := "f7deaff68ebada25f9d41b856e57725ad500c705ca7253b31331605c59c31773", func := "loop.example/versioncontrol/laws.FnUniteInto", spec := "fnUniteInto", inPlace := ["internal/bytealg.CountString", "internal/bytealg.IndexByteString", "internal/bytealg.IndexString", "slices.overlaps[loop.example/versioncontrol/impl.Head]"], unfollowed := true, recurses := true, named := ["unicode/utf8.first", "unicode/utf8.acceptRanges", "internal/bytealg.MaxLen"], apart := false, laid := [("unicode/utf8.acceptRanges", laid_unicode_utf8_acceptRanges), ("unicode/utf8.first", laid_unicode_utf8_first)] }
def FnUniteIntoSaid : Prop := fnUniteIntoRow.holds Tryz.pinned (OpenSpec.ofChange fnUniteIntoSpec)

/-- ITS FALSE NEIGHBOUR: 'it returns false'. Refute it at one input. -/
def fnUniteIntoWrong : ChangeSpec := { name := "fnUniteInto", fn := fun _ => fun
  | [d] => { results := [.lit (.bool false)], args := [d] }
  | _ => none }
def FnUniteIntoWrongFalsely : Prop := fnUniteIntoRow.holds Tryz.pinned (OpenSpec.ofChange fnUniteIntoWrong)

/-- 'laws.FnUniteMade': WHATEVER THE INPUT: true; the input reads as it did. -/
def fnUniteMadeSpec : ChangeSpec := { name := "fnUniteMade", fn := fun _ => fun
  | [d] => { results := [.lit (.bool true)], args := [d] }
  | _ => none }
def fnUniteMadeRow : OpenClaim := { program := "ytnanellmaelipaagreatdoor", sum := "f7deaff68ebada25f9d41b856e57725ad500c705ca7253b31331605c59c31773", func := "loop.example/versioncontrol/laws.FnUniteMade", spec := "fnUniteMade", inPlace := ["internal/bytealg.CountString", "internal/bytealg.IndexByteString", "internal/bytealg.IndexString", "slices.overlaps[loop.example/versioncontrol/impl.Head]"], unfollowed := true, recurses := true, named := ["unicode/utf8.first", "unicode/utf8.acceptRanges", "internal/bytealg.MaxLen"], apart := false, laid := [("unicode/utf8.acceptRanges", laid_unicode_utf8_acceptRanges), ("unicode/utf8.first", laid_unicode_utf8_first)] }
def FnUniteMadeSaid : Prop := fnUniteMadeRow.holds Tryz.pinned (OpenSpec.ofChange fnUniteMadeSpec)

/-- ITS FALSE NEIGHBOUR: 'it returns false'. Refute it at one input. -/
def fnUniteMadeWrong : ChangeSpec := { name := "fnUniteMade", fn := fun _ => fun
  | [d] => { results := [.lit (.bool false)], args := [d] }
  | _ => none }
def FnUniteMadeWrongFalsely : Prop := fnUniteMadeRow.holds Tryz.pinned (OpenSpec.ofChange fnUniteMadeWrong)

/-- 'laws.FnExactQueueRun': WHATEVER THE INPUT: true; the input reads as it did. -/
def fnExactQueueRunSpec : ChangeSpec := { name := "fnExactQueueRun", fn := fun _ => fun
  | [d1, d2, d3, d4] => { results := [.lit (.bool true)], args := [d1, d2, d3, d4] }
  | _ => none }
def fnExactQueueRunRow : OpenClaim := { program := "ytnanellmaelipaagreatdoor", sum := "f7deaff68ebada25f9d41b856e57725ad500c705ca7253b31331605c59c31773", func := "loop.example/versioncontrol/laws.FnExactQueueRun", spec := "fnExactQueueRun", inPlace := ["internal/bytealg.CountString", "internal/bytealg.IndexByteString", "internal/bytealg.IndexString", "slices.overlaps[loop.example/versioncontrol/impl.Head]"], unfollowed := true, recurses := true, named := ["unicode/utf8.first", "unicode/utf8.acceptRanges", "internal/bytealg.MaxLen"], apart := false, laid := [("unicode/utf8.acceptRanges", laid_unicode_utf8_acceptRanges), ("unicode/utf8.first", laid_unicode_utf8_first)] }
def FnExactQueueRunSaid : Prop := fnExactQueueRunRow.holds Tryz.pinned (OpenSpec.ofChange fnExactQueueRunSpec)

/-- ITS FALSE NEIGHBOUR: 'it returns false'. Refute it at one input. -/
def fnExactQueueRunWrong : ChangeSpec := { name := "fnExactQueueRun", fn := fun _ => fun
  | [d1, d2, d3, d4] => { results := [.lit (.bool false)], args := [d1, d2, d3, d4] }
  | _ => none }
def FnExactQueueRunWrongFalsely : Prop := fnExactQueueRunRow.holds Tryz.pinned (OpenSpec.ofChange fnExactQueueRunWrong)

/-- 'laws.FnQueueRun': WHATEVER THE INPUT: true; the input reads as it did. -/
def fnQueueRunSpec : ChangeSpec := { name := "fnQueueRun", fn := fun _ => fun
  | [d] => { results := [.lit (.bool true)], args := [d] }
  | _ => none }
def fnQueueRunRow : OpenClaim := { program := "ytnanellmaelipaagreatdoor", sum := "f7deaff68ebada25f9d41b856e57725ad500c705ca7253b31331605c59c31773", func := "loop.example/versioncontrol/laws.FnQueueRun", spec := "fnQueueRun", inPlace := ["internal/bytealg.CountString", "internal/bytealg.IndexByteString", "internal/bytealg.IndexString", "slices.overlaps[loop.example/versioncontrol/impl.Head]"], unfollowed := true, recurses := true, named := ["unicode/utf8.first", "unicode/utf8.acceptRanges", "internal/bytealg.MaxLen"], apart := false, laid := [("unicode/utf8.acceptRanges", laid_unicode_utf8_acceptRanges), ("unicode/utf8.first", laid_unicode_utf8_first)] }
def FnQueueRunSaid : Prop := fnQueueRunRow.holds Tryz.pinned (OpenSpec.ofChange fnQueueRunSpec)

/-- ITS FALSE NEIGHBOUR: 'it returns false'. Refute it at one input. -/
def fnQueueRunWrong : ChangeSpec := { name := "fnQueueRun", fn := fun _ => fun
  | [d] => { results := [.lit (.bool false)], args := [d] }
  | _ => none }
def FnQueueRunWrongFalsely : Prop := fnQueueRunRow.holds Tryz.pinned (OpenSpec.ofChange fnQueueRunWrong)

/- THE SECOND FORM. 'bulk': how many values and letters a reading holds, each counted each time it is reached (what is shared counts as often as it is met; a slice's spare places count too). A statement '..UptoSaid' is the law's where the arguments, and the package variables that the reading takes, are together of bulk at most 1048576: NARROWER than '..Said'. Prove '..Said' where nothing that the law and all that it calls make is longer than what came in: it says more and counts as full. Else prove '..UptoSaid'. A law counts once. -/
mutual
def uptoBulk {H : Type} : DataW H → Nat
  | .lit (.string bytes) => bytes.length + 1
  | .lit _ => 1
  | .nil => 1
  | .ptr d => uptoBulk d + 1
  | .slice elems spare => uptoBulkAll elems + uptoBulkAll spare + 1
  | .agg parts => uptoBulkAll parts + 1
  | .iface _ d => uptoBulk d + 1
  | .map entries => uptoBulkEntries entries + 1
  | .held _ => 1
def uptoBulkAll {H : Type} : List (DataW H) → Nat
  | [] => 0
  | d :: r => uptoBulk d + uptoBulkAll r
def uptoBulkEntries {H : Type} : List (Lit × DataW H) → Nat
  | [] => 0
  | x :: r => uptoBulkEntry x + uptoBulkEntries r
def uptoBulkEntry {H : Type} : Lit × DataW H → Nat
  | (.string bytes, d) => bytes.length + uptoBulk d + 1
  | (_, d) => uptoBulk d + 1
 end
def uptoSmall : (H : Type) → List (DataW H) → Bool := fun _ ds => decide (uptoBulkAll ds ≤ 1048576)
def OpenSpec.upto (s : _root_.Go.ChangeSpec) : _root_.Go.OpenSpec := { _root_.Go.OpenSpec.ofChange s with cond := some uptoSmall }

/-- 'laws.FnMarkNear', WHERE WHAT IT READS IS OF BULK AT MOST 1048576: true; the input reads as it did. -/
def fnMarkNearUptoRow : OpenClaim := { program := "ytnanellmaelipaagreatdoor", sum := "f7deaff68ebada25f9d41b856e57725ad500c705ca7253b31331605c59c31773", func := "loop.example/versioncontrol/laws.FnMarkNear", spec := "fnMarkNear", inPlace := ["internal/bytealg.CountString", "internal/bytealg.IndexByteString", "internal/bytealg.IndexString"], named := ["unicode/utf8.first", "unicode/utf8.acceptRanges", "internal/bytealg.MaxLen"], apart := false, laid := [("unicode/utf8.acceptRanges", laid_unicode_utf8_acceptRanges), ("unicode/utf8.first", laid_unicode_utf8_first)], narrowed := true }
def FnMarkNearUptoSaid : Prop := fnMarkNearUptoRow.holds Tryz.pinned (OpenSpec.upto fnMarkNearSpec)

/-- 'laws.FnSeekSince', WHERE WHAT IT READS IS OF BULK AT MOST 1048576: true; the input reads as it did. -/
def fnSeekSinceUptoRow : OpenClaim := { program := "ytnanellmaelipaagreatdoor", sum := "f7deaff68ebada25f9d41b856e57725ad500c705ca7253b31331605c59c31773", func := "loop.example/versioncontrol/laws.FnSeekSince", spec := "fnSeekSince", inPlace := ["internal/bytealg.CountString", "internal/bytealg.IndexByteString", "internal/bytealg.IndexString"], unfollowed := true, recurses := true, named := ["unicode/utf8.first", "unicode/utf8.acceptRanges", "internal/bytealg.MaxLen"], apart := false, laid := [("unicode/utf8.acceptRanges", laid_unicode_utf8_acceptRanges), ("unicode/utf8.first", laid_unicode_utf8_first)], narrowed := true }
def FnSeekSinceUptoSaid : Prop := fnSeekSinceUptoRow.holds Tryz.pinned (OpenSpec.upto fnSeekSinceSpec)

/-- 'laws.FnMarkPut', WHERE WHAT IT READS IS OF BULK AT MOST 1048576: true; the input reads as it did. -/
def fnMarkPutUptoRow : OpenClaim := { program := "ytnanellmaelipaagreatdoor", sum := "f7deaff68ebada25f9d41b856e57725ad500c705ca7253b31331605c59c31773", func := "loop.example/versioncontrol/laws.FnMarkPut", spec := "fnMarkPut", inPlace := ["internal/bytealg.CountString", "internal/bytealg.IndexByteString", "internal/bytealg.IndexString", "slices.overlaps[loop.example/versioncontrol/impl.Head]"], named := ["unicode/utf8.first", "unicode/utf8.acceptRanges", "internal/bytealg.MaxLen"], apart := false, laid := [("unicode/utf8.acceptRanges", laid_unicode_utf8_acceptRanges), ("unicode/utf8.first", laid_unicode_utf8_first)], narrowed := true }
def FnMarkPutUptoSaid : Prop := fnMarkPutUptoRow.holds Tryz.pinned (OpenSpec.upto fnMarkPutSpec)

/-- 'laws.FnStatOf', WHERE WHAT IT READS IS OF BULK AT MOST 1048576: true; the input reads as it did. -/
def fnStatOfUptoRow : OpenClaim := { program := "ytnanellmaelipaagreatdoor", sum := "f7deaff68ebada25f9d41b856e57725ad500c705ca7253b31331605c59c31773", func := "loop.example/versioncontrol/laws.FnStatOf", spec := "fnStatOf", inPlace := ["internal/bytealg.CountString", "internal/bytealg.IndexByteString", "internal/bytealg.IndexString"], recurses := true, named := ["unicode/utf8.first", "unicode/utf8.acceptRanges", "internal/bytealg.MaxLen"], apart := false, laid := [("unicode/utf8.acceptRanges", laid_unicode_utf8_acceptRanges), ("unicode/utf8.first", laid_unicode_utf8_first)], narrowed := true }
def FnStatOfUptoSaid : Prop := fnStatOfUptoRow.holds Tryz.pinned (OpenSpec.upto fnStatOfSpec)

/-- 'laws.FnReviewNeed', WHERE WHAT IT READS IS OF BULK AT MOST 1048576: true; the input reads as it did. -/
def fnReviewNeedUptoRow : OpenClaim := { program := "ytnanellmaelipaagreatdoor", sum := "f7deaff68ebada25f9d41b856e57725ad500c705ca7253b31331605c59c31773", func := "loop.example/versioncontrol/laws.FnReviewNeed", spec := "fnReviewNeed", inPlace := ["internal/bytealg.CountString", "internal/bytealg.IndexByteString", "internal/bytealg.IndexString"], recurses := true, named := ["unicode/utf8.first", "unicode/utf8.acceptRanges", "internal/bytealg.MaxLen"], apart := false, laid := [("unicode/utf8.acceptRanges", laid_unicode_utf8_acceptRanges), ("unicode/utf8.first", laid_unicode_utf8_first)], narrowed := true }
def FnReviewNeedUptoSaid : Prop := fnReviewNeedUptoRow.holds Tryz.pinned (OpenSpec.upto fnReviewNeedSpec)

/-- 'laws.FnUniteTwice', WHERE WHAT IT READS IS OF BULK AT MOST 1048576: true; the input reads as it did. -/
def fnUniteTwiceUptoRow : OpenClaim := { program := "ytnanellmaelipaagreatdoor", sum := "f7deaff68ebada25f9d41b856e57725ad500c705ca7253b31331605c59c31773", func := "loop.example/versioncontrol/laws.FnUniteTwice", spec := "fnUniteTwice", inPlace := ["internal/bytealg.CountString", "internal/bytealg.IndexByteString", "internal/bytealg.IndexString", "slices.overlaps[loop.example/versioncontrol/impl.Head]"], unfollowed := true, recurses := true, named := ["unicode/utf8.first", "unicode/utf8.acceptRanges", "internal/bytealg.MaxLen"], apart := false, laid := [("unicode/utf8.acceptRanges", laid_unicode_utf8_acceptRanges), ("unicode/utf8.first", laid_unicode_utf8_first)], narrowed := true }
def FnUniteTwiceUptoSaid : Prop := fnUniteTwiceUptoRow.holds Tryz.pinned (OpenSpec.upto fnUniteTwiceSpec)

/-- 'laws.FnQueueLeft', WHERE WHAT IT READS IS OF BULK AT MOST 1048576: true; the input reads as it did. -/
def fnQueueLeftUptoRow : OpenClaim := { program := "ytnanellmaelipaagreatdoor", sum := "f7deaff68ebada25f9d41b856e57725ad500c705ca7253b31331605c59c31773", func := "loop.example/versioncontrol/laws.FnQueueLeft", spec := "fnQueueLeft", inPlace := ["internal/bytealg.CountString", "internal/bytealg.IndexByteString", "internal/bytealg.IndexString", "slices.overlaps[loop.example/versioncontrol/impl.Head]"], unfollowed := true, recurses := true, named := ["unicode/utf8.first", "unicode/utf8.acceptRanges", "internal/bytealg.MaxLen"], apart := false, laid := [("unicode/utf8.acceptRanges", laid_unicode_utf8_acceptRanges), ("unicode/utf8.first", laid_unicode_utf8_first)], narrowed := true }
def FnQueueLeftUptoSaid : Prop := fnQueueLeftUptoRow.holds Tryz.pinned (OpenSpec.upto fnQueueLeftSpec)

/-- 'laws.FnExactQueueLeft', WHERE WHAT IT READS IS OF BULK AT MOST 1048576: true; the input reads as it did. -/
def fnExactQueueLeftUptoRow : OpenClaim := { program := "ytnanellmaelipaagreatdoor", sum := "f7deaff68ebada25f9d41b856e57725ad500c705ca7253b31331605c59c31773", func := "loop.example/versioncontrol/laws.FnExactQueueLeft", spec := "fnExactQueueLeft", inPlace := ["internal/bytealg.CountString", "internal/bytealg.IndexByteString", "internal/bytealg.IndexString", "slices.overlaps[loop.example/versioncontrol/impl.Head]"], unfollowed := true, recurses := true, named := ["unicode/utf8.first", "unicode/utf8.acceptRanges", "internal/bytealg.MaxLen"], apart := false, laid := [("unicode/utf8.acceptRanges", laid_unicode_utf8_acceptRanges), ("unicode/utf8.first", laid_unicode_utf8_first)], narrowed := true }
def FnExactQueueLeftUptoSaid : Prop := fnExactQueueLeftUptoRow.holds Tryz.pinned (OpenSpec.upto fnExactQueueLeftSpec)

/-- 'laws.FnUniteInto', WHERE WHAT IT READS IS OF BULK AT MOST 1048576: true; the input reads as it did. -/
def fnUniteIntoUptoRow : OpenClaim := { program := "ytnanellmaelipaagreatdoor", sum := "f7deaff68ebada25f9d41b856e57725ad500c705ca7253b31331605c59c31773", func := "loop.example/versioncontrol/laws.FnUniteInto", spec := "fnUniteInto", inPlace := ["internal/bytealg.CountString", "internal/bytealg.IndexByteString", "internal/bytealg.IndexString", "slices.overlaps[loop.example/versioncontrol/impl.Head]"], unfollowed := true, recurses := true, named := ["unicode/utf8.first", "unicode/utf8.acceptRanges", "internal/bytealg.MaxLen"], apart := false, laid := [("unicode/utf8.acceptRanges", laid_unicode_utf8_acceptRanges), ("unicode/utf8.first", laid_unicode_utf8_first)], narrowed := true }
def FnUniteIntoUptoSaid : Prop := fnUniteIntoUptoRow.holds Tryz.pinned (OpenSpec.upto fnUniteIntoSpec)

/-- 'laws.FnUniteMade', WHERE WHAT IT READS IS OF BULK AT MOST 1048576: true; the input reads as it did. -/
def fnUniteMadeUptoRow : OpenClaim := { program := "ytnanellmaelipaagreatdoor", sum := "f7deaff68ebada25f9d41b856e57725ad500c705ca7253b31331605c59c31773", func := "loop.example/versioncontrol/laws.FnUniteMade", spec := "fnUniteMade", inPlace := ["internal/bytealg.CountString", "internal/bytealg.IndexByteString", "internal/bytealg.IndexString", "slices.overlaps[loop.example/versioncontrol/impl.Head]"], unfollowed := true, recurses := true, named := ["unicode/utf8.first", "unicode/utf8.acceptRanges", "internal/bytealg.MaxLen"], apart := false, laid := [("unicode/utf8.acceptRanges", laid_unicode_utf8_acceptRanges), ("unicode/utf8.first", laid_unicode_utf8_first)], narrowed := true }
def FnUniteMadeUptoSaid : Prop := fnUniteMadeUptoRow.holds Tryz.pinned (OpenSpec.upto fnUniteMadeSpec)

/-- 'laws.FnExactQueueRun', WHERE WHAT IT READS IS OF BULK AT MOST 1048576: true; the input reads as it did. -/
def fnExactQueueRunUptoRow : OpenClaim := { program := "ytnanellmaelipaagreatdoor", sum := "f7deaff68ebada25f9d41b856e57725ad500c705ca7253b31331605c59c31773", func := "loop.example/versioncontrol/laws.FnExactQueueRun", spec := "fnExactQueueRun", inPlace := ["internal/bytealg.CountString", "internal/bytealg.IndexByteString", "internal/bytealg.IndexString", "slices.overlaps[loop.example/versioncontrol/impl.Head]"], unfollowed := true, recurses := true, named := ["unicode/utf8.first", "unicode/utf8.acceptRanges", "internal/bytealg.MaxLen"], apart := false, laid := [("unicode/utf8.acceptRanges", laid_unicode_utf8_acceptRanges), ("unicode/utf8.first", laid_unicode_utf8_first)], narrowed := true }
def FnExactQueueRunUptoSaid : Prop := fnExactQueueRunUptoRow.holds Tryz.pinned (OpenSpec.upto fnExactQueueRunSpec)

/-- 'laws.FnQueueRun', WHERE WHAT IT READS IS OF BULK AT MOST 1048576: true; the input reads as it did. -/
def fnQueueRunUptoRow : OpenClaim := { program := "ytnanellmaelipaagreatdoor", sum := "f7deaff68ebada25f9d41b856e57725ad500c705ca7253b31331605c59c31773", func := "loop.example/versioncontrol/laws.FnQueueRun", spec := "fnQueueRun", inPlace := ["internal/bytealg.CountString", "internal/bytealg.IndexByteString", "internal/bytealg.IndexString", "slices.overlaps[loop.example/versioncontrol/impl.Head]"], unfollowed := true, recurses := true, named := ["unicode/utf8.first", "unicode/utf8.acceptRanges", "internal/bytealg.MaxLen"], apart := false, laid := [("unicode/utf8.acceptRanges", laid_unicode_utf8_acceptRanges), ("unicode/utf8.first", laid_unicode_utf8_first)], narrowed := true }
def FnQueueRunUptoSaid : Prop := fnQueueRunUptoRow.holds Tryz.pinned (OpenSpec.upto fnQueueRunSpec)

end Rows
end Go.Proofs.YtnanellmaelipaaGreatDoor
