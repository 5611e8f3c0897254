/-
  NARROWER THAN 'FOR EVERY INPUT', by the rows' own cells (each row's printed sentence says how): FnSeekAll: laid · FnMarkNear: laid · FnExactStatOf: laid · FnSeekSince: laid · FnMarkPut: laid · FnStatOf: laid · FnRepoPut: laid · FnRepoRead: laid · FnReviewNeed: laid · FnUniteTwice: laid · FnQueueLeft: laid · FnExactQueueLeft: laid.
  DERIVED. THE GIVEN ROWS OF THIS SEAT. 12 by the template 'for every input the law returns true; each argument reads behind the call as it read before'; 0 by the template 'total and deterministic' (their statements: YtnmmlcjnjnooaaaGreatDoorTotals.lean).
  GIVEN WITH THE SEED: the statements are not yours to turn. If you find one false, say at which input.
  Laid BY PROGRAM, IN A SANDBOX (cutbox-rows.mjs): the forced cells as the released guide's own fill.sh prints them over the translation a04b8a63a1dc33b1… (all of the seat's roots in one cut). By AI agents, Wed Nov 11 2026. No macro, syntax, notation, axiom, sorry.
-/
import Derived.Test.YtnmmlcjnjnooaaaGreatDoorChecked
import GoSem.PinnedTables
import GoSem.Claim
import GoSem.ClaimJoined
import GoSem.ClaimMapViews
import Derived.JoinedTies
import Derived.KernelRfl
namespace Go.Proofs.YtnmmlcjnjnooaaaGreatDoor
/- THE CELL 'sum', in the pinned program and in every row, IS THE sha256 OF THE DUMP (.gsa) THAT YtnmmlcjnjnooaaaGreatDoorProg.lean LOADS. Nothing in Lean hashes anything: it is a label: what it is worth is what the hold of that sum in a sandbox is worth. -/
noncomputable def Tryz.pinned : Pinned := { name := "ytnmmlcjnjnooaaagreatdoor", sum := "a04b8a63a1dc33b171238bbb9bbd1dfb2989740408e01e1d3318506197dc4b6c", checked := Tryz.checked }
namespace Rows
def none {H : Type} : Left H := { results := [], args := [] }

/- WHAT THE LISTED PACKAGE-LEVEL VARIABLES READ AS WHEN THE CALL BEGINS. Each datum BY PROGRAM (the guide's laid-datum.mjs) off the statement by which the dump's own 'gosem.cut.vars' lays the variable. In a bare row this is a premise. The card (YtnmmlcjnjnooaaaGreatDoorCards.lean) ties it to the program's text. -/
def laid_unicode_utf8_acceptRanges {H : Type} : DataW H := .agg [.agg [.lit (.int .u8 128), .lit (.int .u8 191)], .agg [.lit (.int .u8 160), .lit (.int .u8 191)], .agg [.lit (.int .u8 128), .lit (.int .u8 159)], .agg [.lit (.int .u8 144), .lit (.int .u8 191)], .agg [.lit (.int .u8 128), .lit (.int .u8 143)], .agg [.lit (.int .u8 0), .lit (.int .u8 0)], .agg [.lit (.int .u8 0), .lit (.int .u8 0)], .agg [.lit (.int .u8 0), .lit (.int .u8 0)], .agg [.lit (.int .u8 0), .lit (.int .u8 0)], .agg [.lit (.int .u8 0), .lit (.int .u8 0)], .agg [.lit (.int .u8 0), .lit (.int .u8 0)], .agg [.lit (.int .u8 0), .lit (.int .u8 0)], .agg [.lit (.int .u8 0), .lit (.int .u8 0)], .agg [.lit (.int .u8 0), .lit (.int .u8 0)], .agg [.lit (.int .u8 0), .lit (.int .u8 0)], .agg [.lit (.int .u8 0), .lit (.int .u8 0)]]
/-- One of Go's own tables, pinned by name: the form's constant. -/
def laid_unicode_utf8_first : DataW Unit := Go.Pinned.utf8First
def laid_math_bits_deBruijn32tab {H : Type} : DataW H := .agg [.lit (.int .u8 0), .lit (.int .u8 1), .lit (.int .u8 28), .lit (.int .u8 2), .lit (.int .u8 29), .lit (.int .u8 14), .lit (.int .u8 24), .lit (.int .u8 3), .lit (.int .u8 30), .lit (.int .u8 22), .lit (.int .u8 20), .lit (.int .u8 15), .lit (.int .u8 25), .lit (.int .u8 17), .lit (.int .u8 4), .lit (.int .u8 8), .lit (.int .u8 31), .lit (.int .u8 27), .lit (.int .u8 13), .lit (.int .u8 23), .lit (.int .u8 21), .lit (.int .u8 19), .lit (.int .u8 16), .lit (.int .u8 7), .lit (.int .u8 26), .lit (.int .u8 12), .lit (.int .u8 18), .lit (.int .u8 6), .lit (.int .u8 11), .lit (.int .u8 5), .lit (.int .u8 10), .lit (.int .u8 9)]
def laid_math_bits_deBruijn64tab {H : Type} : DataW H := .agg [.lit (.int .u8 0), .lit (.int .u8 1), .lit (.int .u8 56), .lit (.int .u8 2), .lit (.int .u8 57), .lit (.int .u8 49), .lit (.int .u8 28), .lit (.int .u8 3), .lit (.int .u8 61), .lit (.int .u8 58), .lit (.int .u8 42), .lit (.int .u8 50), .lit (.int .u8 38), .lit (.int .u8 29), .lit (.int .u8 17), .lit (.int .u8 4), .lit (.int .u8 62), .lit (.int .u8 47), .lit (.int .u8 59), .lit (.int .u8 36), .lit (.int .u8 45), .lit (.int .u8 43), .lit (.int .u8 51), .lit (.int .u8 22), .lit (.int .u8 53), .lit (.int .u8 39), .lit (.int .u8 33), .lit (.int .u8 30), .lit (.int .u8 24), .lit (.int .u8 18), .lit (.int .u8 12), .lit (.int .u8 5), .lit (.int .u8 63), .lit (.int .u8 55), .lit (.int .u8 48), .lit (.int .u8 27), .lit (.int .u8 60), .lit (.int .u8 41), .lit (.int .u8 37), .lit (.int .u8 16), .lit (.int .u8 46), .lit (.int .u8 35), .lit (.int .u8 44), .lit (.int .u8 21), .lit (.int .u8 52), .lit (.int .u8 32), .lit (.int .u8 23), .lit (.int .u8 11), .lit (.int .u8 54), .lit (.int .u8 26), .lit (.int .u8 40), .lit (.int .u8 15), .lit (.int .u8 34), .lit (.int .u8 20), .lit (.int .u8 31), .lit (.int .u8 10), .lit (.int .u8 25), .lit (.int .u8 14), .lit (.int .u8 19), .lit (.int .u8 9), .lit (.int .u8 13), .lit (.int .u8 8), .lit (.int .u8 7), .lit (.int .u8 6)]
def laid_internal_strconv_uint64pow10 {H : Type} : DataW H := .agg [.lit (.int .u64 1), .lit (.int .u64 10), .lit (.int .u64 100), .lit (.int .u64 1000), .lit (.int .u64 10000), .lit (.int .u64 100000), .lit (.int .u64 1000000), .lit (.int .u64 10000000), .lit (.int .u64 100000000), .lit (.int .u64 1000000000), .lit (.int .u64 10000000000), .lit (.int .u64 100000000000), .lit (.int .u64 1000000000000), .lit (.int .u64 10000000000000), .lit (.int .u64 100000000000000), .lit (.int .u64 1000000000000000), .lit (.int .u64 10000000000000000), .lit (.int .u64 100000000000000000), .lit (.int .u64 1000000000000000000), .lit (.int .u64 10000000000000000000)]
def laid_strconv_ErrRange {H : Type} : DataW H := .iface "*errors.errorString" (.ptr (.agg [.lit (.string [118, 97, 108, 117, 101, 32, 111, 117, 116, 32, 111, 102, 32, 114, 97, 110, 103, 101])]))
def laid_strconv_ErrSyntax {H : Type} : DataW H := .iface "*errors.errorString" (.ptr (.agg [.lit (.string [105, 110, 118, 97, 108, 105, 100, 32, 115, 121, 110, 116, 97, 120])]))

/-- 'laws.FnSeekAll': WHATEVER THE INPUT: true; the input reads as it did. -/
def fnSeekAllSpec : ChangeSpec := { name := "fnSeekAll", fn := fun _ => fun
  | [d] => { results := [.lit (.bool true)], args := [d] }
  | _ => none }
def fnSeekAllRow : OpenClaim := { program := "ytnmmlcjnjnooaaagreatdoor", sum := "a04b8a63a1dc33b171238bbb9bbd1dfb2989740408e01e1d3318506197dc4b6c", func := "loop.example/versioncontrol/laws.FnSeekAll", spec := "fnSeekAll", inPlace := ["internal/bytealg.CountString", "internal/bytealg.IndexByteString", "internal/bytealg.IndexString"], unfollowed := true, recurses := true, named := ["unicode/utf8.first", "unicode/utf8.acceptRanges", "internal/bytealg.MaxLen"], apart := false, laid := [("unicode/utf8.acceptRanges", laid_unicode_utf8_acceptRanges), ("unicode/utf8.first", laid_unicode_utf8_first)] }
def FnSeekAllSaid : Prop := fnSeekAllRow.holds Tryz.pinned (OpenSpec.ofChange fnSeekAllSpec)

/-- ITS FALSE NEIGHBOUR: 'it returns false'. Refute it at one input. -/
def fnSeekAllWrong : ChangeSpec := { name := "fnSeekAll", fn := fun _ => fun
  | [d] => { results := [.lit (.bool false)], args := [d] }
  | _ => none }
def FnSeekAllWrongFalsely : Prop := fnSeekAllRow.holds Tryz.pinned (OpenSpec.ofChange fnSeekAllWrong)

/-- 'laws.FnMarkNear': WHATEVER THE INPUT: true; the input reads as it did. -/
def fnMarkNearSpec : ChangeSpec := { name := "fnMarkNear", fn := fun _ => fun
  | [d] => { results := [.lit (.bool true)], args := [d] }
  | _ => none }
def fnMarkNearRow : OpenClaim := { program := "ytnmmlcjnjnooaaagreatdoor", sum := "a04b8a63a1dc33b171238bbb9bbd1dfb2989740408e01e1d3318506197dc4b6c", func := "loop.example/versioncontrol/laws.FnMarkNear", spec := "fnMarkNear", inPlace := ["internal/bytealg.CountString", "internal/bytealg.IndexByteString", "internal/bytealg.IndexString"], named := ["unicode/utf8.first", "unicode/utf8.acceptRanges", "internal/bytealg.MaxLen"], apart := false, laid := [("unicode/utf8.acceptRanges", laid_unicode_utf8_acceptRanges), ("unicode/utf8.first", laid_unicode_utf8_first)] }
def FnMarkNearSaid : Prop := fnMarkNearRow.holds Tryz.pinned (OpenSpec.ofChange fnMarkNearSpec)

/-- ITS FALSE NEIGHBOUR: 'it returns false'. Refute it at one input. -/
def fnMarkNearWrong : ChangeSpec := { name := "fnMarkNear", fn := fun _ => fun
  | [d] => { results := [.lit (.bool false)], args := [d] }
  | _ => none }
def FnMarkNearWrongFalsely : Prop := fnMarkNearRow.holds Tryz.pinned (OpenSpec.ofChange fnMarkNearWrong)

/-- 'laws.FnExactStatOf': WHATEVER THE INPUT: true; the input reads as it did. -/
def fnExactStatOfSpec : ChangeSpec := { name := "fnExactStatOf", fn := fun _ => fun
  | [d1, d2] => { results := [.lit (.bool true)], args := [d1, d2] }
  | _ => none }
def fnExactStatOfRow : OpenClaim := { program := "ytnmmlcjnjnooaaagreatdoor", sum := "a04b8a63a1dc33b171238bbb9bbd1dfb2989740408e01e1d3318506197dc4b6c", func := "loop.example/versioncontrol/laws.FnExactStatOf", spec := "fnExactStatOf", inPlace := ["internal/bytealg.CountString", "internal/bytealg.IndexByteString", "internal/bytealg.IndexString"], recurses := true, named := ["unicode/utf8.first", "unicode/utf8.acceptRanges", "internal/bytealg.MaxLen"], apart := false, laid := [("unicode/utf8.acceptRanges", laid_unicode_utf8_acceptRanges), ("unicode/utf8.first", laid_unicode_utf8_first)] }
def FnExactStatOfSaid : Prop := fnExactStatOfRow.holds Tryz.pinned (OpenSpec.ofChange fnExactStatOfSpec)

/-- ITS FALSE NEIGHBOUR: 'it returns false'. Refute it at one input. -/
def fnExactStatOfWrong : ChangeSpec := { name := "fnExactStatOf", fn := fun _ => fun
  | [d1, d2] => { results := [.lit (.bool false)], args := [d1, d2] }
  | _ => none }
def FnExactStatOfWrongFalsely : Prop := fnExactStatOfRow.holds Tryz.pinned (OpenSpec.ofChange fnExactStatOfWrong)

/-- 'laws.FnSeekSince': WHATEVER THE INPUT: true; the input reads as it did. -/
def fnSeekSinceSpec : ChangeSpec := { name := "fnSeekSince", fn := fun _ => fun
  | [d] => { results := [.lit (.bool true)], args := [d] }
  | _ => none }
def fnSeekSinceRow : OpenClaim := { program := "ytnmmlcjnjnooaaagreatdoor", sum := "a04b8a63a1dc33b171238bbb9bbd1dfb2989740408e01e1d3318506197dc4b6c", func := "loop.example/versioncontrol/laws.FnSeekSince", spec := "fnSeekSince", inPlace := ["internal/bytealg.CountString", "internal/bytealg.IndexByteString", "internal/bytealg.IndexString"], unfollowed := true, recurses := true, named := ["unicode/utf8.first", "unicode/utf8.acceptRanges", "internal/bytealg.MaxLen"], apart := false, laid := [("unicode/utf8.acceptRanges", laid_unicode_utf8_acceptRanges), ("unicode/utf8.first", laid_unicode_utf8_first)] }
def FnSeekSinceSaid : Prop := fnSeekSinceRow.holds Tryz.pinned (OpenSpec.ofChange fnSeekSinceSpec)

/-- ITS FALSE NEIGHBOUR: 'it returns false'. Refute it at one input. -/
def fnSeekSinceWrong : ChangeSpec := { name := "fnSeekSince", fn := fun _ => fun
  | [d] => { results := [.lit (.bool false)], args := [d] }
  | _ => none }
def FnSeekSinceWrongFalsely : Prop := fnSeekSinceRow.holds Tryz.pinned (OpenSpec.ofChange fnSeekSinceWrong)

/-- 'laws.FnMarkPut': WHATEVER THE INPUT: true; the input reads as it did. -/
def fnMarkPutSpec : ChangeSpec := { name := "fnMarkPut", fn := fun _ => fun
  | [d] => { results := [.lit (.bool true)], args := [d] }
  | _ => none }
def fnMarkPutRow : OpenClaim := { program := "ytnmmlcjnjnooaaagreatdoor", sum := "a04b8a63a1dc33b171238bbb9bbd1dfb2989740408e01e1d3318506197dc4b6c", func := "loop.example/versioncontrol/laws.FnMarkPut", spec := "fnMarkPut", inPlace := ["internal/bytealg.CountString", "internal/bytealg.IndexByteString", "internal/bytealg.IndexString", "slices.overlaps[loop.example/versioncontrol/impl.Head]"], named := ["unicode/utf8.first", "unicode/utf8.acceptRanges", "internal/bytealg.MaxLen"], apart := false, laid := [("unicode/utf8.acceptRanges", laid_unicode_utf8_acceptRanges), ("unicode/utf8.first", laid_unicode_utf8_first)] }
def FnMarkPutSaid : Prop := fnMarkPutRow.holds Tryz.pinned (OpenSpec.ofChange fnMarkPutSpec)

/-- ITS FALSE NEIGHBOUR: 'it returns false'. Refute it at one input. -/
def fnMarkPutWrong : ChangeSpec := { name := "fnMarkPut", fn := fun _ => fun
  | [d] => { results := [.lit (.bool false)], args := [d] }
  | _ => none }
def FnMarkPutWrongFalsely : Prop := fnMarkPutRow.holds Tryz.pinned (OpenSpec.ofChange fnMarkPutWrong)

/-- 'laws.FnStatOf': WHATEVER THE INPUT: true; the input reads as it did. -/
def fnStatOfSpec : ChangeSpec := { name := "fnStatOf", fn := fun _ => fun
  | [d] => { results := [.lit (.bool true)], args := [d] }
  | _ => none }
def fnStatOfRow : OpenClaim := { program := "ytnmmlcjnjnooaaagreatdoor", sum := "a04b8a63a1dc33b171238bbb9bbd1dfb2989740408e01e1d3318506197dc4b6c", func := "loop.example/versioncontrol/laws.FnStatOf", spec := "fnStatOf", inPlace := ["internal/bytealg.CountString", "internal/bytealg.IndexByteString", "internal/bytealg.IndexString"], recurses := true, named := ["unicode/utf8.first", "unicode/utf8.acceptRanges", "internal/bytealg.MaxLen"], apart := false, laid := [("unicode/utf8.acceptRanges", laid_unicode_utf8_acceptRanges), ("unicode/utf8.first", laid_unicode_utf8_first)] }
def FnStatOfSaid : Prop := fnStatOfRow.holds Tryz.pinned (OpenSpec.ofChange fnStatOfSpec)

/-- ITS FALSE NEIGHBOUR: 'it returns false'. Refute it at one input. -/
def fnStatOfWrong : ChangeSpec := { name := "fnStatOf", fn := fun _ => fun
  | [d] => { results := [.lit (.bool false)], args := [d] }
  | _ => none }
def FnStatOfWrongFalsely : Prop := fnStatOfRow.holds Tryz.pinned (OpenSpec.ofChange fnStatOfWrong)

/-- 'laws.FnRepoPut': WHATEVER THE INPUT: true; the input reads as it did. -/
def fnRepoPutSpec : ChangeSpec := { name := "fnRepoPut", fn := fun _ => fun
  | [d] => { results := [.lit (.bool true)], args := [d] }
  | _ => none }
def fnRepoPutRow : OpenClaim := { program := "ytnmmlcjnjnooaaagreatdoor", sum := "a04b8a63a1dc33b171238bbb9bbd1dfb2989740408e01e1d3318506197dc4b6c", func := "loop.example/versioncontrol/laws.FnRepoPut", spec := "fnRepoPut", inPlace := ["internal/bytealg.CountString", "internal/bytealg.IndexByteString", "internal/bytealg.IndexString", "internal/abi.NoEscape"], recurses := true, named := ["unicode/utf8.first", "unicode/utf8.acceptRanges", "internal/bytealg.MaxLen", "internal/strconv.uint64pow10", "math/bits.deBruijn32tab", "math/bits.deBruijn64tab", "strconv.ErrSyntax", "strconv.ErrRange"], apart := false, laid := [("math/bits.deBruijn32tab", laid_math_bits_deBruijn32tab), ("math/bits.deBruijn64tab", laid_math_bits_deBruijn64tab), ("internal/strconv.uint64pow10", laid_internal_strconv_uint64pow10), ("unicode/utf8.acceptRanges", laid_unicode_utf8_acceptRanges), ("strconv.ErrRange", laid_strconv_ErrRange), ("strconv.ErrSyntax", laid_strconv_ErrSyntax), ("unicode/utf8.first", laid_unicode_utf8_first)] }
def FnRepoPutSaid : Prop := fnRepoPutRow.holds Tryz.pinned (OpenSpec.ofChange fnRepoPutSpec)

/-- ITS FALSE NEIGHBOUR: 'it returns false'. Refute it at one input. -/
def fnRepoPutWrong : ChangeSpec := { name := "fnRepoPut", fn := fun _ => fun
  | [d] => { results := [.lit (.bool false)], args := [d] }
  | _ => none }
def FnRepoPutWrongFalsely : Prop := fnRepoPutRow.holds Tryz.pinned (OpenSpec.ofChange fnRepoPutWrong)

/-- 'laws.FnRepoRead': WHATEVER THE INPUT: true; the input reads as it did. -/
def fnRepoReadSpec : ChangeSpec := { name := "fnRepoRead", fn := fun _ => fun
  | [d] => { results := [.lit (.bool true)], args := [d] }
  | _ => none }
def fnRepoReadRow : OpenClaim := { program := "ytnmmlcjnjnooaaagreatdoor", sum := "a04b8a63a1dc33b171238bbb9bbd1dfb2989740408e01e1d3318506197dc4b6c", func := "loop.example/versioncontrol/laws.FnRepoRead", spec := "fnRepoRead", inPlace := ["internal/bytealg.CountString", "internal/bytealg.IndexByteString", "internal/bytealg.IndexString", "internal/abi.NoEscape"], recurses := true, named := ["unicode/utf8.first", "unicode/utf8.acceptRanges", "internal/bytealg.MaxLen", "strconv.ErrSyntax", "strconv.ErrRange", "internal/strconv.uint64pow10", "math/bits.deBruijn32tab", "math/bits.deBruijn64tab"], apart := false, laid := [("math/bits.deBruijn32tab", laid_math_bits_deBruijn32tab), ("math/bits.deBruijn64tab", laid_math_bits_deBruijn64tab), ("internal/strconv.uint64pow10", laid_internal_strconv_uint64pow10), ("unicode/utf8.acceptRanges", laid_unicode_utf8_acceptRanges), ("strconv.ErrRange", laid_strconv_ErrRange), ("strconv.ErrSyntax", laid_strconv_ErrSyntax), ("unicode/utf8.first", laid_unicode_utf8_first)] }
def FnRepoReadSaid : Prop := fnRepoReadRow.holds Tryz.pinned (OpenSpec.ofChange fnRepoReadSpec)

/-- ITS FALSE NEIGHBOUR: 'it returns false'. Refute it at one input. -/
def fnRepoReadWrong : ChangeSpec := { name := "fnRepoRead", fn := fun _ => fun
  | [d] => { results := [.lit (.bool false)], args := [d] }
  | _ => none }
def FnRepoReadWrongFalsely : Prop := fnRepoReadRow.holds Tryz.pinned (OpenSpec.ofChange fnRepoReadWrong)

/-- 'laws.FnReviewNeed': WHATEVER THE INPUT: true; the input reads as it did. -/
def fnReviewNeedSpec : ChangeSpec := { name := "fnReviewNeed", fn := fun _ => fun
  | [d] => { results := [.lit (.bool true)], args := [d] }
  | _ => none }
def fnReviewNeedRow : OpenClaim := { program := "ytnmmlcjnjnooaaagreatdoor", sum := "a04b8a63a1dc33b171238bbb9bbd1dfb2989740408e01e1d3318506197dc4b6c", func := "loop.example/versioncontrol/laws.FnReviewNeed", spec := "fnReviewNeed", inPlace := ["internal/bytealg.CountString", "internal/bytealg.IndexByteString", "internal/bytealg.IndexString"], recurses := true, named := ["unicode/utf8.first", "unicode/utf8.acceptRanges", "internal/bytealg.MaxLen"], apart := false, laid := [("unicode/utf8.acceptRanges", laid_unicode_utf8_acceptRanges), ("unicode/utf8.first", laid_unicode_utf8_first)] }
def FnReviewNeedSaid : Prop := fnReviewNeedRow.holds Tryz.pinned (OpenSpec.ofChange fnReviewNeedSpec)

/-- ITS FALSE NEIGHBOUR: 'it returns false'. Refute it at one input. -/
def fnReviewNeedWrong : ChangeSpec := { name := "fnReviewNeed", fn := fun _ => fun
  | [d] => { results := [.lit (.bool false)], args := [d] }
  | _ => none }
def FnReviewNeedWrongFalsely : Prop := fnReviewNeedRow.holds Tryz.pinned (OpenSpec.ofChange fnReviewNeedWrong)

/-- 'laws.FnUniteTwice': WHATEVER THE INPUT: true; the input reads as it did. -/
def fnUniteTwiceSpec : ChangeSpec := { name := "fnUniteTwice", fn := fun _ => fun
  | [d] => { results := [.lit (.bool true)], args := [d] }
  | _ => none }
def fnUniteTwiceRow : OpenClaim := { program := "ytnmmlcjnjnooaaagreatdoor", sum := "a04b8a63a1dc33b171238bbb9bbd1dfb2989740408e01e1d3318506197dc4b6c", func := "loop.example/versioncontrol/laws.FnUniteTwice", spec := "fnUniteTwice", inPlace := ["internal/bytealg.CountString", "internal/bytealg.IndexByteString", "internal/bytealg.IndexString", "slices.overlaps[loop.example/versioncontrol/impl.Head]"], unfollowed := true, recurses := true, named := ["unicode/utf8.first", "unicode/utf8.acceptRanges", "internal/bytealg.MaxLen"], apart := false, laid := [("unicode/utf8.acceptRanges", laid_unicode_utf8_acceptRanges), ("unicode/utf8.first", laid_unicode_utf8_first)] }
def FnUniteTwiceSaid : Prop := fnUniteTwiceRow.holds Tryz.pinned (OpenSpec.ofChange fnUniteTwiceSpec)

/-- ITS FALSE NEIGHBOUR: 'it returns false'. Refute it at one input. -/
def fnUniteTwiceWrong : ChangeSpec := { name := "fnUniteTwice", fn := fun _ => fun
  | [d] => { results := [.lit (.bool false)], args := [d] }
  | _ => none }
def FnUniteTwiceWrongFalsely : Prop := fnUniteTwiceRow.holds Tryz.pinned (OpenSpec.ofChange fnUniteTwiceWrong)

/-- 'laws.FnQueueLeft': WHATEVER THE INPUT: true; the input reads as it did. -/
def fnQueueLeftSpec : ChangeSpec := { name := "fnQueueLeft", fn := fun _ => fun
  | [d] => { results := [.lit (.bool true)], args := [d] }
  | _ => none }
def fnQueueLeftRow : OpenClaim := { program := "ytnmmlcjnjnooaaagreatdoor", sum := "a04b8a63a1dc33b171238bbb9bbd1dfb2989740408e01e1d3318506197dc4b6c", func := "loop.example/versioncontrol/laws.FnQueueLeft", spec := "fnQueueLeft", inPlace := ["internal/bytealg.CountString", "internal/bytealg.IndexByteString", "internal/bytealg.IndexString", "slices.overlaps[loop.example/versioncontrol/impl.Head]"], unfollowed := true, recurses := true, named := ["unicode/utf8.first", "unicode/utf8.acceptRanges", "internal/bytealg.MaxLen"], apart := false, laid := [("unicode/utf8.acceptRanges", laid_unicode_utf8_acceptRanges), ("unicode/utf8.first", laid_unicode_utf8_first)] }
def FnQueueLeftSaid : Prop := fnQueueLeftRow.holds Tryz.pinned (OpenSpec.ofChange fnQueueLeftSpec)

/-- ITS FALSE NEIGHBOUR: 'it returns false'. Refute it at one input. -/
def fnQueueLeftWrong : ChangeSpec := { name := "fnQueueLeft", fn := fun _ => fun
  | [d] => { results := [.lit (.bool false)], args := [d] }
  | _ => none }
def FnQueueLeftWrongFalsely : Prop := fnQueueLeftRow.holds Tryz.pinned (OpenSpec.ofChange fnQueueLeftWrong)

/-- 'laws.FnExactQueueLeft': WHATEVER THE INPUT: true; the input reads as it did. -/
def fnExactQueueLeftSpec : ChangeSpec := { name := "fnExactQueueLeft", fn := fun _ => fun
  | [d1, d2, d3, d4] => { results := [.lit (.bool true)], args := [d1, d2, d3, d4] }
  | _ => none }
def fnExactQueueLeftRow : OpenClaim := { program := "ytnmmlcjnjnooaaagreatdoor", sum := "a04b8a63a1dc33b171238bbb9bbd1dfb2989740408e01e1d3318506197dc4b6c", func := "loop.example/versioncontrol/laws.FnExactQueueLeft", spec := "fnExactQueueLeft", inPlace := ["internal/bytealg.CountString", "internal/bytealg.IndexByteString", "internal/bytealg.IndexString", "slices.overlaps[loop.example/versioncontrol/impl.Head]"], unfollowed := true, recurses := true, named := ["unicode/utf8.first", "unicode/utf8.acceptRanges", "internal/bytealg.MaxLen"], apart := false, laid := [("unicode/utf8.acceptRanges", laid_unicode_utf8_acceptRanges), ("unicode/utf8.first", laid_unicode_utf8_first)] }
def FnExactQueueLeftSaid : Prop := fnExactQueueLeftRow.holds Tryz.pinned (OpenSpec.ofChange fnExactQueueLeftSpec)

/-- ITS FALSE NEIGHBOUR: 'it returns false'. Refute it at one input. -/
def fnExactQueueLeftWrong : ChangeSpec := { name := "fnExactQueueLeft", fn := fun _ => fun
  | [d1, d2, d3, d4] => { results := [.lit (.bool false)], args := [d1, d2, d3, d4] }
  | _ => none }
def FnExactQueueLeftWrongFalsely : Prop := fnExactQueueLeftRow.holds Tryz.pinned (OpenSpec.ofChange fnExactQueueLeftWrong)

/- THE SECOND FORM. 'bulk': how many values and letters a reading holds, each counted each time it is reached (what is shared counts as often as it is met; a slice's spare places count too). A statement '..UptoSaid' is the law's where the arguments, and the package variables that the reading takes, are together of bulk at most 1048576: NARROWER than '..Said'. Prove '..Said' where nothing that the law and all that it calls make is longer than what came in: it says more and counts as full. Else prove '..UptoSaid'. A law counts once. -/
mutual
def uptoBulk {H : Type} : DataW H → Nat
  | .lit (.string bytes) => bytes.length + 1
  | .lit _ => 1
  | .nil => 1
  | .ptr d => uptoBulk d + 1
  | .slice elems spare => uptoBulkAll elems + uptoBulkAll spare + 1
  | .agg parts => uptoBulkAll parts + 1
  | .iface _ d => uptoBulk d + 1
  | .map entries => uptoBulkEntries entries + 1
  | .held _ => 1
def uptoBulkAll {H : Type} : List (DataW H) → Nat
  | [] => 0
  | d :: r => uptoBulk d + uptoBulkAll r
def uptoBulkEntries {H : Type} : List (Lit × DataW H) → Nat
  | [] => 0
  | x :: r => uptoBulkEntry x + uptoBulkEntries r
def uptoBulkEntry {H : Type} : Lit × DataW H → Nat
  | (.string bytes, d) => bytes.length + uptoBulk d + 1
  | (_, d) => uptoBulk d + 1
 end
def uptoSmall : (H : Type) → List (DataW H) → Bool := fun _ ds => decide (uptoBulkAll ds ≤ 1048576)
def OpenSpec.upto (s : _root_.Go.ChangeSpec) : _root_.Go.OpenSpec := { _root_.Go.OpenSpec.ofChange s with cond := some uptoSmall }

/-- 'laws.FnSeekAll', WHERE WHAT IT READS IS OF BULK AT MOST 1048576: true; the input reads as it did. -/
def fnSeekAllUptoRow : OpenClaim := { program := "ytnmmlcjnjnooaaagreatdoor", sum := "a04b8a63a1dc33b171238bbb9bbd1dfb2989740408e01e1d3318506197dc4b6c", func := "loop.example/versioncontrol/laws.FnSeekAll", spec := "fnSeekAll", inPlace := ["internal/bytealg.CountString", "internal/bytealg.IndexByteString", "internal/bytealg.IndexString"], unfollowed := true, recurses := true, named := ["unicode/utf8.first", "unicode/utf8.acceptRanges", "internal/bytealg.MaxLen"], apart := false, laid := [("unicode/utf8.acceptRanges", laid_unicode_utf8_acceptRanges), ("unicode/utf8.first", laid_unicode_utf8_first)], narrowed := true }
def FnSeekAllUptoSaid : Prop := fnSeekAllUptoRow.holds Tryz.pinned (OpenSpec.upto fnSeekAllSpec)

/-- 'laws.FnMarkNear', WHERE WHAT IT READS IS OF BULK AT MOST 1048576: true; the input reads as it did. -/
def fnMarkNearUptoRow : OpenClaim := { program := "ytnmmlcjnjnooaaagreatdoor", sum := "a04b8a63a1dc33b171238bbb9bbd1dfb2989740408e01e1d3318506197dc4b6c", func := "loop.example/versioncontrol/laws.FnMarkNear", spec := "fnMarkNear", inPlace := ["internal/bytealg.CountString", "internal/bytealg.IndexByteString", "internal/bytealg.IndexString"], named := ["unicode/utf8.first", "unicode/utf8.acceptRanges", "internal/bytealg.MaxLen"], apart := false, laid := [("unicode/utf8.acceptRanges", laid_unicode_utf8_acceptRanges), ("unicode/utf8.first", laid_unicode_utf8_first)], narrowed := true }
def FnMarkNearUptoSaid : Prop := fnMarkNearUptoRow.holds Tryz.pinned (OpenSpec.upto fnMarkNearSpec)

/-- 'laws.FnExactStatOf', WHERE WHAT IT READS IS OF BULK AT MOST 1048576: true; the input reads as it did. -/
def fnExactStatOfUptoRow : OpenClaim := { program := "ytnmmlcjnjnooaaagreatdoor", sum := "a04b8a63a1dc33b171238bbb9bbd1dfb2989740408e01e1d3318506197dc4b6c", func := "loop.example/versioncontrol/laws.FnExactStatOf", spec := "fnExactStatOf", inPlace := ["internal/bytealg.CountString", "internal/bytealg.IndexByteString", "internal/bytealg.IndexString"], recurses := true, named := ["unicode/utf8.first", "unicode/utf8.acceptRanges", "internal/bytealg.MaxLen"], apart := false, laid := [("unicode/utf8.acceptRanges", laid_unicode_utf8_acceptRanges), ("unicode/utf8.first", laid_unicode_utf8_first)], narrowed := true }
def FnExactStatOfUptoSaid : Prop := fnExactStatOfUptoRow.holds Tryz.pinned (OpenSpec.upto fnExactStatOfSpec)

/-- 'laws.FnSeekSince', WHERE WHAT IT READS IS OF BULK AT MOST 1048576: true; the input reads as it did. -/
def fnSeekSinceUptoRow : OpenClaim := { program := "ytnmmlcjnjnooaaagreatdoor", sum := "a04b8a63a1dc33b171238bbb9bbd1dfb2989740408e01e1d3318506197dc4b6c", func := "loop.example/versioncontrol/laws.FnSeekSince", spec := "fnSeekSince", inPlace := ["internal/bytealg.CountString", "internal/bytealg.IndexByteString", "internal/bytealg.IndexString"], unfollowed := true, recurses := true, named := ["unicode/utf8.first", "unicode/utf8.acceptRanges", "internal/bytealg.MaxLen"], apart := false, laid := [("unicode/utf8.acceptRanges", laid_unicode_utf8_acceptRanges), ("unicode/utf8.first", laid_unicode_utf8_first)], narrowed := true }
def FnSeekSinceUptoSaid : Prop := fnSeekSinceUptoRow.holds Tryz.pinned (OpenSpec.upto fnSeekSinceSpec)

/-- 'laws.FnMarkPut', WHERE WHAT IT READS IS OF BULK AT MOST 1048576: true; the input reads as it did. -/
def fnMarkPutUptoRow : OpenClaim := { program := "ytnmmlcjnjnooaaagreatdoor", sum := "a04b8a63a1dc33b171238bbb9bbd1dfb2989740408e01e1d3318506197dc4b6c", func := "loop.example/versioncontrol/laws.FnMarkPut", spec := "fnMarkPut", inPlace := ["internal/bytealg.CountString", "internal/bytealg.IndexByteString", "internal/bytealg.IndexString", "slices.overlaps[loop.example/versioncontrol/impl.Head]"], named := ["unicode/utf8.first", "unicode/utf8.acceptRanges", "internal/bytealg.MaxLen"], apart := false, laid := [("unicode/utf8.acceptRanges", laid_unicode_utf8_acceptRanges), ("unicode/utf8.first", laid_unicode_utf8_first)], narrowed := true }
def FnMarkPutUptoSaid : Prop := fnMarkPutUptoRow.holds Tryz.pinned (OpenSpec.upto fnMarkPutSpec)

/-- 'laws.FnStatOf', WHERE WHAT IT READS IS OF BULK AT MOST 1048576: true; the input reads as it did. -/
def fnStatOfUptoRow : OpenClaim := { program := "ytnmmlcjnjnooaaagreatdoor", sum := "a04b8a63a1dc33b171238bbb9bbd1dfb2989740408e01e1d3318506197dc4b6c", func := "loop.example/versioncontrol/laws.FnStatOf", spec := "fnStatOf", inPlace := ["internal/bytealg.CountString", "internal/bytealg.IndexByteString", "internal/bytealg.IndexString"], recurses := true, named := ["unicode/utf8.first", "unicode/utf8.acceptRanges", "internal/bytealg.MaxLen"], apart := false, laid := [("unicode/utf8.acceptRanges", laid_unicode_utf8_acceptRanges), ("unicode/utf8.first", laid_unicode_utf8_first)], narrowed := true }
def FnStatOfUptoSaid : Prop := fnStatOfUptoRow.holds Tryz.pinned (OpenSpec.upto fnStatOfSpec)

/-- 'laws.FnRepoPut', WHERE WHAT IT READS IS OF BULK AT MOST 1048576: true; the input reads as it did. -/
def fnRepoPutUptoRow : OpenClaim := { program := "ytnmmlcjnjnooaaagreatdoor", sum := "a04b8a63a1dc33b171238bbb9bbd1dfb2989740408e01e1d3318506197dc4b6c", func := "loop.example/versioncontrol/laws.FnRepoPut", spec := "fnRepoPut", inPlace := ["internal/bytealg.CountString", "internal/bytealg.IndexByteString", "internal/bytealg.IndexString", "internal/abi.NoEscape"], recurses := true, named := ["unicode/utf8.first", "unicode/utf8.acceptRanges", "internal/bytealg.MaxLen", "internal/strconv.uint64pow10", "math/bits.deBruijn32tab", "math/bits.deBruijn64tab", "strconv.ErrSyntax", "strconv.ErrRange"], apart := false, laid := [("math/bits.deBruijn32tab", laid_math_bits_deBruijn32tab), ("math/bits.deBruijn64tab", laid_math_bits_deBruijn64tab), ("internal/strconv.uint64pow10", laid_internal_strconv_uint64pow10), ("unicode/utf8.acceptRanges", laid_unicode_utf8_acceptRanges), ("strconv.ErrRange", laid_strconv_ErrRange), ("strconv.ErrSyntax", laid_strconv_ErrSyntax), ("unicode/utf8.first", laid_unicode_utf8_first)], narrowed := true }
def FnRepoPutUptoSaid : Prop := fnRepoPutUptoRow.holds Tryz.pinned (OpenSpec.upto fnRepoPutSpec)

/-- 'laws.FnRepoRead', WHERE WHAT IT READS IS OF BULK AT MOST 1048576: true; the input reads as it did. -/
def fnRepoReadUptoRow : OpenClaim := { program := "ytnmmlcjnjnooaaagreatdoor", sum := "a04b8a63a1dc33b171238bbb9bbd1dfb2989740408e01e1d3318506197dc4b6c", func := "loop.example/versioncontrol/laws.FnRepoRead", spec := "fnRepoRead", inPlace := ["internal/bytealg.CountString", "internal/bytealg.IndexByteString", "internal/bytealg.IndexString", "internal/abi.NoEscape"], recurses := true, named := ["unicode/utf8.first", "unicode/utf8.acceptRanges", "internal/bytealg.MaxLen", "strconv.ErrSyntax", "strconv.ErrRange", "internal/strconv.uint64pow10", "math/bits.deBruijn32tab", "math/bits.deBruijn64tab"], apart := false, laid := [("math/bits.deBruijn32tab", laid_math_bits_deBruijn32tab), ("math/bits.deBruijn64tab", laid_math_bits_deBruijn64tab), ("internal/strconv.uint64pow10", laid_internal_strconv_uint64pow10), ("unicode/utf8.acceptRanges", laid_unicode_utf8_acceptRanges), ("strconv.ErrRange", laid_strconv_ErrRange), ("strconv.ErrSyntax", laid_strconv_ErrSyntax), ("unicode/utf8.first", laid_unicode_utf8_first)], narrowed := true }
def FnRepoReadUptoSaid : Prop := fnRepoReadUptoRow.holds Tryz.pinned (OpenSpec.upto fnRepoReadSpec)

/-- 'laws.FnReviewNeed', WHERE WHAT IT READS IS OF BULK AT MOST 1048576: true; the input reads as it did. -/
def fnReviewNeedUptoRow : OpenClaim := { program := "ytnmmlcjnjnooaaagreatdoor", sum := "a04b8a63a1dc33b171238bbb9bbd1dfb2989740408e01e1d3318506197dc4b6c", func := "loop.example/versioncontrol/laws.FnReviewNeed", spec := "fnReviewNeed", inPlace := ["internal/bytealg.CountString", "internal/bytealg.IndexByteString", "internal/bytealg.IndexString"], recurses := true, named := ["unicode/utf8.first", "unicode/utf8.acceptRanges", "internal/bytealg.MaxLen"], apart := false, laid := [("unicode/utf8.acceptRanges", laid_unicode_utf8_acceptRanges), ("unicode/utf8.first", laid_unicode_utf8_first)], narrowed := true }
def FnReviewNeedUptoSaid : Prop := fnReviewNeedUptoRow.holds Tryz.pinned (OpenSpec.upto fnReviewNeedSpec)

/-- 'laws.FnUniteTwice', WHERE WHAT IT READS IS OF BULK AT MOST 1048576: true; the input reads as it did. -/
def fnUniteTwiceUptoRow : OpenClaim := { program := "ytnmmlcjnjnooaaagreatdoor", sum := "a04b8a63a1dc33b171238bbb9bbd1dfb2989740408e01e1d3318506197dc4b6c", func := "loop.example/versioncontrol/laws.FnUniteTwice", spec := "fnUniteTwice", inPlace := ["internal/bytealg.CountString", "internal/bytealg.IndexByteString", "internal/bytealg.IndexString", "slices.overlaps[loop.example/versioncontrol/impl.Head]"], unfollowed := true, recurses := true, named := ["unicode/utf8.first", "unicode/utf8.acceptRanges", "internal/bytealg.MaxLen"], apart := false, laid := [("unicode/utf8.acceptRanges", laid_unicode_utf8_acceptRanges), ("unicode/utf8.first", laid_unicode_utf8_first)], narrowed := true }
def FnUniteTwiceUptoSaid : Prop := fnUniteTwiceUptoRow.holds Tryz.pinned (OpenSpec.upto fnUniteTwiceSpec)

/-- 'laws.FnQueueLeft', WHERE WHAT IT READS IS OF BULK AT MOST 1048576: true; the input reads as it did. -/
def fnQueueLeftUptoRow : OpenClaim := { program := "ytnmmlcjnjnooaaagreatdoor", sum := "a04b8a63a1dc33b171238bbb9bbd1dfb2989740408e01e1d3318506197dc4b6c", func := "loop.example/versioncontrol/laws.FnQueueLeft", spec := "fnQueueLeft", inPlace := ["internal/bytealg.CountString", "internal/bytealg.IndexByteString", "internal/bytealg.IndexString", "slices.overlaps[loop.example/versioncontrol/impl.Head]"], unfollowed := true, recurses := true, named := ["unicode/utf8.first", "unicode/utf8.acceptRanges", "internal/bytealg.MaxLen"], apart := false, laid := [("unicode/utf8.acceptRanges", laid_unicode_utf8_acceptRanges), ("unicode/utf8.first", laid_unicode_utf8_first)], narrowed := true }
def FnQueueLeftUptoSaid : Prop := fnQueueLeftUptoRow.holds Tryz.pinned (OpenSpec.upto fnQueueLeftSpec)

/-- 'laws.FnExactQueueLeft', WHERE WHAT IT READS IS OF BULK AT MOST 1048576: true; the input reads as it did. -/
def fnExactQueueLeftUptoRow : OpenClaim := { program := "ytnmmlcjnjnooaaagreatdoor", sum := "a04b8a63a1dc33b171238bbb9bbd1dfb2989740408e01e1d3318506197dc4b6c", func := "loop.example/versioncontrol/laws.FnExactQueueLeft", spec := "fnExactQueueLeft", inPlace := ["internal/bytealg.CountString", "internal/bytealg.IndexByteString", "internal/bytealg.IndexString", "slices.overlaps[loop.example/versioncontrol/impl.Head]"], unfollowed := true, recurses := true, named := ["unicode/utf8.first", "unicode/utf8.acceptRanges", "internal/bytealg.MaxLen"], apart := false, laid := [("unicode/utf8.acceptRanges", laid_unicode_utf8_acceptRanges), ("unicode/utf8.first", laid_unicode_utf8_first)], narrowed := true }
def FnExactQueueLeftUptoSaid : Prop := fnExactQueueLeftUptoRow.holds Tryz.pinned (OpenSpec.upto fnExactQueueLeftSpec)

end Rows
end Go.Proofs.YtnmmlcjnjnooaaaGreatDoor
