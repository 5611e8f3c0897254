/-
  NARROWER THAN 'FOR EVERY INPUT', by the rows' own cells (each row's printed sentence says how): FnSeekTree: laid · FnExactTreePut: laid · FnViewPut: laid · FnViewFree: laid · FnExactViewPut: laid · FnExactMarkNear: laid · FnViewGet: laid · FnExactSeekSince: laid · FnExactSeekAll: laid · FnExactMarkPut: laid · FnExactRepoPut: laid.
  DERIVED. THE GIVEN ROWS OF THIS SEAT. 11 by the template 'for every input the law returns true; each argument reads behind the call as it read before'; 0 by the template 'total and deterministic' (their statements: YtlhkmgbmnbkaeaaDoorTotals.lean).
  GIVEN WITH THE SEED: the statements are not yours to turn. If you find one false, say at which input.
  Laid BY PROGRAM, IN A SANDBOX (cutbox-rows.mjs): the forced cells as the released guide's own fill.sh prints them over the translation 5ca0f1c4579a34d5… (all of the seat's roots in one cut). By AI agents, Wed Nov 11 2026. No macro, syntax, notation, axiom, sorry.
-/
import Derived.Test.YtlhkmgbmnbkaeaaDoorChecked
import GoSem.PinnedTables
import GoSem.Claim
import GoSem.ClaimJoined
import GoSem.ClaimMapViews
import Derived.JoinedTies
import Derived.KernelRfl
namespace Go.Proofs.YtlhkmgbmnbkaeaaDoor
/- THE CELL 'sum', in the pinned program and in every row, IS THE sha256 OF THE DUMP (.gsa) THAT YtlhkmgbmnbkaeaaDoorProg.lean LOADS. Nothing in Lean hashes anything: it is a label: what it is worth is what the hold of that sum in a sandbox is worth. -/
noncomputable def Tryd.pinned : Pinned := { name := "ytlhkmgbmnbkaeaadoor", sum := "5ca0f1c4579a34d58cc825db4a1789a0282998ae78abb0fe1eeee8c69f55a4b5", checked := Tryd.checked }
namespace Rows
def none {H : Type} : Left H := { results := [], args := [] }

/- WHAT THE LISTED PACKAGE-LEVEL VARIABLES READ AS WHEN THE CALL BEGINS. Each datum BY PROGRAM (the guide's laid-datum.mjs) off the statement by which the dump's own 'gosem.cut.vars' lays the variable. In a bare row this is a premise. The card (YtlhkmgbmnbkaeaaDoorCards.lean) ties it to the program's text. -/
def laid_unicode_utf8_acceptRanges {H : Type} : DataW H := .agg [.agg [.lit (.int .u8 128), .lit (.int .u8 191)], .agg [.lit (.int .u8 160), .lit (.int .u8 191)], .agg [.lit (.int .u8 128), .lit (.int .u8 159)], .agg [.lit (.int .u8 144), .lit (.int .u8 191)], .agg [.lit (.int .u8 128), .lit (.int .u8 143)], .agg [.lit (.int .u8 0), .lit (.int .u8 0)], .agg [.lit (.int .u8 0), .lit (.int .u8 0)], .agg [.lit (.int .u8 0), .lit (.int .u8 0)], .agg [.lit (.int .u8 0), .lit (.int .u8 0)], .agg [.lit (.int .u8 0), .lit (.int .u8 0)], .agg [.lit (.int .u8 0), .lit (.int .u8 0)], .agg [.lit (.int .u8 0), .lit (.int .u8 0)], .agg [.lit (.int .u8 0), .lit (.int .u8 0)], .agg [.lit (.int .u8 0), .lit (.int .u8 0)], .agg [.lit (.int .u8 0), .lit (.int .u8 0)], .agg [.lit (.int .u8 0), .lit (.int .u8 0)]]
/-- One of Go's own tables, pinned by name: the form's constant. -/
def laid_unicode_utf8_first : DataW Unit := Go.Pinned.utf8First
def laid_math_bits_deBruijn32tab {H : Type} : DataW H := .agg [.lit (.int .u8 0), .lit (.int .u8 1), .lit (.int .u8 28), .lit (.int .u8 2), .lit (.int .u8 29), .lit (.int .u8 14), .lit (.int .u8 24), .lit (.int .u8 3), .lit (.int .u8 30), .lit (.int .u8 22), .lit (.int .u8 20), .lit (.int .u8 15), .lit (.int .u8 25), .lit (.int .u8 17), .lit (.int .u8 4), .lit (.int .u8 8), .lit (.int .u8 31), .lit (.int .u8 27), .lit (.int .u8 13), .lit (.int .u8 23), .lit (.int .u8 21), .lit (.int .u8 19), .lit (.int .u8 16), .lit (.int .u8 7), .lit (.int .u8 26), .lit (.int .u8 12), .lit (.int .u8 18), .lit (.int .u8 6), .lit (.int .u8 11), .lit (.int .u8 5), .lit (.int .u8 10), .lit (.int .u8 9)]
def laid_math_bits_deBruijn64tab {H : Type} : DataW H := .agg [.lit (.int .u8 0), .lit (.int .u8 1), .lit (.int .u8 56), .lit (.int .u8 2), .lit (.int .u8 57), .lit (.int .u8 49), .lit (.int .u8 28), .lit (.int .u8 3), .lit (.int .u8 61), .lit (.int .u8 58), .lit (.int .u8 42), .lit (.int .u8 50), .lit (.int .u8 38), .lit (.int .u8 29), .lit (.int .u8 17), .lit (.int .u8 4), .lit (.int .u8 62), .lit (.int .u8 47), .lit (.int .u8 59), .lit (.int .u8 36), .lit (.int .u8 45), .lit (.int .u8 43), .lit (.int .u8 51), .lit (.int .u8 22), .lit (.int .u8 53), .lit (.int .u8 39), .lit (.int .u8 33), .lit (.int .u8 30), .lit (.int .u8 24), .lit (.int .u8 18), .lit (.int .u8 12), .lit (.int .u8 5), .lit (.int .u8 63), .lit (.int .u8 55), .lit (.int .u8 48), .lit (.int .u8 27), .lit (.int .u8 60), .lit (.int .u8 41), .lit (.int .u8 37), .lit (.int .u8 16), .lit (.int .u8 46), .lit (.int .u8 35), .lit (.int .u8 44), .lit (.int .u8 21), .lit (.int .u8 52), .lit (.int .u8 32), .lit (.int .u8 23), .lit (.int .u8 11), .lit (.int .u8 54), .lit (.int .u8 26), .lit (.int .u8 40), .lit (.int .u8 15), .lit (.int .u8 34), .lit (.int .u8 20), .lit (.int .u8 31), .lit (.int .u8 10), .lit (.int .u8 25), .lit (.int .u8 14), .lit (.int .u8 19), .lit (.int .u8 9), .lit (.int .u8 13), .lit (.int .u8 8), .lit (.int .u8 7), .lit (.int .u8 6)]
def laid_internal_strconv_uint64pow10 {H : Type} : DataW H := .agg [.lit (.int .u64 1), .lit (.int .u64 10), .lit (.int .u64 100), .lit (.int .u64 1000), .lit (.int .u64 10000), .lit (.int .u64 100000), .lit (.int .u64 1000000), .lit (.int .u64 10000000), .lit (.int .u64 100000000), .lit (.int .u64 1000000000), .lit (.int .u64 10000000000), .lit (.int .u64 100000000000), .lit (.int .u64 1000000000000), .lit (.int .u64 10000000000000), .lit (.int .u64 100000000000000), .lit (.int .u64 1000000000000000), .lit (.int .u64 10000000000000000), .lit (.int .u64 100000000000000000), .lit (.int .u64 1000000000000000000), .lit (.int .u64 10000000000000000000)]

/-- 'laws.FnSeekTree': WHATEVER THE INPUT: true; the input reads as it did. -/
def fnSeekTreeSpec : ChangeSpec := { name := "fnSeekTree", fn := fun _ => fun
  | [d] => { results := [.lit (.bool true)], args := [d] }
  | _ => none }
def fnSeekTreeRow : OpenClaim := { program := "ytlhkmgbmnbkaeaadoor", sum := "5ca0f1c4579a34d58cc825db4a1789a0282998ae78abb0fe1eeee8c69f55a4b5", func := "loop.example/versioncontrol/laws.FnSeekTree", spec := "fnSeekTree", inPlace := ["internal/bytealg.CountString", "internal/bytealg.IndexByteString", "internal/bytealg.IndexString"], unfollowed := true, recurses := true, named := ["unicode/utf8.first", "unicode/utf8.acceptRanges", "internal/bytealg.MaxLen"], apart := false, laid := [("unicode/utf8.acceptRanges", laid_unicode_utf8_acceptRanges), ("unicode/utf8.first", laid_unicode_utf8_first)] }
def FnSeekTreeSaid : Prop := fnSeekTreeRow.holds Tryd.pinned (OpenSpec.ofChange fnSeekTreeSpec)

/-- ITS FALSE NEIGHBOUR: 'it returns false'. Refute it at one input. -/
def fnSeekTreeWrong : ChangeSpec := { name := "fnSeekTree", fn := fun _ => fun
  | [d] => { results := [.lit (.bool false)], args := [d] }
  | _ => none }
def FnSeekTreeWrongFalsely : Prop := fnSeekTreeRow.holds Tryd.pinned (OpenSpec.ofChange fnSeekTreeWrong)

/-- 'laws.FnExactTreePut': WHATEVER THE INPUT: true; the input reads as it did. -/
def fnExactTreePutSpec : ChangeSpec := { name := "fnExactTreePut", fn := fun _ => fun
  | [d] => { results := [.lit (.bool true)], args := [d] }
  | _ => none }
def fnExactTreePutRow : OpenClaim := { program := "ytlhkmgbmnbkaeaadoor", sum := "5ca0f1c4579a34d58cc825db4a1789a0282998ae78abb0fe1eeee8c69f55a4b5", func := "loop.example/versioncontrol/laws.FnExactTreePut", spec := "fnExactTreePut", inPlace := ["internal/bytealg.CountString", "internal/bytealg.IndexByteString", "internal/bytealg.IndexString", "internal/abi.NoEscape"], recurses := true, named := ["unicode/utf8.first", "unicode/utf8.acceptRanges", "internal/bytealg.MaxLen", "internal/strconv.uint64pow10", "math/bits.deBruijn32tab", "math/bits.deBruijn64tab"], apart := false, laid := [("math/bits.deBruijn32tab", laid_math_bits_deBruijn32tab), ("math/bits.deBruijn64tab", laid_math_bits_deBruijn64tab), ("internal/strconv.uint64pow10", laid_internal_strconv_uint64pow10), ("unicode/utf8.acceptRanges", laid_unicode_utf8_acceptRanges), ("unicode/utf8.first", laid_unicode_utf8_first)] }
def FnExactTreePutSaid : Prop := fnExactTreePutRow.holds Tryd.pinned (OpenSpec.ofChange fnExactTreePutSpec)

/-- ITS FALSE NEIGHBOUR: 'it returns false'. Refute it at one input. -/
def fnExactTreePutWrong : ChangeSpec := { name := "fnExactTreePut", fn := fun _ => fun
  | [d] => { results := [.lit (.bool false)], args := [d] }
  | _ => none }
def FnExactTreePutWrongFalsely : Prop := fnExactTreePutRow.holds Tryd.pinned (OpenSpec.ofChange fnExactTreePutWrong)

/-- 'laws.FnViewPut': WHATEVER THE INPUT: true; the input reads as it did. -/
def fnViewPutSpec : ChangeSpec := { name := "fnViewPut", fn := fun _ => fun
  | [d] => { results := [.lit (.bool true)], args := [d] }
  | _ => none }
def fnViewPutRow : OpenClaim := { program := "ytlhkmgbmnbkaeaadoor", sum := "5ca0f1c4579a34d58cc825db4a1789a0282998ae78abb0fe1eeee8c69f55a4b5", func := "loop.example/versioncontrol/laws.FnViewPut", spec := "fnViewPut", inPlace := ["internal/bytealg.CountString", "internal/bytealg.IndexByteString", "internal/bytealg.IndexString", "slices.overlaps[loop.example/versioncontrol/impl.File]"], unfollowed := true, recurses := true, named := ["unicode/utf8.first", "unicode/utf8.acceptRanges", "internal/bytealg.MaxLen"], apart := false, laid := [("unicode/utf8.acceptRanges", laid_unicode_utf8_acceptRanges), ("unicode/utf8.first", laid_unicode_utf8_first)] }
def FnViewPutSaid : Prop := fnViewPutRow.holds Tryd.pinned (OpenSpec.ofChange fnViewPutSpec)

/-- ITS FALSE NEIGHBOUR: 'it returns false'. Refute it at one input. -/
def fnViewPutWrong : ChangeSpec := { name := "fnViewPut", fn := fun _ => fun
  | [d] => { results := [.lit (.bool false)], args := [d] }
  | _ => none }
def FnViewPutWrongFalsely : Prop := fnViewPutRow.holds Tryd.pinned (OpenSpec.ofChange fnViewPutWrong)

/-- 'laws.FnViewFree': WHATEVER THE INPUT: true; the input reads as it did. -/
def fnViewFreeSpec : ChangeSpec := { name := "fnViewFree", fn := fun _ => fun
  | [d] => { results := [.lit (.bool true)], args := [d] }
  | _ => none }
def fnViewFreeRow : OpenClaim := { program := "ytlhkmgbmnbkaeaadoor", sum := "5ca0f1c4579a34d58cc825db4a1789a0282998ae78abb0fe1eeee8c69f55a4b5", func := "loop.example/versioncontrol/laws.FnViewFree", spec := "fnViewFree", inPlace := ["internal/bytealg.CountString", "internal/bytealg.IndexByteString", "internal/bytealg.IndexString", "slices.overlaps[loop.example/versioncontrol/impl.File]"], unfollowed := true, recurses := true, named := ["unicode/utf8.first", "unicode/utf8.acceptRanges", "internal/bytealg.MaxLen"], apart := false, laid := [("unicode/utf8.acceptRanges", laid_unicode_utf8_acceptRanges), ("unicode/utf8.first", laid_unicode_utf8_first)] }
def FnViewFreeSaid : Prop := fnViewFreeRow.holds Tryd.pinned (OpenSpec.ofChange fnViewFreeSpec)

/-- ITS FALSE NEIGHBOUR: 'it returns false'. Refute it at one input. -/
def fnViewFreeWrong : ChangeSpec := { name := "fnViewFree", fn := fun _ => fun
  | [d] => { results := [.lit (.bool false)], args := [d] }
  | _ => none }
def FnViewFreeWrongFalsely : Prop := fnViewFreeRow.holds Tryd.pinned (OpenSpec.ofChange fnViewFreeWrong)

/-- 'laws.FnExactViewPut': WHATEVER THE INPUT: true; the input reads as it did. -/
def fnExactViewPutSpec : ChangeSpec := { name := "fnExactViewPut", fn := fun _ => fun
  | [d1, d2, d3] => { results := [.lit (.bool true)], args := [d1, d2, d3] }
  | _ => none }
def fnExactViewPutRow : OpenClaim := { program := "ytlhkmgbmnbkaeaadoor", sum := "5ca0f1c4579a34d58cc825db4a1789a0282998ae78abb0fe1eeee8c69f55a4b5", func := "loop.example/versioncontrol/laws.FnExactViewPut", spec := "fnExactViewPut", inPlace := ["internal/bytealg.CountString", "internal/bytealg.IndexByteString", "internal/bytealg.IndexString", "slices.overlaps[loop.example/versioncontrol/impl.File]"], unfollowed := true, recurses := true, named := ["unicode/utf8.first", "unicode/utf8.acceptRanges", "internal/bytealg.MaxLen"], apart := false, laid := [("unicode/utf8.acceptRanges", laid_unicode_utf8_acceptRanges), ("unicode/utf8.first", laid_unicode_utf8_first)] }
def FnExactViewPutSaid : Prop := fnExactViewPutRow.holds Tryd.pinned (OpenSpec.ofChange fnExactViewPutSpec)

/-- ITS FALSE NEIGHBOUR: 'it returns false'. Refute it at one input. -/
def fnExactViewPutWrong : ChangeSpec := { name := "fnExactViewPut", fn := fun _ => fun
  | [d1, d2, d3] => { results := [.lit (.bool false)], args := [d1, d2, d3] }
  | _ => none }
def FnExactViewPutWrongFalsely : Prop := fnExactViewPutRow.holds Tryd.pinned (OpenSpec.ofChange fnExactViewPutWrong)

/-- 'laws.FnExactMarkNear': WHATEVER THE INPUT: true; the input reads as it did. -/
def fnExactMarkNearSpec : ChangeSpec := { name := "fnExactMarkNear", fn := fun _ => fun
  | [d1, d2, d3] => { results := [.lit (.bool true)], args := [d1, d2, d3] }
  | _ => none }
def fnExactMarkNearRow : OpenClaim := { program := "ytlhkmgbmnbkaeaadoor", sum := "5ca0f1c4579a34d58cc825db4a1789a0282998ae78abb0fe1eeee8c69f55a4b5", func := "loop.example/versioncontrol/laws.FnExactMarkNear", spec := "fnExactMarkNear", inPlace := ["internal/bytealg.CountString", "internal/bytealg.IndexByteString", "internal/bytealg.IndexString"], named := ["unicode/utf8.first", "unicode/utf8.acceptRanges", "internal/bytealg.MaxLen"], apart := false, laid := [("unicode/utf8.acceptRanges", laid_unicode_utf8_acceptRanges), ("unicode/utf8.first", laid_unicode_utf8_first)] }
def FnExactMarkNearSaid : Prop := fnExactMarkNearRow.holds Tryd.pinned (OpenSpec.ofChange fnExactMarkNearSpec)

/-- ITS FALSE NEIGHBOUR: 'it returns false'. Refute it at one input. -/
def fnExactMarkNearWrong : ChangeSpec := { name := "fnExactMarkNear", fn := fun _ => fun
  | [d1, d2, d3] => { results := [.lit (.bool false)], args := [d1, d2, d3] }
  | _ => none }
def FnExactMarkNearWrongFalsely : Prop := fnExactMarkNearRow.holds Tryd.pinned (OpenSpec.ofChange fnExactMarkNearWrong)

/-- 'laws.FnViewGet': WHATEVER THE INPUT: true; the input reads as it did. -/
def fnViewGetSpec : ChangeSpec := { name := "fnViewGet", fn := fun _ => fun
  | [d] => { results := [.lit (.bool true)], args := [d] }
  | _ => none }
def fnViewGetRow : OpenClaim := { program := "ytlhkmgbmnbkaeaadoor", sum := "5ca0f1c4579a34d58cc825db4a1789a0282998ae78abb0fe1eeee8c69f55a4b5", func := "loop.example/versioncontrol/laws.FnViewGet", spec := "fnViewGet", inPlace := ["internal/bytealg.CountString", "internal/bytealg.IndexByteString", "internal/bytealg.IndexString", "slices.overlaps[loop.example/versioncontrol/impl.File]"], unfollowed := true, recurses := true, named := ["unicode/utf8.first", "unicode/utf8.acceptRanges", "internal/bytealg.MaxLen"], apart := false, laid := [("unicode/utf8.acceptRanges", laid_unicode_utf8_acceptRanges), ("unicode/utf8.first", laid_unicode_utf8_first)] }
def FnViewGetSaid : Prop := fnViewGetRow.holds Tryd.pinned (OpenSpec.ofChange fnViewGetSpec)

/-- ITS FALSE NEIGHBOUR: 'it returns false'. Refute it at one input. -/
def fnViewGetWrong : ChangeSpec := { name := "fnViewGet", fn := fun _ => fun
  | [d] => { results := [.lit (.bool false)], args := [d] }
  | _ => none }
def FnViewGetWrongFalsely : Prop := fnViewGetRow.holds Tryd.pinned (OpenSpec.ofChange fnViewGetWrong)

/-- 'laws.FnExactSeekSince': WHATEVER THE INPUT: true; the input reads as it did. -/
def fnExactSeekSinceSpec : ChangeSpec := { name := "fnExactSeekSince", fn := fun _ => fun
  | [d1, d2, d3] => { results := [.lit (.bool true)], args := [d1, d2, d3] }
  | _ => none }
def fnExactSeekSinceRow : OpenClaim := { program := "ytlhkmgbmnbkaeaadoor", sum := "5ca0f1c4579a34d58cc825db4a1789a0282998ae78abb0fe1eeee8c69f55a4b5", func := "loop.example/versioncontrol/laws.FnExactSeekSince", spec := "fnExactSeekSince", inPlace := ["internal/bytealg.CountString", "internal/bytealg.IndexByteString", "internal/bytealg.IndexString"], unfollowed := true, recurses := true, named := ["unicode/utf8.first", "unicode/utf8.acceptRanges", "internal/bytealg.MaxLen"], apart := false, laid := [("unicode/utf8.acceptRanges", laid_unicode_utf8_acceptRanges), ("unicode/utf8.first", laid_unicode_utf8_first)] }
def FnExactSeekSinceSaid : Prop := fnExactSeekSinceRow.holds Tryd.pinned (OpenSpec.ofChange fnExactSeekSinceSpec)

/-- ITS FALSE NEIGHBOUR: 'it returns false'. Refute it at one input. -/
def fnExactSeekSinceWrong : ChangeSpec := { name := "fnExactSeekSince", fn := fun _ => fun
  | [d1, d2, d3] => { results := [.lit (.bool false)], args := [d1, d2, d3] }
  | _ => none }
def FnExactSeekSinceWrongFalsely : Prop := fnExactSeekSinceRow.holds Tryd.pinned (OpenSpec.ofChange fnExactSeekSinceWrong)

/-- 'laws.FnExactSeekAll': WHATEVER THE INPUT: true; the input reads as it did. -/
def fnExactSeekAllSpec : ChangeSpec := { name := "fnExactSeekAll", fn := fun _ => fun
  | [d1, d2] => { results := [.lit (.bool true)], args := [d1, d2] }
  | _ => none }
def fnExactSeekAllRow : OpenClaim := { program := "ytlhkmgbmnbkaeaadoor", sum := "5ca0f1c4579a34d58cc825db4a1789a0282998ae78abb0fe1eeee8c69f55a4b5", func := "loop.example/versioncontrol/laws.FnExactSeekAll", spec := "fnExactSeekAll", inPlace := ["internal/bytealg.CountString", "internal/bytealg.IndexByteString", "internal/bytealg.IndexString"], unfollowed := true, recurses := true, named := ["unicode/utf8.first", "unicode/utf8.acceptRanges", "internal/bytealg.MaxLen"], apart := false, laid := [("unicode/utf8.acceptRanges", laid_unicode_utf8_acceptRanges), ("unicode/utf8.first", laid_unicode_utf8_first)] }
def FnExactSeekAllSaid : Prop := fnExactSeekAllRow.holds Tryd.pinned (OpenSpec.ofChange fnExactSeekAllSpec)

/-- ITS FALSE NEIGHBOUR: 'it returns false'. Refute it at one input. -/
def fnExactSeekAllWrong : ChangeSpec := { name := "fnExactSeekAll", fn := fun _ => fun
  | [d1, d2] => { results := [.lit (.bool false)], args := [d1, d2] }
  | _ => none }
def FnExactSeekAllWrongFalsely : Prop := fnExactSeekAllRow.holds Tryd.pinned (OpenSpec.ofChange fnExactSeekAllWrong)

/-- 'laws.FnExactMarkPut': WHATEVER THE INPUT: true; the input reads as it did. -/
def fnExactMarkPutSpec : ChangeSpec := { name := "fnExactMarkPut", fn := fun _ => fun
  | [d1, d2, d3, d4] => { results := [.lit (.bool true)], args := [d1, d2, d3, d4] }
  | _ => none }
def fnExactMarkPutRow : OpenClaim := { program := "ytlhkmgbmnbkaeaadoor", sum := "5ca0f1c4579a34d58cc825db4a1789a0282998ae78abb0fe1eeee8c69f55a4b5", func := "loop.example/versioncontrol/laws.FnExactMarkPut", spec := "fnExactMarkPut", inPlace := ["internal/bytealg.CountString", "internal/bytealg.IndexByteString", "internal/bytealg.IndexString", "slices.overlaps[loop.example/versioncontrol/impl.Head]"], named := ["unicode/utf8.first", "unicode/utf8.acceptRanges", "internal/bytealg.MaxLen"], apart := false, laid := [("unicode/utf8.acceptRanges", laid_unicode_utf8_acceptRanges), ("unicode/utf8.first", laid_unicode_utf8_first)] }
def FnExactMarkPutSaid : Prop := fnExactMarkPutRow.holds Tryd.pinned (OpenSpec.ofChange fnExactMarkPutSpec)

/-- ITS FALSE NEIGHBOUR: 'it returns false'. Refute it at one input. -/
def fnExactMarkPutWrong : ChangeSpec := { name := "fnExactMarkPut", fn := fun _ => fun
  | [d1, d2, d3, d4] => { results := [.lit (.bool false)], args := [d1, d2, d3, d4] }
  | _ => none }
def FnExactMarkPutWrongFalsely : Prop := fnExactMarkPutRow.holds Tryd.pinned (OpenSpec.ofChange fnExactMarkPutWrong)

/-- 'laws.FnExactRepoPut': WHATEVER THE INPUT: true; the input reads as it did. -/
def fnExactRepoPutSpec : ChangeSpec := { name := "fnExactRepoPut", fn := fun _ => fun
  | [d] => { results := [.lit (.bool true)], args := [d] }
  | _ => none }
def fnExactRepoPutRow : OpenClaim := { program := "ytlhkmgbmnbkaeaadoor", sum := "5ca0f1c4579a34d58cc825db4a1789a0282998ae78abb0fe1eeee8c69f55a4b5", func := "loop.example/versioncontrol/laws.FnExactRepoPut", spec := "fnExactRepoPut", inPlace := ["internal/bytealg.CountString", "internal/bytealg.IndexByteString", "internal/bytealg.IndexString", "internal/abi.NoEscape"], recurses := true, named := ["unicode/utf8.first", "unicode/utf8.acceptRanges", "internal/bytealg.MaxLen", "internal/strconv.uint64pow10", "math/bits.deBruijn32tab", "math/bits.deBruijn64tab"], apart := false, laid := [("math/bits.deBruijn32tab", laid_math_bits_deBruijn32tab), ("math/bits.deBruijn64tab", laid_math_bits_deBruijn64tab), ("internal/strconv.uint64pow10", laid_internal_strconv_uint64pow10), ("unicode/utf8.acceptRanges", laid_unicode_utf8_acceptRanges), ("unicode/utf8.first", laid_unicode_utf8_first)] }
def FnExactRepoPutSaid : Prop := fnExactRepoPutRow.holds Tryd.pinned (OpenSpec.ofChange fnExactRepoPutSpec)

/-- ITS FALSE NEIGHBOUR: 'it returns false'. Refute it at one input. -/
def fnExactRepoPutWrong : ChangeSpec := { name := "fnExactRepoPut", fn := fun _ => fun
  | [d] => { results := [.lit (.bool false)], args := [d] }
  | _ => none }
def FnExactRepoPutWrongFalsely : Prop := fnExactRepoPutRow.holds Tryd.pinned (OpenSpec.ofChange fnExactRepoPutWrong)

/- THE SECOND FORM. 'bulk': how many values and letters a reading holds, each counted each time it is reached (what is shared counts as often as it is met; a slice's spare places count too). A statement '..UptoSaid' is the law's where the arguments, and the package variables that the reading takes, are together of bulk at most 1048576: NARROWER than '..Said'. Prove '..Said' where nothing that the law and all that it calls make is longer than what came in: it says more and counts as full. Else prove '..UptoSaid'. A law counts once. -/
mutual
def uptoBulk {H : Type} : DataW H → Nat
  | .lit (.string bytes) => bytes.length + 1
  | .lit _ => 1
  | .nil => 1
  | .ptr d => uptoBulk d + 1
  | .slice elems spare => uptoBulkAll elems + uptoBulkAll spare + 1
  | .agg parts => uptoBulkAll parts + 1
  | .iface _ d => uptoBulk d + 1
  | .map entries => uptoBulkEntries entries + 1
  | .held _ => 1
def uptoBulkAll {H : Type} : List (DataW H) → Nat
  | [] => 0
  | d :: r => uptoBulk d + uptoBulkAll r
def uptoBulkEntries {H : Type} : List (Lit × DataW H) → Nat
  | [] => 0
  | x :: r => uptoBulkEntry x + uptoBulkEntries r
def uptoBulkEntry {H : Type} : Lit × DataW H → Nat
  | (.string bytes, d) => bytes.length + uptoBulk d + 1
  | (_, d) => uptoBulk d + 1
 end
def uptoSmall : (H : Type) → List (DataW H) → Bool := fun _ ds => decide (uptoBulkAll ds ≤ 1048576)
def OpenSpec.upto (s : _root_.Go.ChangeSpec) : _root_.Go.OpenSpec := { _root_.Go.OpenSpec.ofChange s with cond := some uptoSmall }

/-- 'laws.FnSeekTree', WHERE WHAT IT READS IS OF BULK AT MOST 1048576: true; the input reads as it did. -/
def fnSeekTreeUptoRow : OpenClaim := { program := "ytlhkmgbmnbkaeaadoor", sum := "5ca0f1c4579a34d58cc825db4a1789a0282998ae78abb0fe1eeee8c69f55a4b5", func := "loop.example/versioncontrol/laws.FnSeekTree", spec := "fnSeekTree", inPlace := ["internal/bytealg.CountString", "internal/bytealg.IndexByteString", "internal/bytealg.IndexString"], unfollowed := true, recurses := true, named := ["unicode/utf8.first", "unicode/utf8.acceptRanges", "internal/bytealg.MaxLen"], apart := false, laid := [("unicode/utf8.acceptRanges", laid_unicode_utf8_acceptRanges), ("unicode/utf8.first", laid_unicode_utf8_first)], narrowed := true }
def FnSeekTreeUptoSaid : Prop := fnSeekTreeUptoRow.holds Tryd.pinned (OpenSpec.upto fnSeekTreeSpec)

/-- 'laws.FnExactTreePut', WHERE WHAT IT READS IS OF BULK AT MOST 1048576: true; the input reads as it did. -/
def fnExactTreePutUptoRow : OpenClaim := { program := "ytlhkmgbmnbkaeaadoor", sum := "5ca0f1c4579a34d58cc825db4a1789a0282998ae78abb0fe1eeee8c69f55a4b5", func := "loop.example/versioncontrol/laws.FnExactTreePut", spec := "fnExactTreePut", inPlace := ["internal/bytealg.CountString", "internal/bytealg.IndexByteString", "internal/bytealg.IndexString", "internal/abi.NoEscape"], recurses := true, named := ["unicode/utf8.first", "unicode/utf8.acceptRanges", "internal/bytealg.MaxLen", "internal/strconv.uint64pow10", "math/bits.deBruijn32tab", "math/bits.deBruijn64tab"], apart := false, laid := [("math/bits.deBruijn32tab", laid_math_bits_deBruijn32tab), ("math/bits.deBruijn64tab", laid_math_bits_deBruijn64tab), ("internal/strconv.uint64pow10", laid_internal_strconv_uint64pow10), ("unicode/utf8.acceptRanges", laid_unicode_utf8_acceptRanges), ("unicode/utf8.first", laid_unicode_utf8_first)], narrowed := true }
def FnExactTreePutUptoSaid : Prop := fnExactTreePutUptoRow.holds Tryd.pinned (OpenSpec.upto fnExactTreePutSpec)

/-- 'laws.FnViewPut', WHERE WHAT IT READS IS OF BULK AT MOST 1048576: true; the input reads as it did. -/
def fnViewPutUptoRow : OpenClaim := { program := "ytlhkmgbmnbkaeaadoor", sum := "5ca0f1c4579a34d58cc825db4a1789a0282998ae78abb0fe1eeee8c69f55a4b5", func := "loop.example/versioncontrol/laws.FnViewPut", spec := "fnViewPut", inPlace := ["internal/bytealg.CountString", "internal/bytealg.IndexByteString", "internal/bytealg.IndexString", "slices.overlaps[loop.example/versioncontrol/impl.File]"], unfollowed := true, recurses := true, named := ["unicode/utf8.first", "unicode/utf8.acceptRanges", "internal/bytealg.MaxLen"], apart := false, laid := [("unicode/utf8.acceptRanges", laid_unicode_utf8_acceptRanges), ("unicode/utf8.first", laid_unicode_utf8_first)], narrowed := true }
def FnViewPutUptoSaid : Prop := fnViewPutUptoRow.holds Tryd.pinned (OpenSpec.upto fnViewPutSpec)

/-- 'laws.FnViewFree', WHERE WHAT IT READS IS OF BULK AT MOST 1048576: true; the input reads as it did. -/
def fnViewFreeUptoRow : OpenClaim := { program := "ytlhkmgbmnbkaeaadoor", sum := "5ca0f1c4579a34d58cc825db4a1789a0282998ae78abb0fe1eeee8c69f55a4b5", func := "loop.example/versioncontrol/laws.FnViewFree", spec := "fnViewFree", inPlace := ["internal/bytealg.CountString", "internal/bytealg.IndexByteString", "internal/bytealg.IndexString", "slices.overlaps[loop.example/versioncontrol/impl.File]"], unfollowed := true, recurses := true, named := ["unicode/utf8.first", "unicode/utf8.acceptRanges", "internal/bytealg.MaxLen"], apart := false, laid := [("unicode/utf8.acceptRanges", laid_unicode_utf8_acceptRanges), ("unicode/utf8.first", laid_unicode_utf8_first)], narrowed := true }
def FnViewFreeUptoSaid : Prop := fnViewFreeUptoRow.holds Tryd.pinned (OpenSpec.upto fnViewFreeSpec)

/-- 'laws.FnExactViewPut', WHERE WHAT IT READS IS OF BULK AT MOST 1048576: true; the input reads as it did. -/
def fnExactViewPutUptoRow : OpenClaim := { program := "ytlhkmgbmnbkaeaadoor", sum := "5ca0f1c4579a34d58cc825db4a1789a0282998ae78abb0fe1eeee8c69f55a4b5", func := "loop.example/versioncontrol/laws.FnExactViewPut", spec := "fnExactViewPut", inPlace := ["internal/bytealg.CountString", "internal/bytealg.IndexByteString", "internal/bytealg.IndexString", "slices.overlaps[loop.example/versioncontrol/impl.File]"], unfollowed := true, recurses := true, named := ["unicode/utf8.first", "unicode/utf8.acceptRanges", "internal/bytealg.MaxLen"], apart := false, laid := [("unicode/utf8.acceptRanges", laid_unicode_utf8_acceptRanges), ("unicode/utf8.first", laid_unicode_utf8_first)], narrowed := true }
def FnExactViewPutUptoSaid : Prop := fnExactViewPutUptoRow.holds Tryd.pinned (OpenSpec.upto fnExactViewPutSpec)

/-- 'laws.FnExactMarkNear', WHERE WHAT IT READS IS OF BULK AT MOST 1048576: true; the input reads as it did. -/
def fnExactMarkNearUptoRow : OpenClaim := { program := "ytlhkmgbmnbkaeaadoor", sum := "5ca0f1c4579a34d58cc825db4a1789a0282998ae78abb0fe1eeee8c69f55a4b5", func := "loop.example/versioncontrol/laws.FnExactMarkNear", spec := "fnExactMarkNear", inPlace := ["internal/bytealg.CountString", "internal/bytealg.IndexByteString", "internal/bytealg.IndexString"], named := ["unicode/utf8.first", "unicode/utf8.acceptRanges", "internal/bytealg.MaxLen"], apart := false, laid := [("unicode/utf8.acceptRanges", laid_unicode_utf8_acceptRanges), ("unicode/utf8.first", laid_unicode_utf8_first)], narrowed := true }
def FnExactMarkNearUptoSaid : Prop := fnExactMarkNearUptoRow.holds Tryd.pinned (OpenSpec.upto fnExactMarkNearSpec)

/-- 'laws.FnViewGet', WHERE WHAT IT READS IS OF BULK AT MOST 1048576: true; the input reads as it did. -/
def fnViewGetUptoRow : OpenClaim := { program := "ytlhkmgbmnbkaeaadoor", sum := "5ca0f1c4579a34d58cc825db4a1789a0282998ae78abb0fe1eeee8c69f55a4b5", func := "loop.example/versioncontrol/laws.FnViewGet", spec := "fnViewGet", inPlace := ["internal/bytealg.CountString", "internal/bytealg.IndexByteString", "internal/bytealg.IndexString", "slices.overlaps[loop.example/versioncontrol/impl.File]"], unfollowed := true, recurses := true, named := ["unicode/utf8.first", "unicode/utf8.acceptRanges", "internal/bytealg.MaxLen"], apart := false, laid := [("unicode/utf8.acceptRanges", laid_unicode_utf8_acceptRanges), ("unicode/utf8.first", laid_unicode_utf8_first)], narrowed := true }
def FnViewGetUptoSaid : Prop := fnViewGetUptoRow.holds Tryd.pinned (OpenSpec.upto fnViewGetSpec)

/-- 'laws.FnExactSeekSince', WHERE WHAT IT READS IS OF BULK AT MOST 1048576: true; the input reads as it did. -/
def fnExactSeekSinceUptoRow : OpenClaim := { program := "ytlhkmgbmnbkaeaadoor", sum := "5ca0f1c4579a34d58cc825db4a1789a0282998ae78abb0fe1eeee8c69f55a4b5", func := "loop.example/versioncontrol/laws.FnExactSeekSince", spec := "fnExactSeekSince", inPlace := ["internal/bytealg.CountString", "internal/bytealg.IndexByteString", "internal/bytealg.IndexString"], unfollowed := true, recurses := true, named := ["unicode/utf8.first", "unicode/utf8.acceptRanges", "internal/bytealg.MaxLen"], apart := false, laid := [("unicode/utf8.acceptRanges", laid_unicode_utf8_acceptRanges), ("unicode/utf8.first", laid_unicode_utf8_first)], narrowed := true }
def FnExactSeekSinceUptoSaid : Prop := fnExactSeekSinceUptoRow.holds Tryd.pinned (OpenSpec.upto fnExactSeekSinceSpec)

/-- 'laws.FnExactSeekAll', WHERE WHAT IT READS IS OF BULK AT MOST 1048576: true; the input reads as it did. -/
def fnExactSeekAllUptoRow : OpenClaim := { program := "ytlhkmgbmnbkaeaadoor", sum := "5ca0f1c4579a34d58cc825db4a1789a0282998ae78abb0fe1eeee8c69f55a4b5", func := "loop.example/versioncontrol/laws.FnExactSeekAll", spec := "fnExactSeekAll", inPlace := ["internal/bytealg.CountString", "internal/bytealg.IndexByteString", "internal/bytealg.IndexString"], unfollowed := true, recurses := true, named := ["unicode/utf8.first", "unicode/utf8.acceptRanges", "internal/bytealg.MaxLen"], apart := false, laid := [("unicode/utf8.acceptRanges", laid_unicode_utf8_acceptRanges), ("unicode/utf8.first", laid_unicode_utf8_first)], narrowed := true }
def FnExactSeekAllUptoSaid : Prop := fnExactSeekAllUptoRow.holds Tryd.pinned (OpenSpec.upto fnExactSeekAllSpec)

/-- 'laws.FnExactMarkPut', WHERE WHAT IT READS IS OF BULK AT MOST 1048576: true; the input reads as it did. -/
def fnExactMarkPutUptoRow : OpenClaim := { program := "ytlhkmgbmnbkaeaadoor", sum := "5ca0f1c4579a34d58cc825db4a1789a0282998ae78abb0fe1eeee8c69f55a4b5", func := "loop.example/versioncontrol/laws.FnExactMarkPut", spec := "fnExactMarkPut", inPlace := ["internal/bytealg.CountString", "internal/bytealg.IndexByteString", "internal/bytealg.IndexString", "slices.overlaps[loop.example/versioncontrol/impl.Head]"], named := ["unicode/utf8.first", "unicode/utf8.acceptRanges", "internal/bytealg.MaxLen"], apart := false, laid := [("unicode/utf8.acceptRanges", laid_unicode_utf8_acceptRanges), ("unicode/utf8.first", laid_unicode_utf8_first)], narrowed := true }
def FnExactMarkPutUptoSaid : Prop := fnExactMarkPutUptoRow.holds Tryd.pinned (OpenSpec.upto fnExactMarkPutSpec)

/-- 'laws.FnExactRepoPut', WHERE WHAT IT READS IS OF BULK AT MOST 1048576: true; the input reads as it did. -/
def fnExactRepoPutUptoRow : OpenClaim := { program := "ytlhkmgbmnbkaeaadoor", sum := "5ca0f1c4579a34d58cc825db4a1789a0282998ae78abb0fe1eeee8c69f55a4b5", func := "loop.example/versioncontrol/laws.FnExactRepoPut", spec := "fnExactRepoPut", inPlace := ["internal/bytealg.CountString", "internal/bytealg.IndexByteString", "internal/bytealg.IndexString", "internal/abi.NoEscape"], recurses := true, named := ["unicode/utf8.first", "unicode/utf8.acceptRanges", "internal/bytealg.MaxLen", "internal/strconv.uint64pow10", "math/bits.deBruijn32tab", "math/bits.deBruijn64tab"], apart := false, laid := [("math/bits.deBruijn32tab", laid_math_bits_deBruijn32tab), ("math/bits.deBruijn64tab", laid_math_bits_deBruijn64tab), ("internal/strconv.uint64pow10", laid_internal_strconv_uint64pow10), ("unicode/utf8.acceptRanges", laid_unicode_utf8_acceptRanges), ("unicode/utf8.first", laid_unicode_utf8_first)], narrowed := true }
def FnExactRepoPutUptoSaid : Prop := fnExactRepoPutUptoRow.holds Tryd.pinned (OpenSpec.upto fnExactRepoPutSpec)

end Rows
end Go.Proofs.YtlhkmgbmnbkaeaaDoor
